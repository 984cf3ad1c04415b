/- What the functions that the law FnExactSnapshotText reaches come to; no conditions. -/
import Derived.Test.YthingkcckjiniaaDoorEng3
import Derived.Test.YthingkcckjiniaaDoorShelf
import Derived.Test.YthingkcckjiniaaDoorProg
set_option linter.unusedVariables false
set_option maxRecDepth 100000
namespace Go.Proofs.YthingkcckjiniaaDoor.PFnExactSnapshotText
open Go Go.Eng Go.Proofs
structure T_laws_Pattern where
  f0 : Int
  f1 : Int
structure T_laws_Grant where
  f0 : Int
  f1 : T_laws_Pattern
  f2 : Int
  f3 : Int
  f4 : Int
  f5 : Bool
structure T_laws_Flow where
  f0 : Int
  f1 : Int
  f2 : Int
structure T_laws_Site where
  f0 : Int
  f1 : Int
structure T_laws_Rule where
  f0 : Int
  f1 : Int
  f2 : T_laws_Pattern
  f3 : Int
  f4 : Int
  f5 : T_laws_Site
structure T_laws_Op where
  f0 : Int
  f1 : Int
  f2 : Int
  f3 : Int
structure T_laws_Stored where
  f0 : Int
  f1 : Int
  f2 : Int
  f3 : Int
structure T_impl_Pattern where
  f0 : Int
  f1 : Int
structure T_impl_Grant where
  f0 : Int
  f1 : T_impl_Pattern
  f2 : Int
  f3 : Int
  f4 : Int
  f5 : Bool
structure T_impl_Flow where
  f0 : Int
  f1 : Int
  f2 : Int
structure T_impl_Site where
  f0 : Int
  f1 : Int
structure T_impl_Rule where
  f0 : Int
  f1 : Int
  f2 : T_impl_Pattern
  f3 : Int
  f4 : Int
  f5 : T_impl_Site
structure T_impl_Op where
  f0 : Int
  f1 : Int
  f2 : Int
  f3 : Int
structure T_impl_Stored where
  f0 : Int
  f1 : Int
  f2 : Int
  f3 : Int
def z_laws_Grant : T_laws_Grant := ⟨0, ⟨0, 0⟩, 0, 0, 0, false⟩
def rd_laws_Grant (xs : List T_laws_Grant) (i : Int) : T_laws_Grant := xs.getD i.toNat z_laws_Grant
def k_laws_Grant : KT := ⟨T_laws_Grant, 77, 7, 56, z_laws_Grant, fun x => [.int .i64 x.f0, .int .i64 x.f1.f0, .int .i64 x.f1.f1, .int .i64 x.f2, .int .i64 x.f3, .int .i64 x.f4, .bool x.f5], fun cs => match cs with | [.int .i64 v0, .int .i64 v1, .int .i64 v2, .int .i64 v3, .int .i64 v4, .int .i64 v5, .bool v6] => some (⟨v0, (⟨v1, v2⟩ : T_laws_Pattern), v3, v4, v5, v6⟩ : T_laws_Grant) | _ => none, true, some (tabPin 0)⟩
theorem k_laws_Grant_ok : k_laws_Grant.Ok := KT_ok rfl rfl (fun _ => rfl) (fun _ => rfl) fun cs x h => by
  simp only [k_laws_Grant] at h ⊢
  split at h
  · obtain rfl := Option.some.inj h
    rfl
  · cases h
def z_laws_Flow : T_laws_Flow := ⟨0, 0, 0⟩
def rd_laws_Flow (xs : List T_laws_Flow) (i : Int) : T_laws_Flow := xs.getD i.toNat z_laws_Flow
def k_laws_Flow : KT := ⟨T_laws_Flow, 81, 3, 24, z_laws_Flow, fun x => [.int .i64 x.f0, .int .i64 x.f1, .int .i64 x.f2], fun cs => match cs with | [.int .i64 v0, .int .i64 v1, .int .i64 v2] => some (⟨v0, v1, v2⟩ : T_laws_Flow) | _ => none, true, some (tabPin 0)⟩
theorem k_laws_Flow_ok : k_laws_Flow.Ok := KT_ok rfl rfl (fun _ => rfl) (fun _ => rfl) fun cs x h => by
  simp only [k_laws_Flow] at h ⊢
  split at h
  · obtain rfl := Option.some.inj h
    rfl
  · cases h
def z_laws_Rule : T_laws_Rule := ⟨0, 0, ⟨0, 0⟩, 0, 0, ⟨0, 0⟩⟩
def rd_laws_Rule (xs : List T_laws_Rule) (i : Int) : T_laws_Rule := xs.getD i.toNat z_laws_Rule
def k_laws_Rule : KT := ⟨T_laws_Rule, 88, 8, 64, z_laws_Rule, fun x => [.int .i64 x.f0, .int .i64 x.f1, .int .i64 x.f2.f0, .int .i64 x.f2.f1, .int .i64 x.f3, .int .i64 x.f4, .int .i64 x.f5.f0, .int .i64 x.f5.f1], fun cs => match cs with | [.int .i64 v0, .int .i64 v1, .int .i64 v2, .int .i64 v3, .int .i64 v4, .int .i64 v5, .int .i64 v6, .int .i64 v7] => some (⟨v0, v1, (⟨v2, v3⟩ : T_laws_Pattern), v4, v5, (⟨v6, v7⟩ : T_laws_Site)⟩ : T_laws_Rule) | _ => none, true, some (tabPin 0)⟩
theorem k_laws_Rule_ok : k_laws_Rule.Ok := KT_ok rfl rfl (fun _ => rfl) (fun _ => rfl) fun cs x h => by
  simp only [k_laws_Rule] at h ⊢
  split at h
  · obtain rfl := Option.some.inj h
    rfl
  · cases h
def z_laws_Op : T_laws_Op := ⟨0, 0, 0, 0⟩
def rd_laws_Op (xs : List T_laws_Op) (i : Int) : T_laws_Op := xs.getD i.toNat z_laws_Op
def k_laws_Op : KT := ⟨T_laws_Op, 92, 4, 32, z_laws_Op, fun x => [.int .i64 x.f0, .int .i64 x.f1, .int .i64 x.f2, .int .i64 x.f3], fun cs => match cs with | [.int .i64 v0, .int .i64 v1, .int .i64 v2, .int .i64 v3] => some (⟨v0, v1, v2, v3⟩ : T_laws_Op) | _ => none, true, some (tabPin 0)⟩
theorem k_laws_Op_ok : k_laws_Op.Ok := KT_ok rfl rfl (fun _ => rfl) (fun _ => rfl) fun cs x h => by
  simp only [k_laws_Op] at h ⊢
  split at h
  · obtain rfl := Option.some.inj h
    rfl
  · cases h
def z_laws_Stored : T_laws_Stored := ⟨0, 0, 0, 0⟩
def rd_laws_Stored (xs : List T_laws_Stored) (i : Int) : T_laws_Stored := xs.getD i.toNat z_laws_Stored
def k_laws_Stored : KT := ⟨T_laws_Stored, 64, 4, 32, z_laws_Stored, fun x => [.int .i64 x.f0, .int .i64 x.f1, .int .i64 x.f2, .int .i64 x.f3], fun cs => match cs with | [.int .i64 v0, .int .i64 v1, .int .i64 v2, .int .i64 v3] => some (⟨v0, v1, v2, v3⟩ : T_laws_Stored) | _ => none, true, some (tabPin 0)⟩
theorem k_laws_Stored_ok : k_laws_Stored.Ok := KT_ok rfl rfl (fun _ => rfl) (fun _ => rfl) fun cs x h => by
  simp only [k_laws_Stored] at h ⊢
  split at h
  · obtain rfl := Option.some.inj h
    rfl
  · cases h
def z_impl_Grant : T_impl_Grant := ⟨0, ⟨0, 0⟩, 0, 0, 0, false⟩
def rd_impl_Grant (xs : List T_impl_Grant) (i : Int) : T_impl_Grant := xs.getD i.toNat z_impl_Grant
def k_impl_Grant : KT := ⟨T_impl_Grant, 73, 7, 56, z_impl_Grant, fun x => [.int .i64 x.f0, .int .i64 x.f1.f0, .int .i64 x.f1.f1, .int .i64 x.f2, .int .i64 x.f3, .int .i64 x.f4, .bool x.f5], fun cs => match cs with | [.int .i64 v0, .int .i64 v1, .int .i64 v2, .int .i64 v3, .int .i64 v4, .int .i64 v5, .bool v6] => some (⟨v0, (⟨v1, v2⟩ : T_impl_Pattern), v3, v4, v5, v6⟩ : T_impl_Grant) | _ => none, true, some (tabPin 0)⟩
theorem k_impl_Grant_ok : k_impl_Grant.Ok := KT_ok rfl rfl (fun _ => rfl) (fun _ => rfl) fun cs x h => by
  simp only [k_impl_Grant] at h ⊢
  split at h
  · obtain rfl := Option.some.inj h
    rfl
  · cases h
def z_impl_Flow : T_impl_Flow := ⟨0, 0, 0⟩
def rd_impl_Flow (xs : List T_impl_Flow) (i : Int) : T_impl_Flow := xs.getD i.toNat z_impl_Flow
def k_impl_Flow : KT := ⟨T_impl_Flow, 79, 3, 24, z_impl_Flow, fun x => [.int .i64 x.f0, .int .i64 x.f1, .int .i64 x.f2], fun cs => match cs with | [.int .i64 v0, .int .i64 v1, .int .i64 v2] => some (⟨v0, v1, v2⟩ : T_impl_Flow) | _ => none, true, some (tabPin 0)⟩
theorem k_impl_Flow_ok : k_impl_Flow.Ok := KT_ok rfl rfl (fun _ => rfl) (fun _ => rfl) fun cs x h => by
  simp only [k_impl_Flow] at h ⊢
  split at h
  · obtain rfl := Option.some.inj h
    rfl
  · cases h
def z_impl_Rule : T_impl_Rule := ⟨0, 0, ⟨0, 0⟩, 0, 0, ⟨0, 0⟩⟩
def rd_impl_Rule (xs : List T_impl_Rule) (i : Int) : T_impl_Rule := xs.getD i.toNat z_impl_Rule
def k_impl_Rule : KT := ⟨T_impl_Rule, 84, 8, 64, z_impl_Rule, fun x => [.int .i64 x.f0, .int .i64 x.f1, .int .i64 x.f2.f0, .int .i64 x.f2.f1, .int .i64 x.f3, .int .i64 x.f4, .int .i64 x.f5.f0, .int .i64 x.f5.f1], fun cs => match cs with | [.int .i64 v0, .int .i64 v1, .int .i64 v2, .int .i64 v3, .int .i64 v4, .int .i64 v5, .int .i64 v6, .int .i64 v7] => some (⟨v0, v1, (⟨v2, v3⟩ : T_impl_Pattern), v4, v5, (⟨v6, v7⟩ : T_impl_Site)⟩ : T_impl_Rule) | _ => none, true, some (tabPin 0)⟩
theorem k_impl_Rule_ok : k_impl_Rule.Ok := KT_ok rfl rfl (fun _ => rfl) (fun _ => rfl) fun cs x h => by
  simp only [k_impl_Rule] at h ⊢
  split at h
  · obtain rfl := Option.some.inj h
    rfl
  · cases h
def z_impl_Op : T_impl_Op := ⟨0, 0, 0, 0⟩
def rd_impl_Op (xs : List T_impl_Op) (i : Int) : T_impl_Op := xs.getD i.toNat z_impl_Op
def k_impl_Op : KT := ⟨T_impl_Op, 90, 4, 32, z_impl_Op, fun x => [.int .i64 x.f0, .int .i64 x.f1, .int .i64 x.f2, .int .i64 x.f3], fun cs => match cs with | [.int .i64 v0, .int .i64 v1, .int .i64 v2, .int .i64 v3] => some (⟨v0, v1, v2, v3⟩ : T_impl_Op) | _ => none, true, some (tabPin 0)⟩
theorem k_impl_Op_ok : k_impl_Op.Ok := KT_ok rfl rfl (fun _ => rfl) (fun _ => rfl) fun cs x h => by
  simp only [k_impl_Op] at h ⊢
  split at h
  · obtain rfl := Option.some.inj h
    rfl
  · cases h
def z_impl_Stored : T_impl_Stored := ⟨0, 0, 0, 0⟩
def rd_impl_Stored (xs : List T_impl_Stored) (i : Int) : T_impl_Stored := xs.getD i.toNat z_impl_Stored
def k_impl_Stored : KT := ⟨T_impl_Stored, 62, 4, 32, z_impl_Stored, fun x => [.int .i64 x.f0, .int .i64 x.f1, .int .i64 x.f2, .int .i64 x.f3], fun cs => match cs with | [.int .i64 v0, .int .i64 v1, .int .i64 v2, .int .i64 v3] => some (⟨v0, v1, v2, v3⟩ : T_impl_Stored) | _ => none, true, some (tabPin 0)⟩
theorem k_impl_Stored_ok : k_impl_Stored.Ok := KT_ok rfl rfl (fun _ => rfl) (fun _ => rfl) fun cs x h => by
  simp only [k_impl_Stored] at h ⊢
  split at h
  · obtain rfl := Option.some.inj h
    rfl
  · cases h
def z_u8 : Int := 0
def rd_u8 (xs : List Int) (i : Int) : Int := xs.getD i.toNat z_u8
def k_u8 : KT := ⟨Int, 5, 1, 1, z_u8, fun x => [.int .u8 x], fun cs => match cs with | [.int .u8 v0] => some v0 | _ => none, true, some (tabPin 0)⟩
theorem k_u8_ok : k_u8.Ok := KT_ok rfl rfl (fun _ => rfl) (fun _ => rfl) fun cs x h => by
  simp only [k_u8] at h ⊢
  split at h
  · obtain rfl := Option.some.inj h
    rfl
  · cases h
theorem tot_laws_Grant : ∀ xs, likes (k_laws_Grant.enc k_laws_Grant.zero) xs → ∃ a, k_laws_Grant.dec xs = some a := by
  intro xs h
  obtain ⟨n0, xs0, rfl, h0⟩ := likes_int h
  obtain ⟨n1, xs1, rfl, h1⟩ := likes_int h0
  obtain ⟨n2, xs2, rfl, h2⟩ := likes_int h1
  obtain ⟨n3, xs3, rfl, h3⟩ := likes_int h2
  obtain ⟨n4, xs4, rfl, h4⟩ := likes_int h3
  obtain ⟨n5, xs5, rfl, h5⟩ := likes_int h4
  obtain ⟨n6, xs6, rfl, h6⟩ := likes_bool h5
  obtain rfl := likes_nil h6
  exact ⟨_, rfl⟩
theorem tot_laws_Flow : ∀ xs, likes (k_laws_Flow.enc k_laws_Flow.zero) xs → ∃ a, k_laws_Flow.dec xs = some a := by
  intro xs h
  obtain ⟨n0, xs0, rfl, h0⟩ := likes_int h
  obtain ⟨n1, xs1, rfl, h1⟩ := likes_int h0
  obtain ⟨n2, xs2, rfl, h2⟩ := likes_int h1
  obtain rfl := likes_nil h2
  exact ⟨_, rfl⟩
theorem tot_laws_Rule : ∀ xs, likes (k_laws_Rule.enc k_laws_Rule.zero) xs → ∃ a, k_laws_Rule.dec xs = some a := by
  intro xs h
  obtain ⟨n0, xs0, rfl, h0⟩ := likes_int h
  obtain ⟨n1, xs1, rfl, h1⟩ := likes_int h0
  obtain ⟨n2, xs2, rfl, h2⟩ := likes_int h1
  obtain ⟨n3, xs3, rfl, h3⟩ := likes_int h2
  obtain ⟨n4, xs4, rfl, h4⟩ := likes_int h3
  obtain ⟨n5, xs5, rfl, h5⟩ := likes_int h4
  obtain ⟨n6, xs6, rfl, h6⟩ := likes_int h5
  obtain ⟨n7, xs7, rfl, h7⟩ := likes_int h6
  obtain rfl := likes_nil h7
  exact ⟨_, rfl⟩
theorem tot_laws_Op : ∀ xs, likes (k_laws_Op.enc k_laws_Op.zero) xs → ∃ a, k_laws_Op.dec xs = some a := by
  intro xs h
  obtain ⟨n0, xs0, rfl, h0⟩ := likes_int h
  obtain ⟨n1, xs1, rfl, h1⟩ := likes_int h0
  obtain ⟨n2, xs2, rfl, h2⟩ := likes_int h1
  obtain ⟨n3, xs3, rfl, h3⟩ := likes_int h2
  obtain rfl := likes_nil h3
  exact ⟨_, rfl⟩
theorem tot_laws_Stored : ∀ xs, likes (k_laws_Stored.enc k_laws_Stored.zero) xs → ∃ a, k_laws_Stored.dec xs = some a := by
  intro xs h
  obtain ⟨n0, xs0, rfl, h0⟩ := likes_int h
  obtain ⟨n1, xs1, rfl, h1⟩ := likes_int h0
  obtain ⟨n2, xs2, rfl, h2⟩ := likes_int h1
  obtain ⟨n3, xs3, rfl, h3⟩ := likes_int h2
  obtain rfl := likes_nil h3
  exact ⟨_, rfl⟩
theorem tot_impl_Grant : ∀ xs, likes (k_impl_Grant.enc k_impl_Grant.zero) xs → ∃ a, k_impl_Grant.dec xs = some a := by
  intro xs h
  obtain ⟨n0, xs0, rfl, h0⟩ := likes_int h
  obtain ⟨n1, xs1, rfl, h1⟩ := likes_int h0
  obtain ⟨n2, xs2, rfl, h2⟩ := likes_int h1
  obtain ⟨n3, xs3, rfl, h3⟩ := likes_int h2
  obtain ⟨n4, xs4, rfl, h4⟩ := likes_int h3
  obtain ⟨n5, xs5, rfl, h5⟩ := likes_int h4
  obtain ⟨n6, xs6, rfl, h6⟩ := likes_bool h5
  obtain rfl := likes_nil h6
  exact ⟨_, rfl⟩
theorem tot_impl_Flow : ∀ xs, likes (k_impl_Flow.enc k_impl_Flow.zero) xs → ∃ a, k_impl_Flow.dec xs = some a := by
  intro xs h
  obtain ⟨n0, xs0, rfl, h0⟩ := likes_int h
  obtain ⟨n1, xs1, rfl, h1⟩ := likes_int h0
  obtain ⟨n2, xs2, rfl, h2⟩ := likes_int h1
  obtain rfl := likes_nil h2
  exact ⟨_, rfl⟩
theorem tot_impl_Rule : ∀ xs, likes (k_impl_Rule.enc k_impl_Rule.zero) xs → ∃ a, k_impl_Rule.dec xs = some a := by
  intro xs h
  obtain ⟨n0, xs0, rfl, h0⟩ := likes_int h
  obtain ⟨n1, xs1, rfl, h1⟩ := likes_int h0
  obtain ⟨n2, xs2, rfl, h2⟩ := likes_int h1
  obtain ⟨n3, xs3, rfl, h3⟩ := likes_int h2
  obtain ⟨n4, xs4, rfl, h4⟩ := likes_int h3
  obtain ⟨n5, xs5, rfl, h5⟩ := likes_int h4
  obtain ⟨n6, xs6, rfl, h6⟩ := likes_int h5
  obtain ⟨n7, xs7, rfl, h7⟩ := likes_int h6
  obtain rfl := likes_nil h7
  exact ⟨_, rfl⟩
theorem tot_impl_Op : ∀ xs, likes (k_impl_Op.enc k_impl_Op.zero) xs → ∃ a, k_impl_Op.dec xs = some a := by
  intro xs h
  obtain ⟨n0, xs0, rfl, h0⟩ := likes_int h
  obtain ⟨n1, xs1, rfl, h1⟩ := likes_int h0
  obtain ⟨n2, xs2, rfl, h2⟩ := likes_int h1
  obtain ⟨n3, xs3, rfl, h3⟩ := likes_int h2
  obtain rfl := likes_nil h3
  exact ⟨_, rfl⟩
theorem tot_impl_Stored : ∀ xs, likes (k_impl_Stored.enc k_impl_Stored.zero) xs → ∃ a, k_impl_Stored.dec xs = some a := by
  intro xs h
  obtain ⟨n0, xs0, rfl, h0⟩ := likes_int h
  obtain ⟨n1, xs1, rfl, h1⟩ := likes_int h0
  obtain ⟨n2, xs2, rfl, h2⟩ := likes_int h1
  obtain ⟨n3, xs3, rfl, h3⟩ := likes_int h2
  obtain rfl := likes_nil h3
  exact ⟨_, rfl⟩
theorem tot_u8 : ∀ xs, likes (k_u8.enc k_u8.zero) xs → ∃ a, k_u8.dec xs = some a := by
  intro xs h
  obtain ⟨n0, xs0, rfl, h0⟩ := likes_int h
  obtain rfl := likes_nil h0
  exact ⟨_, rfl⟩
def κ : Nat → KT := fun n => ([k_laws_Grant, k_laws_Flow, k_laws_Rule, k_laws_Op, k_laws_Stored, k_impl_Grant, k_impl_Flow, k_impl_Rule, k_impl_Op, k_impl_Stored, k_u8][n]?).getD k_laws_Grant
theorem κ_ok : ∀ k, (κ k).Ok := getD_ok k_laws_Grant_ok (List.forall_mem_cons.2 ⟨k_laws_Grant_ok, (List.forall_mem_cons.2 ⟨k_laws_Flow_ok, (List.forall_mem_cons.2 ⟨k_laws_Rule_ok, (List.forall_mem_cons.2 ⟨k_laws_Op_ok, (List.forall_mem_cons.2 ⟨k_laws_Stored_ok, (List.forall_mem_cons.2 ⟨k_impl_Grant_ok, (List.forall_mem_cons.2 ⟨k_impl_Flow_ok, (List.forall_mem_cons.2 ⟨k_impl_Rule_ok, (List.forall_mem_cons.2 ⟨k_impl_Op_ok, (List.forall_mem_cons.2 ⟨k_impl_Stored_ok, (List.forall_mem_cons.2 ⟨k_u8_ok, (List.forall_mem_nil _)⟩)⟩)⟩)⟩)⟩)⟩)⟩)⟩)⟩)⟩)⟩)
def tab : List (Nat × TI) := [(3, ⟨1, false, [], [.int .i64 (0 : Int)], none, false, false, some .i64⟩),
  (4, ⟨1, false, [], [.bool false], none, true, false, none⟩),
  (5, ⟨1, false, [], [.int .u8 (0 : Int)], none, false, false, some .u8⟩),
  (9, ⟨1, false, [], [.str (ByteArray.mk #[])], none, false, true, none⟩),
  (22, ⟨1, false, [], [.nilsl], some 0, false, false, none⟩),
  (23, ⟨1, false, [], [.nilsl], some 1, false, false, none⟩),
  (24, ⟨1, false, [], [.nilsl], some 2, false, false, none⟩),
  (25, ⟨1, false, [], [.nilsl], some 3, false, false, none⟩),
  (27, ⟨8, true, [(0, 1, false), (1, 1, false), (2, 1, false), (3, 1, false), (4, 1, false), (5, 1, false), (6, 1, false), (7, 1, false)], [.int .i64 (0 : Int), .int .i64 (0 : Int), .int .i64 (0 : Int), .nilsl, .nilsl, .nilsl, .nilsl, .int .i64 (0 : Int)], none, false, false, none⟩),
  (28, ⟨1, false, [], [.nilsl], some 4, false, false, none⟩),
  (30, ⟨9, true, [(0, 8, true), (8, 1, false)], [.int .i64 (0 : Int), .int .i64 (0 : Int), .int .i64 (0 : Int), .nilsl, .nilsl, .nilsl, .nilsl, .int .i64 (0 : Int), .nilsl], none, false, false, none⟩),
  (33, ⟨1, false, [], [.nilsl], some 5, false, false, none⟩),
  (34, ⟨1, false, [], [.nilsl], some 6, false, false, none⟩),
  (35, ⟨1, false, [], [.nilsl], some 7, false, false, none⟩),
  (36, ⟨1, false, [], [.nilsl], some 8, false, false, none⟩),
  (38, ⟨8, true, [(0, 1, false), (1, 1, false), (2, 1, false), (3, 1, false), (4, 1, false), (5, 1, false), (6, 1, false), (7, 1, false)], [.int .i64 (0 : Int), .int .i64 (0 : Int), .int .i64 (0 : Int), .nilsl, .nilsl, .nilsl, .nilsl, .int .i64 (0 : Int)], none, false, false, none⟩),
  (39, ⟨1, false, [], [.nilsl], some 9, false, false, none⟩),
  (41, ⟨9, true, [(0, 8, true), (8, 1, false)], [.int .i64 (0 : Int), .int .i64 (0 : Int), .int .i64 (0 : Int), .nilsl, .nilsl, .nilsl, .nilsl, .int .i64 (0 : Int), .nilsl], none, false, false, none⟩),
  (56, ⟨1, false, [], [.nilsl], some 10, false, false, none⟩),
  (62, ⟨4, true, [(0, 1, false), (1, 1, false), (2, 1, false), (3, 1, false)], [.int .i64 (0 : Int), .int .i64 (0 : Int), .int .i64 (0 : Int), .int .i64 (0 : Int)], none, false, false, none⟩),
  (64, ⟨4, true, [(0, 1, false), (1, 1, false), (2, 1, false), (3, 1, false)], [.int .i64 (0 : Int), .int .i64 (0 : Int), .int .i64 (0 : Int), .int .i64 (0 : Int)], none, false, false, none⟩),
  (71, ⟨2, true, [(0, 1, false), (1, 1, false)], [.int .i64 (0 : Int), .int .i64 (0 : Int)], none, false, false, none⟩),
  (73, ⟨7, true, [(0, 1, false), (1, 2, true), (3, 1, false), (4, 1, false), (5, 1, false), (6, 1, false)], [.int .i64 (0 : Int), .int .i64 (0 : Int), .int .i64 (0 : Int), .int .i64 (0 : Int), .int .i64 (0 : Int), .int .i64 (0 : Int), .bool false], none, false, false, none⟩),
  (75, ⟨2, true, [(0, 1, false), (1, 1, false)], [.int .i64 (0 : Int), .int .i64 (0 : Int)], none, false, false, none⟩),
  (77, ⟨7, true, [(0, 1, false), (1, 2, true), (3, 1, false), (4, 1, false), (5, 1, false), (6, 1, false)], [.int .i64 (0 : Int), .int .i64 (0 : Int), .int .i64 (0 : Int), .int .i64 (0 : Int), .int .i64 (0 : Int), .int .i64 (0 : Int), .bool false], none, false, false, none⟩),
  (79, ⟨3, true, [(0, 1, false), (1, 1, false), (2, 1, false)], [.int .i64 (0 : Int), .int .i64 (0 : Int), .int .i64 (0 : Int)], none, false, false, none⟩),
  (81, ⟨3, true, [(0, 1, false), (1, 1, false), (2, 1, false)], [.int .i64 (0 : Int), .int .i64 (0 : Int), .int .i64 (0 : Int)], none, false, false, none⟩),
  (82, ⟨2, true, [(0, 1, false), (1, 1, false)], [.int .i64 (0 : Int), .int .i64 (0 : Int)], none, false, false, none⟩),
  (84, ⟨8, true, [(0, 1, false), (1, 1, false), (2, 2, true), (4, 1, false), (5, 1, false), (6, 2, true)], [.int .i64 (0 : Int), .int .i64 (0 : Int), .int .i64 (0 : Int), .int .i64 (0 : Int), .int .i64 (0 : Int), .int .i64 (0 : Int), .int .i64 (0 : Int), .int .i64 (0 : Int)], none, false, false, none⟩),
  (86, ⟨2, true, [(0, 1, false), (1, 1, false)], [.int .i64 (0 : Int), .int .i64 (0 : Int)], none, false, false, none⟩),
  (88, ⟨8, true, [(0, 1, false), (1, 1, false), (2, 2, true), (4, 1, false), (5, 1, false), (6, 2, true)], [.int .i64 (0 : Int), .int .i64 (0 : Int), .int .i64 (0 : Int), .int .i64 (0 : Int), .int .i64 (0 : Int), .int .i64 (0 : Int), .int .i64 (0 : Int), .int .i64 (0 : Int)], none, false, false, none⟩),
  (90, ⟨4, true, [(0, 1, false), (1, 1, false), (2, 1, false), (3, 1, false)], [.int .i64 (0 : Int), .int .i64 (0 : Int), .int .i64 (0 : Int), .int .i64 (0 : Int)], none, false, false, none⟩),
  (92, ⟨4, true, [(0, 1, false), (1, 1, false), (2, 1, false), (3, 1, false)], [.int .i64 (0 : Int), .int .i64 (0 : Int), .int .i64 (0 : Int), .int .i64 (0 : Int)], none, false, false, none⟩)]
theorem kop : ∀ k, KOpen Tryd.prog (κ k) := getD_all (Q := KOpen Tryd.prog) (KOpen_of κ_ok k_laws_Grant_ok (by kernel_rfl) (by kernel_rfl) tot_laws_Grant) (List.forall_mem_cons.2 ⟨KOpen_of κ_ok k_laws_Grant_ok (by kernel_rfl) (by kernel_rfl) tot_laws_Grant, (List.forall_mem_cons.2 ⟨KOpen_of κ_ok k_laws_Flow_ok (by kernel_rfl) (by kernel_rfl) tot_laws_Flow, (List.forall_mem_cons.2 ⟨KOpen_of κ_ok k_laws_Rule_ok (by kernel_rfl) (by kernel_rfl) tot_laws_Rule, (List.forall_mem_cons.2 ⟨KOpen_of κ_ok k_laws_Op_ok (by kernel_rfl) (by kernel_rfl) tot_laws_Op, (List.forall_mem_cons.2 ⟨KOpen_of κ_ok k_laws_Stored_ok (by kernel_rfl) (by kernel_rfl) tot_laws_Stored, (List.forall_mem_cons.2 ⟨KOpen_of κ_ok k_impl_Grant_ok (by kernel_rfl) (by kernel_rfl) tot_impl_Grant, (List.forall_mem_cons.2 ⟨KOpen_of κ_ok k_impl_Flow_ok (by kernel_rfl) (by kernel_rfl) tot_impl_Flow, (List.forall_mem_cons.2 ⟨KOpen_of κ_ok k_impl_Rule_ok (by kernel_rfl) (by kernel_rfl) tot_impl_Rule, (List.forall_mem_cons.2 ⟨KOpen_of κ_ok k_impl_Op_ok (by kernel_rfl) (by kernel_rfl) tot_impl_Op, (List.forall_mem_cons.2 ⟨KOpen_of κ_ok k_impl_Stored_ok (by kernel_rfl) (by kernel_rfl) tot_impl_Stored, (List.forall_mem_cons.2 ⟨KOpen_of κ_ok k_u8_ok (by kernel_rfl) (by kernel_rfl) tot_u8, (List.forall_mem_nil _)⟩)⟩)⟩)⟩)⟩)⟩)⟩)⟩)⟩)⟩)⟩)
def ti : Nat → Option TI := assoc tab
def kO : TypeId → Option Nat := fun t => (ti t).bind TI.slk
theorem tok : ∀ t x, ti t = some x → TypeOK Tryd.prog κ t x := tab_ok (by kernel_rfl)
theorem mixed : Tryd.prog.follows .mixedOrders = true := by kernel_rfl
end Go.Proofs.YthingkcckjiniaaDoor.PFnExactSnapshotText
