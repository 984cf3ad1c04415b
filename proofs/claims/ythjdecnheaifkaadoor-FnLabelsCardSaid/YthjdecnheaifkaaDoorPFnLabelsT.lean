/- What the functions that the law FnLabels reaches come to; no conditions. -/
import Derived.Test.YthjdecnheaifkaaDoorEng3
import Derived.Test.YthjdecnheaifkaaDoorShelf
import Derived.Test.YthjdecnheaifkaaDoorProg
set_option linter.unusedVariables false
set_option maxRecDepth 100000
namespace Go.Proofs.YthjdecnheaifkaaDoor.PFnLabels
open Go Go.Eng Go.Proofs
def z_u8 : Int := 0
def rd_u8 (xs : List Int) (i : Int) : Int := xs.getD i.toNat z_u8
def k_u8 : KT := ⟨Int, 5, 1, 1, z_u8, fun x => [.int .u8 x], fun cs => match cs with | [.int .u8 v0] => some v0 | _ => none, false, none⟩
theorem k_u8_ok : k_u8.Ok := KT_ok rfl rfl (fun _ => rfl) (fun _ => rfl) fun cs x h => by
  simp only [k_u8] at h ⊢
  split at h
  · obtain rfl := Option.some.inj h
    rfl
  · cases h
def z_i64 : Int := 0
def rd_i64 (xs : List Int) (i : Int) : Int := xs.getD i.toNat z_i64
def k_i64 : KT := ⟨Int, 3, 1, 8, z_i64, fun x => [.int .i64 x], fun cs => match cs with | [.int .i64 v0] => some v0 | _ => none, false, none⟩
theorem k_i64_ok : k_i64.Ok := KT_ok rfl rfl (fun _ => rfl) (fun _ => rfl) fun cs x h => by
  simp only [k_i64] at h ⊢
  split at h
  · obtain rfl := Option.some.inj h
    rfl
  · cases h
def z_string : ByteArray := (ByteArray.mk #[])
def rd_string (xs : List ByteArray) (i : Int) : ByteArray := xs.getD i.toNat z_string
def k_string : KT := ⟨ByteArray, 9, 1, 16, z_string, fun x => [.str x], fun cs => match cs with | [.str v0] => some v0 | _ => none, false, none⟩
theorem k_string_ok : k_string.Ok := KT_ok rfl rfl (fun _ => rfl) (fun _ => rfl) fun cs x h => by
  simp only [k_string] at h ⊢
  split at h
  · obtain rfl := Option.some.inj h
    rfl
  · cases h
theorem tot_u8 : ∀ xs, likes (k_u8.enc k_u8.zero) xs → ∃ a, k_u8.dec xs = some a := by
  intro xs h
  obtain ⟨n0, xs0, rfl, h0⟩ := likes_int h
  obtain rfl := likes_nil h0
  exact ⟨_, rfl⟩
theorem tot_i64 : ∀ xs, likes (k_i64.enc k_i64.zero) xs → ∃ a, k_i64.dec xs = some a := by
  intro xs h
  obtain ⟨n0, xs0, rfl, h0⟩ := likes_int h
  obtain rfl := likes_nil h0
  exact ⟨_, rfl⟩
theorem tot_string : ∀ xs, likes (k_string.enc k_string.zero) xs → ∃ a, k_string.dec xs = some a := by
  intro xs h
  obtain ⟨n0, xs0, rfl, h0⟩ := likes_str h
  obtain rfl := likes_nil h0
  exact ⟨_, rfl⟩
def κ : Nat → KT := fun n => ([k_u8, k_i64, k_string][n]?).getD k_u8
theorem κ_ok : ∀ k, (κ k).Ok := getD_ok k_u8_ok (List.forall_mem_cons.2 ⟨k_u8_ok, (List.forall_mem_cons.2 ⟨k_i64_ok, (List.forall_mem_cons.2 ⟨k_string_ok, (List.forall_mem_nil _)⟩)⟩)⟩)
def tab : List (Nat × TI) := [(3, ⟨1, false, [], [.int .i64 (0 : Int)], none, false, false, some .i64⟩),
  (4, ⟨1, false, [], [.bool false], none, true, false, none⟩),
  (5, ⟨1, false, [], [.int .u8 (0 : Int)], none, false, false, some .u8⟩),
  (22, ⟨1, false, [], [.nilsl], some 0, false, false, none⟩),
  (29, ⟨1, false, [], [.nilsl], some 1, false, false, none⟩),
  (41, ⟨1, false, [], [.nilsl], some 2, false, false, none⟩),
  (44, ⟨3, true, [(0, 1, false), (1, 1, false), (2, 1, false)], [.nilsl, .int .i64 (0 : Int), .int .i64 (0 : Int)], none, false, false, none⟩)]
theorem kop : ∀ k, KOpen Tryd.prog (κ k) := getD_all (Q := KOpen Tryd.prog) (KOpen_of κ_ok k_u8_ok (by kernel_rfl) (by kernel_rfl) tot_u8) (List.forall_mem_cons.2 ⟨KOpen_of κ_ok k_u8_ok (by kernel_rfl) (by kernel_rfl) tot_u8, (List.forall_mem_cons.2 ⟨KOpen_of κ_ok k_i64_ok (by kernel_rfl) (by kernel_rfl) tot_i64, (List.forall_mem_cons.2 ⟨KOpen_of κ_ok k_string_ok (by kernel_rfl) (by kernel_rfl) tot_string, (List.forall_mem_nil _)⟩)⟩)⟩)
def ti : Nat → Option TI := assoc tab
def kO : TypeId → Option Nat := fun t => (ti t).bind TI.slk
theorem tok : ∀ t x, ti t = some x → TypeOK Tryd.prog κ t x := tab_ok (by kernel_rfl)
theorem mixed : Tryd.prog.follows .mixedOrders = true := by kernel_rfl
end Go.Proofs.YthjdecnheaifkaaDoor.PFnLabels
