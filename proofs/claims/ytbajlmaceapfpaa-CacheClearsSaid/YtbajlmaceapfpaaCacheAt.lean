/- The cache's hash and place of a question: the contract of (*Cache).at. -/
import Derived.Test.YtbajlmaceapfpaaRows
import Derived.Test.YtbajlmaceapfpaaReg
namespace Go.Proofs.Ytbajlmaceapfpaa
open Go.RowKit Go.Tk

def hmul (h r : Int) : Int := IntKind.u64.wrap (bits .xor .u64 h (IntKind.u64.wrap r) * 11400714819323198485)
def hs (h r : Int) : Int := bits .xor .u64 (hmul h r) (hmul h r / 536870912)
def hk (o a b c : Int) (n : Nat) : Int :=
 match n with
 | 0 => IntKind.u64.wrap (IntKind.u64.wrap o + 1)
 | 1 => hs (IntKind.u64.wrap (IntKind.u64.wrap o + 1)) a
 | 2 => hs (hs (IntKind.u64.wrap (IntKind.u64.wrap o + 1)) a) b
 | _ => hs (hs (hs (IntKind.u64.wrap (IntKind.u64.wrap o + 1)) a) b) c
theorem hs_bd (h r : Int) : 0 ≤ hs h r ∧ hs h r < 18446744073709551616 := by
  have := bounds_u64 (wf_bits .xor .u64 (hmul h r) (hmul h r / 536870912))
  unfold hs
  omega
theorem hk_bd (o a b c : Int) : 0 ≤ hk o a b c 3 ∧ hk o a b c 3 < 18446744073709551616 := hs_bd _ _
/-- the place of a question among n -/
def idx (n : Nat) (o a b c : Int) : Nat := (hk o a b c 3 % (n : Int)).toNat
theorem idx_lt {n : Nat} (hn : 0 < n) (o a b c : Int) : idx n o a b c < n := by
  unfold idx
  have h1 := Int.emod_nonneg (hk o a b c 3) (show (n : Int) ≠ 0 by omega)
  have h2 := Int.emod_lt_of_pos (hk o a b c 3) (show (0 : Int) < n by omega)
  omega

set_option maxHeartbeats 400000 in
theorem at_any (g L n i : Nat) (o a b c : Int) (w : World) (hi : idx n o a b c = i) (hc0 : w.cell? ⟨g, 0, none⟩ = some (.slice (some ⟨L, 0, none⟩) n n)) (hg : g < w.heap.size) (hn : 0 < n) (hn2 : n < 2000000) :
    Calls Try.prog 20 #[.pointer (some ⟨g, 0, none⟩), .agg #[.int .u8 o, .int .u32 a, .int .u32 b, .int .u32 c]] w fun e w' => e = .returned (.pointer (some ⟨L, i * 6, none⟩)) ∧ Same w w' := by
  have HI := Lib.hid hi
  clear hi
  have i0 : ∀ w, (Instr.index 68 (.agg #[.int .u32 a, .int .u32 b, .int .u32 c]) (.int .i64 0)).run Try.prog w = .ok (.int .u32 a) w := fun _ => by kernel_rfl
  have i1 : ∀ w, (Instr.index 68 (.agg #[.int .u32 a, .int .u32 b, .int .u32 c]) (.int .i64 1)).run Try.prog w = .ok (.int .u32 b) w := fun _ => by kernel_rfl
  have i2 : ∀ w, (Instr.index 68 (.agg #[.int .u32 a, .int .u32 b, .int .u32 c]) (.int .i64 2)).run Try.prog w = .ok (.int .u32 c) w := fun _ => by kernel_rfl
  go_enter Try.func20, Try.ntmps20
  go_wp2
  go_loop [5, 19] (fun h i => ∃ k : Nat, k ≤ 3 ∧ i = .int .i64 k ∧ h = .int .u64 (hk o a b c k)) (fun _ i => 3 - (intOf i).toNat)
  case atStart => exact ⟨0, by omega, rfl, rfl⟩
  case round =>
    obtain ⟨k, hk3, rfl, rfl⟩ := hrel
    match k, hk3 with
    | 0, _ =>
      go_wp2
      go_round
      case rel => exact ⟨1, by omega, rfl, rfl⟩
      case measure => simp [intOf]
    | 1, _ =>
      go_wp2
      go_round
      case rel => exact ⟨2, by omega, rfl, rfl⟩
      case measure => simp [intOf]
    | 2, _ =>
      go_wp2
      go_round
      case rel => exact ⟨3, by omega, rfl, rfl⟩
      case measure => simp [intOf]
    | 3, _ =>
      obtain ⟨X, hX⟩ : ∃ X, X = hk o a b c 3 := ⟨_, rfl⟩
      have h1 := Int.emod_nonneg X (show (n : Int) ≠ 0 by omega)
      have h2 := Int.emod_lt_of_pos X (show (0 : Int) < n by omega)
      obtain ⟨h3, h4⟩ := hk_bd o a b c
      rw [← hX] at h3 h4 ⊢
      have HX := Lib.hid hX
      clear hX i0 i1 i2
      go_wp2
      refine wp_quiet (by kernel_rfl) (by kernel_rfl) ?_
      repeat (any_goals (first | go_big_quiet_step (fail) | quiet_step (fail)))
      all_goals (refine wpQuiet_nil ?_; rintro _ ⟨q, rfl⟩)
      all_goals go_wp2
      go_ret
      refine ⟨?_, (((Frm.refl _ _).alloc _).trans (more_same _ _) (fun _ _ h => h))⟩
      rw [← HI.out, show idx n o a b c = (X % (n : Int)).toNat from by rw [HX.out]; rfl]
      rfl
end Go.Proofs.Ytbajlmaceapfpaa
