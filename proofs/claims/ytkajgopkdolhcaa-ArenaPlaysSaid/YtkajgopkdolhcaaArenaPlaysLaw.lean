/- ArenaPlays: every script of calls of an arena beside the reference's: the same errors, what stands where, how often it is counted: the law returns true. No condition. -/
import Derived.Test.YtkajgopkdolhcaaArPlaysR
namespace Go.Proofs.Ytkajgopkdolhcaa.lawArenaPlays
open Go.RowKit Go.Tk Go.ChangeShapes Go.WideShapes

theorem own : ownKnob Try.prog.godebug = none := by kernel_rfl
theorem laidOut : laidOutB Try.prog = true := by kernel_rfl

set_option maxRecDepth 100000 in
theorem lift (os : Os) (started : os.Started) (H : Type) (enc : TypeId × Value → H) :
    ReturnsInHanded {} Try.checked os 4 .any (Rows.arenaPlaysSpec.pre6 enc Try.prog Try.f4 [] false) (Rows.arenaPlaysSpec.post enc Try.prog Try.f4 false true false false) :=
  lifted (C := Try.checked) (n := 12) (sh := [(false, [.int .i64]), (false, [.slice 56 aopKs])]) started enc own laidOut (by kernel_rfl) Try.func4 (by kernel_rfl) rfl Try.underlying4 rfl
    (fun ds h => by match ds, h with | [_, _], _ => rfl) (by kernel_rfl)
    (ChangeSpec.witness6 (enc := enc) (C := Try.checked) false ⟨#[], #[.int .i64 0, .slice none 0 0], []⟩ 8 (by kernel_rfl) (by kernel_rfl) (by kernel_rfl) (by kernel_rfl))
    (fun W args h => by
      obtain ⟨v0, vs0, rfl, h0, r0⟩ := h
      obtain ⟨v1, vs1, rfl, h1, rfl⟩ := r0
      obtain ⟨p, rfl, _⟩ := h0
      obtain ⟨A, n, c, ops, rfl, hnc, _, hb, hs⟩ := slice_ok AOp.cells (by decide) aop_of h1
      exact plays_walk p A n c ops W hs (Nat.le_trans (Nat.mul_le_mul_right 56 hnc) hb))

theorem proved : Rows.ArenaPlaysSaid :=
  OpenClaim.holds_of_wide 4 Try.f4 rfl rfl rfl rfl rfl rfl rfl ⟨rfl, rfl, rfl, rfl, rfl⟩ rfl rfl rfl rfl rfl (by kernel_rfl) Try.func4 (by kernel_rfl)
    (of_decide_eq_true (by kernel_rfl)) (by unfold Func.isWrapper; first | (rw [if_pos (by decide +kernel)]; kernel_rfl) | (rw [if_neg (by decide +kernel)]; exact ⟨rfl, rfl⟩))
    (fun os started H enc _ => lift os started H enc)
end Go.Proofs.Ytkajgopkdolhcaa.lawArenaPlays
