/- PermOnes: every Check, Inverse, Inversions, Swapped and Rank answers as the document's: the law returns true. No condition. -/
import Derived.Test.YtibjpclmiaimaaaPmOneR
namespace Go.Proofs.Ytibjpclmiaimaaa.lawPermOnes
open Go.RowKit Go.Tk Go.ChangeShapes Go.WideShapes

theorem own : ownKnob Try.prog.godebug = none := by kernel_rfl
theorem laidOut : laidOutB Try.prog = true := by kernel_rfl

set_option maxRecDepth 100000 in
theorem lift (os : Os) (started : os.Started) (H : Type) (enc : TypeId × Value → H) :
    ReturnsInHanded {} Try.checked os 6 .any (Rows.permOnesSpec.pre6 enc Try.prog Try.f6 [] false) (Rows.permOnesSpec.post enc Try.prog Try.f6 false true false false) :=
  lifted (C := Try.checked) (n := 12) (sh := [(false, [.slice 8 intKs]), (false, [.int .i64])]) started enc own laidOut (by kernel_rfl) Try.func6 (by kernel_rfl) rfl Try.underlying4 rfl
    (fun ds h => by match ds, h with | [_, _], _ => rfl) (by kernel_rfl)
    (ChangeSpec.witness6 (enc := enc) (C := Try.checked) false ⟨#[], #[.slice none 0 0, .int .i64 0], []⟩ 8 (by kernel_rfl) (by kernel_rfl) (by kernel_rfl) (by kernel_rfl))
    (fun W args h => by
      obtain ⟨v0, vs0, rfl, h0, r0⟩ := h
      obtain ⟨v1, vs1, rfl, h1, rfl⟩ := r0
      obtain ⟨A1, n1, c1, xs, rfl, hnc1, _, hb1, hs1⟩ := slice_ok icell (by decide) icell_of h0
      obtain ⟨l, rfl, _⟩ := h1
      exact ones_walk A1 n1 c1 xs l W hs1 (Nat.le_trans (Nat.mul_le_mul_right 8 hnc1) hb1) hnc1)

theorem proved : Rows.PermOnesSaid :=
  OpenClaim.holds_of_wide 6 Try.f6 rfl rfl rfl rfl rfl rfl rfl ⟨rfl, rfl, rfl, rfl, rfl⟩ rfl rfl rfl rfl rfl (by kernel_rfl) Try.func6 (by kernel_rfl)
    (of_decide_eq_true (by kernel_rfl)) (by unfold Func.isWrapper; first | (rw [if_pos (by decide +kernel)]; kernel_rfl) | (rw [if_neg (by decide +kernel)]; exact ⟨rfl, rfl⟩))
    (fun os started H enc _ => lift os started H enc)
end Go.Proofs.Ytibjpclmiaimaaa.lawPermOnes
