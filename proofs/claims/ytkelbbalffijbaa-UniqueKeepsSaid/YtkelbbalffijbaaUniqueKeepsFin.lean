/- UniqueKeeps: what Refs answers is a new list each time and nobody else's, and two tables have nothing to do with one another: the law returns true. No condition. -/
import Derived.Test.YtkelbbalffijbaaJUniqueKeeps4
namespace Go.Proofs.Ytkelbbalffijbaa.lawUniqueKeeps
open Go.RowKit Go.Tk Go.ChangeShapes Go.WideShapes

theorem own : ownKnob Try.prog.godebug = none := by kernel_rfl
theorem laidOut : laidOutB Try.prog = true := by kernel_rfl

set_option maxRecDepth 100000 in
theorem lift (os : Os) (started : os.Started) (H : Type) (enc : TypeId × Value → H) :
    ReturnsInHanded {} Try.checked os 5 .any (Rows.uniqueKeepsSpec.pre6 enc Try.prog Try.f5 [] false) (Rows.uniqueKeepsSpec.post enc Try.prog Try.f5 false true false false) :=
  lifted (C := Try.checked) (n := 12) (sh := [(false, [.int .i64]), (false, [.slice 32 opuKs]), (false, [.int .i64])]) started enc own laidOut (by kernel_rfl) Try.func5 (by kernel_rfl) rfl Try.underlying4 rfl
    (fun ds h => by match ds, h with | [_, _, _], _ => rfl) (by kernel_rfl)
    (ChangeSpec.witness6 (enc := enc) (C := Try.checked) false ⟨#[], #[.int .i64 0, .slice none 0 0, .int .i64 0], []⟩ 8 (by kernel_rfl) (by kernel_rfl) (by kernel_rfl) (by kernel_rfl))
    (fun W args h => by
      obtain ⟨v0, vs0, rfl, h0, r0⟩ := h
      obtain ⟨v1, vs1, rfl, h1, r1⟩ := r0
      obtain ⟨v2, vs2, rfl, h2, rfl⟩ := r1
      obtain ⟨p, rfl, _⟩ := h0
      obtain ⟨A, n, c, ops, rfl, hnc, hb, hs, hok⟩ := opu_ok h1
      obtain ⟨v, rfl, hvw⟩ := h2
      exact (uniqueKeeps_any p A n c ops v hvw hok W hs (Nat.le_trans (Nat.mul_le_mul_right 32 hnc) (Nat.le_trans hb (by decide)))).mono fun e W' ⟨he, hs⟩ => ⟨he, hs.to_below (Nat.le_refl _) (fun _ _ h => h)⟩)

theorem proved : Rows.UniqueKeepsSaid :=
  OpenClaim.holds_of_wide 5 Try.f5 rfl rfl rfl rfl rfl rfl rfl ⟨rfl, rfl, rfl, rfl, rfl⟩ rfl rfl rfl rfl rfl (by kernel_rfl) Try.func5 (by kernel_rfl)
    (of_decide_eq_true (by kernel_rfl)) (by unfold Func.isWrapper; first | (rw [if_pos (by decide +kernel)]; kernel_rfl) | (rw [if_neg (by decide +kernel)]; exact ⟨rfl, rfl⟩))
    (fun os started H enc _ => lift os started H enc)
end Go.Proofs.Ytkelbbalffijbaa.lawUniqueKeeps
