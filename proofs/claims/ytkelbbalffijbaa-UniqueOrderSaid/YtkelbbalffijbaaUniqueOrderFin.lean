/- UniqueOrder: nodes put in in another order are found all the same, and what was put in and taken out again has left nothing: the law returns true. No condition. -/
import Derived.Test.YtkelbbalffijbaaJUniqueOrder4
namespace Go.Proofs.Ytkelbbalffijbaa.lawUniqueOrder
open Go.RowKit Go.Tk Go.ChangeShapes Go.WideShapes

theorem own : ownKnob Try.prog.godebug = none := by kernel_rfl
theorem laidOut : laidOutB Try.prog = true := by kernel_rfl

set_option maxRecDepth 100000 in
theorem lift (os : Os) (started : os.Started) (H : Type) (enc : TypeId × Value → H) :
    ReturnsInHanded {} Try.checked os 7 .any (Rows.uniqueOrderSpec.pre6 enc Try.prog Try.f7 [] false) (Rows.uniqueOrderSpec.post enc Try.prog Try.f7 false true false false) :=
  lifted (C := Try.checked) (n := 12) (sh := [(false, [.int .i64]), (false, [.slice 32 opuKs]), (false, [.slice 32 opuKs])]) started enc own laidOut (by kernel_rfl) Try.func7 (by kernel_rfl) rfl Try.underlying4 rfl
    (fun ds h => by match ds, h with | [_, _, _], _ => rfl) (by kernel_rfl)
    (ChangeSpec.witness6 (enc := enc) (C := Try.checked) false ⟨#[], #[.int .i64 0, .slice none 0 0, .slice none 0 0], []⟩ 8 (by kernel_rfl) (by kernel_rfl) (by kernel_rfl) (by kernel_rfl))
    (fun W args h => by
      obtain ⟨v0, vs0, rfl, h0, r0⟩ := h
      obtain ⟨v1, vs1, rfl, h1, r1⟩ := r0
      obtain ⟨v2, vs2, rfl, h2, rfl⟩ := r1
      obtain ⟨p, rfl, _⟩ := h0
      obtain ⟨A1, n1, c1, xs, rfl, hnc1, hb1, hs1, hok1⟩ := opu_ok h1
      obtain ⟨A2, n2, c2, ys, rfl, hnc2, hb2, hs2, hok2⟩ := opu_ok h2
      exact (uniqueOrder_any p A1 A2 n1 n2 c1 c2 xs ys hok1 hok2 W hs1 hs2 (Nat.le_trans (Nat.mul_le_mul_right 32 hnc1) (Nat.le_trans hb1 (by decide))) (Nat.le_trans (Nat.mul_le_mul_right 32 hnc2) (Nat.le_trans hb2 (by decide)))).mono fun e W' ⟨he, hs⟩ => ⟨he, hs.to_below (Nat.le_refl _) (fun _ _ h => h)⟩)

theorem proved : Rows.UniqueOrderSaid :=
  OpenClaim.holds_of_wide 7 Try.f7 rfl rfl rfl rfl rfl rfl rfl ⟨rfl, rfl, rfl, rfl, rfl⟩ rfl rfl rfl rfl rfl (by kernel_rfl) Try.func7 (by kernel_rfl)
    (of_decide_eq_true (by kernel_rfl)) (by unfold Func.isWrapper; first | (rw [if_pos (by decide +kernel)]; kernel_rfl) | (rw [if_neg (by decide +kernel)]; exact ⟨rfl, rfl⟩))
    (fun os started H enc _ => lift os started H enc)
end Go.Proofs.Ytkelbbalffijbaa.lawUniqueOrder
