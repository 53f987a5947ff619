/- UniqueMany: many nodes, some of them the same, are put in, found, taken out and counted as they must be: the law returns true. No condition. -/
import Derived.Test.YtkelbbalffijbaaJUniqueMany4
namespace Go.Proofs.Ytkelbbalffijbaa.lawUniqueMany
open Go.RowKit Go.Tk Go.ChangeShapes Go.WideShapes

theorem own : ownKnob Try.prog.godebug = none := by kernel_rfl
theorem laidOut : laidOutB Try.prog = true := by kernel_rfl

set_option maxRecDepth 100000 in
theorem lift (os : Os) (started : os.Started) (H : Type) (enc : TypeId × Value → H) :
    ReturnsInHanded {} Try.checked os 6 .any (Rows.uniqueManySpec.pre6 enc Try.prog Try.f6 [] false) (Rows.uniqueManySpec.post enc Try.prog Try.f6 false true false false) :=
  lifted (C := Try.checked) (n := 12) (sh := [(false, [.int .i64]), (false, [.int .i64]), (false, [.int .u32]), (false, [.int .u32])]) started enc own laidOut (by kernel_rfl) Try.func6 (by kernel_rfl) rfl Try.underlying4 rfl
    (fun ds h => by match ds, h with | [_, _, _, _], _ => rfl) (by kernel_rfl)
    (ChangeSpec.witness6 (enc := enc) (C := Try.checked) false ⟨#[], #[.int .i64 0, .int .i64 0, .int .u32 0, .int .u32 0], []⟩ 8 (by kernel_rfl) (by kernel_rfl) (by kernel_rfl) (by kernel_rfl))
    (fun W args h => by
      obtain ⟨v0, vs0, rfl, h0, r0⟩ := h
      obtain ⟨v1, vs1, rfl, h1, r1⟩ := r0
      obtain ⟨v2, vs2, rfl, h2, r2⟩ := r1
      obtain ⟨v3, vs3, rfl, h3, rfl⟩ := r2
      obtain ⟨p, rfl, _⟩ := h0
      obtain ⟨c, rfl, _⟩ := h1
      obtain ⟨s, rfl, hs0⟩ := h2
      obtain ⟨t, rfl, ht0⟩ := h3
      obtain ⟨s, rfl⟩ := Int.eq_ofNat_of_zero_le (u32_nn hs0)
      obtain ⟨t, rfl⟩ := Int.eq_ofNat_of_zero_le (u32_nn ht0)
      exact (uniqueMany_any p c s t W).mono fun e W' ⟨he, hs⟩ => ⟨he, hs.to_below (Nat.le_refl _) (fun _ _ h => h)⟩)

theorem proved : Rows.UniqueManySaid :=
  OpenClaim.holds_of_wide 6 Try.f6 rfl rfl rfl rfl rfl rfl rfl ⟨rfl, rfl, rfl, rfl, rfl⟩ rfl rfl rfl rfl rfl (by kernel_rfl) Try.func6 (by kernel_rfl)
    (of_decide_eq_true (by kernel_rfl)) (by unfold Func.isWrapper; first | (rw [if_pos (by decide +kernel)]; kernel_rfl) | (rw [if_neg (by decide +kernel)]; exact ⟨rfl, rfl⟩))
    (fun os started H enc _ => lift os started H enc)
end Go.Proofs.Ytkelbbalffijbaa.lawUniqueMany
