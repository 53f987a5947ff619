/- KernelFixed: the document's examples: the law returns true. No condition. -/
import Derived.Test.YtiomgckodmecbaaGreatJKernelFixed10
namespace Go.Proofs.YtiomgckodmecbaaGreat.lawKernelFixed
open Go.RowKit Go.Tk Go.ChangeShapes Go.WideShapes

theorem own : ownKnob Tryz.prog.godebug = none := by kernel_rfl
theorem laidOut : laidOutB Tryz.prog = true := by kernel_rfl

set_option maxRecDepth 100000 in
theorem lift (os : Os) (started : os.Started) (H : Type) (enc : TypeId × Value → H) :
    ReturnsInHanded {} Tryz.checked os 4 .any (Rows.kernelFixedSpec.pre6 enc Tryz.prog Tryz.f4 [] false) (Rows.kernelFixedSpec.post enc Tryz.prog Tryz.f4 false true false false) :=
  lifted (C := Tryz.checked) (n := 12) (sh := []) started enc own laidOut (by kernel_rfl) Tryz.func4 (by kernel_rfl) rfl Tryz.underlying4 rfl
    (fun ds h => by match ds, h with | [], _ => rfl) (by kernel_rfl)
    (ChangeSpec.witness6 (enc := enc) (C := Tryz.checked) false ⟨#[], #[], []⟩ 8 (by kernel_rfl) (by kernel_rfl) (by kernel_rfl) (by kernel_rfl))
    (fun W args h => by
      obtain rfl := h
      exact (kernelFixed_any W).mono fun e W' ⟨he, hs⟩ => ⟨he, hs.to_below (Nat.le_refl _) (fun _ _ h => h)⟩)

theorem proved : Rows.KernelFixedSaid :=
  OpenClaim.holds_of_wide 4 Tryz.f4 rfl rfl rfl rfl rfl rfl rfl ⟨rfl, rfl, rfl, rfl, rfl⟩ rfl rfl rfl rfl rfl (by kernel_rfl) Tryz.func4 (by kernel_rfl)
    (of_decide_eq_true (by kernel_rfl)) (by unfold Func.isWrapper; first | (rw [if_pos (by decide +kernel)]; kernel_rfl) | (rw [if_neg (by decide +kernel)]; exact ⟨rfl, rfl⟩))
    (fun os started H enc _ => lift os started H enc)
end Go.Proofs.YtiomgckodmecbaaGreat.lawKernelFixed
