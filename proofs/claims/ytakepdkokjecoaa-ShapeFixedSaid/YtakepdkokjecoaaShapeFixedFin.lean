/- ShapeFixed: the document's examples and the order of errors: the law returns true. No condition. -/
import Derived.Test.YtakepdkokjecoaaJShapeFixed4
namespace Go.Proofs.Ytakepdkokjecoaa.lawShapeFixed
open Go.RowKit Go.Tk Go.ChangeShapes Go.WideShapes

theorem own : ownKnob Try.prog.godebug = none := by kernel_rfl
theorem laidOut : laidOutB Try.prog = true := by kernel_rfl

set_option maxRecDepth 100000 in
theorem lift (os : Os) (started : os.Started) (H : Type) (enc : TypeId × Value → H) :
    ReturnsInHanded {} Try.checked os 9 .any (Rows.shapeFixedSpec.pre6 enc Try.prog Try.f9 [] false) (Rows.shapeFixedSpec.post enc Try.prog Try.f9 false true false false) :=
  lifted (C := Try.checked) (n := 12) (sh := []) started enc own laidOut (by kernel_rfl) Try.func9 (by kernel_rfl) rfl Try.underlying4 rfl
    (fun ds h => by match ds, h with | [], _ => rfl) (by kernel_rfl)
    (ChangeSpec.witness6 (enc := enc) (C := Try.checked) false ⟨#[], #[], []⟩ 8 (by kernel_rfl) (by kernel_rfl) (by kernel_rfl) (by kernel_rfl))
    (fun W args h => by
      obtain rfl := h
      exact fixed_walk W)

theorem proved : Rows.ShapeFixedSaid :=
  OpenClaim.holds_of_wide 9 Try.f9 rfl rfl rfl rfl rfl rfl rfl ⟨rfl, rfl, rfl, rfl, rfl⟩ rfl rfl rfl rfl rfl (by kernel_rfl) Try.func9 (by kernel_rfl)
    (of_decide_eq_true (by kernel_rfl)) (by unfold Func.isWrapper; first | (rw [if_pos (by decide +kernel)]; kernel_rfl) | (rw [if_neg (by decide +kernel)]; exact ⟨rfl, rfl⟩))
    (fun os started H enc _ => lift os started H enc)
end Go.Proofs.Ytakepdkokjecoaa.lawShapeFixed
