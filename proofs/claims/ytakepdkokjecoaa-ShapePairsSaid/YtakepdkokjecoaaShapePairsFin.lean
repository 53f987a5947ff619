/- ShapePairs: every Pairs is the document's: the law returns true. No condition. -/
import Derived.Test.YtakepdkokjecoaaJShapePairs4
namespace Go.Proofs.Ytakepdkokjecoaa.lawShapePairs
open Go.RowKit Go.Tk Go.ChangeShapes Go.WideShapes

theorem own : ownKnob Try.prog.godebug = none := by kernel_rfl
theorem laidOut : laidOutB Try.prog = true := by kernel_rfl

set_option maxRecDepth 100000 in
theorem lift (os : Os) (started : os.Started) (H : Type) (enc : TypeId × Value → H) :
    ReturnsInHanded {} Try.checked os 6 .any (Rows.shapePairsSpec.pre6 enc Try.prog Try.f6 [] false) (Rows.shapePairsSpec.post enc Try.prog Try.f6 false true false false) :=
  lifted (C := Try.checked) (n := 12) (sh := [(false, [.slice 32 [.int .i64, .slice 8 [.int .u64]]])]) started enc own laidOut (by kernel_rfl) Try.func6 (by kernel_rfl) rfl Try.underlying4 rfl
    (fun ds h => by match ds, h with | [_], _ => rfl) (by kernel_rfl)
    (ChangeSpec.witness6 (enc := enc) (C := Try.checked) false ⟨#[], #[.slice none 0 0], []⟩ 8 (by kernel_rfl) (by kernel_rfl) (by kernel_rfl) (by kernel_rfl))
    (fun W args h => by
      obtain ⟨v0, vs0, rfl, h0, rfl⟩ := h
      obtain ⟨A0, n0, c0, xs0, rfl, hnc0, _, hb0, hs0⟩ := slice_ok (fun x : {t : Tb // TbIn W t} => x.1.cells) (by decide) tb_of h0
      have hn0 : n0 * 32 ≤ 140737488351232 := Nat.le_trans (Nat.mul_le_mul_right 32 hnc0) hb0
      exact prs_walk A0 n0 c0 (xs0.map (·.1)) W (sl_vals hs0) ok_vals (by omega))

theorem proved : Rows.ShapePairsSaid :=
  OpenClaim.holds_of_wide 6 Try.f6 rfl rfl rfl rfl rfl rfl rfl ⟨rfl, rfl, rfl, rfl, rfl⟩ rfl rfl rfl rfl rfl (by kernel_rfl) Try.func6 (by kernel_rfl)
    (of_decide_eq_true (by kernel_rfl)) (by unfold Func.isWrapper; first | (rw [if_pos (by decide +kernel)]; kernel_rfl) | (rw [if_neg (by decide +kernel)]; exact ⟨rfl, rfl⟩))
    (fun os started H enc _ => lift os started H enc)
end Go.Proofs.Ytakepdkokjecoaa.lawShapePairs
