/- ShapeNames: variables by other numbers, in the functions and in the order alike, make the same numbers: the law returns true. No condition. -/
import Derived.Test.YtakepdkokjecoaaJShapeNames4
namespace Go.Proofs.Ytakepdkokjecoaa.lawShapeNames
open Go.RowKit Go.Tk Go.ChangeShapes Go.WideShapes

theorem own : ownKnob Try.prog.godebug = none := by kernel_rfl
theorem laidOut : laidOutB Try.prog = true := by kernel_rfl

set_option maxRecDepth 100000 in
theorem lift (os : Os) (started : os.Started) (H : Type) (enc : TypeId × Value → H) :
    ReturnsInHanded {} Try.checked os 5 .any (Rows.shapeNamesSpec.pre6 enc Try.prog Try.f5 [] false) (Rows.shapeNamesSpec.post enc Try.prog Try.f5 false true false false) :=
  lifted (C := Try.checked) (n := 12) (sh := [(false, [.slice 32 [.int .i64, .slice 8 [.int .u64]]]), (false, [.slice 8 [.int .i64]]), (false, [.slice 8 [.int .i64]])]) started enc own laidOut (by kernel_rfl) Try.func5 (by kernel_rfl) rfl Try.underlying4 rfl
    (fun ds h => by match ds, h with | [_, _, _], _ => rfl) (by kernel_rfl)
    (ChangeSpec.witness6 (enc := enc) (C := Try.checked) false ⟨#[], #[.slice none 0 0, .slice none 0 0, .slice none 0 0], []⟩ 8 (by kernel_rfl) (by kernel_rfl) (by kernel_rfl) (by kernel_rfl))
    (fun W args h => by
      obtain ⟨v0, vs0, rfl, h0, r0⟩ := h
      obtain ⟨v1, vs1, rfl, h1, r1⟩ := r0
      obtain ⟨v2, vs2, rfl, h2, rfl⟩ := r1
      obtain ⟨A0, n0, c0, xs0, rfl, hnc0, _, hb0, hs0⟩ := slice_ok (fun x : {t : Tb // TbIn W t} => x.1.cells) (by decide) tb_of h0
      have hn0 : n0 * 32 ≤ 140737488351232 := Nat.le_trans (Nat.mul_le_mul_right 32 hnc0) hb0
      obtain ⟨A1, n1, c1, os, rfl, hnc1, _, hb1, hs1⟩ := slice_ok icell (by decide) icell_in h1
      obtain ⟨A2, n2, c2, ns, rfl, hnc2, _, hb2, hs2⟩ := slice_ok icell (by decide) icell_in h2
      exact names_walk A0 n0 c0 (xs0.map (·.1)) A1 n1 c1 os A2 n2 c2 ns W (sl_vals hs0) ok_vals (by omega) hs1 (Nat.le_trans (Nat.mul_le_mul_right 8 hnc1) hb1) hs2 (Nat.le_trans (Nat.mul_le_mul_right 8 hnc2) hb2))

theorem proved : Rows.ShapeNamesSaid :=
  OpenClaim.holds_of_wide 5 Try.f5 rfl rfl rfl rfl rfl rfl rfl ⟨rfl, rfl, rfl, rfl, rfl⟩ rfl rfl rfl rfl rfl (by kernel_rfl) Try.func5 (by kernel_rfl)
    (of_decide_eq_true (by kernel_rfl)) (by unfold Func.isWrapper; first | (rw [if_pos (by decide +kernel)]; kernel_rfl) | (rw [if_neg (by decide +kernel)]; exact ⟨rfl, rfl⟩))
    (fun os started H enc _ => lift os started H enc)
end Go.Proofs.Ytakepdkokjecoaa.lawShapeNames
