/- ShapeAlike: the functions in another order, twice each, and with the constants among them, make the same numbers: the law returns true, where what comes in is of bulk at most 1048576. -/
import Derived.Test.YtakepdkokjecoaaJShapeAlike4
namespace Go.Proofs.Ytakepdkokjecoaa.lawShapeAlike
open Go.RowKit Go.Tk Go.ChangeShapes Go.WideShapes

theorem own : ownKnob Try.prog.godebug = none := by kernel_rfl
theorem laidOut : laidOutB Try.prog = true := by kernel_rfl
theorem u_tb : Try.prog.underlying 22 = some (.slice 37) := Try.underlying22

set_option maxRecDepth 100000 in
theorem lift (os : Os) (started : os.Started) (H : Type) (enc : TypeId × Value → H) (F : Stop.Interp) :
    ReturnsInHanded {} Try.checked os 7 .any (OpenSpec.pre6 enc Try.prog Try.f7 (Rows.OpenSpec.upto Rows.shapeAlikeSpec) [] false) (((Rows.OpenSpec.upto Rows.shapeAlikeSpec).at F).post enc Try.prog Try.f7 false true false false) :=
  lifted_upto (C := Try.checked) (s := Rows.shapeAlikeSpec) (k := Rows.uptoSmall) (n := 12) (sh := [(false, [.slice 32 [.int .i64, .slice 8 [.int .u64]]]), (false, [.slice 8 [.int .i64]])]) started enc 1048576 own laidOut (by kernel_rfl) Try.func7 (by kernel_rfl) rfl Try.underlying4 rfl
    (fun ds h => by match ds, h with | [_, _], _ => rfl) (by kernel_rfl) (fun _ h => upto_len h)
    (OpenSpec.witness (enc := enc) (C := Try.checked) (s := Rows.OpenSpec.upto Rows.shapeAlikeSpec) (k := Rows.uptoSmall) rfl false ⟨#[], #[.slice none 0 0, .slice none 0 0], []⟩ 8 (by kernel_rfl) (by kernel_rfl) (by kernel_rfl)
      (x := ([.nil, .nil], [], [])) (by kernel_rfl) (by kernel_rfl) (by kernel_rfl))
    (fun W args h hN => by
      obtain ⟨v0, vs0, rfl, h0, r0⟩ := h
      obtain ⟨v1, vs1, rfl, h1, rfl⟩ := r0
      obtain ⟨A0, n0, c0, xs0, rfl, hnc0, _, hb0, hs0⟩ := slice_ok (fun x : {t : Tb // TbIn W t} => x.1.cells) (by decide) tb_of h0
      have hn0 : n0 ≤ 1048576 := hN 0 _ _ A0 n0 c0 rfl u_tb rfl
      obtain ⟨A1, n1, c1, os, rfl, hnc1, _, hb1, hs1⟩ := slice_ok icell (by decide) icell_in h1
      exact alike_walk A0 n0 c0 (xs0.map (·.1)) A1 n1 c1 os W (sl_vals hs0) ok_vals hn0 hs1 (Nat.le_trans (Nat.mul_le_mul_right 8 hnc1) hb1)) F

theorem proved : Rows.ShapeAlikeUptoSaid :=
  OpenClaim.holds_of_cond 7 Try.f7 rfl rfl rfl rfl rfl rfl rfl ⟨rfl, rfl, rfl, rfl, rfl⟩ rfl rfl rfl rfl rfl (by kernel_rfl) Try.func7 (by kernel_rfl)
    (of_decide_eq_true (by kernel_rfl)) (by unfold Func.isWrapper; first | (rw [if_pos (by decide +kernel)]; kernel_rfl) | (rw [if_neg (by decide +kernel)]; exact ⟨rfl, rfl⟩))
    (fun os started H enc _ F => lift os started H enc F)
end Go.Proofs.Ytakepdkokjecoaa.lawShapeAlike
