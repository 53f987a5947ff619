/- TruthMoves: a renaming and the renaming back give the table again; two, one behind the other, are one; the support goes along; Count does not mind: the law returns true. No condition. -/
import Derived.Test.YtlggmoghgoeiiaaJTruthMoves5
namespace Go.Proofs.Ytlggmoghgoeiiaa.lawTruthMoves
open Go.RowKit Go.Tk Go.ChangeShapes Go.WideShapes

theorem own : ownKnob Try.prog.godebug = none := by kernel_rfl
theorem laidOut : laidOutB Try.prog = true := by kernel_rfl

set_option maxRecDepth 100000 in
theorem lift (os : Os) (started : os.Started) (H : Type) (enc : TypeId × Value → H) :
    ReturnsInHanded {} Try.checked os 11 .any (Rows.truthMovesSpec.pre6 enc Try.prog Try.f11 [] false) (Rows.truthMovesSpec.post enc Try.prog Try.f11 false true false false) :=
  lifted (C := Try.checked) (n := 12) (sh := [(true, [.int .i64, .slice 8 [.int .u64]]), (false, [.slice 8 [.int .i64]]), (false, [.slice 8 [.int .i64]])]) started enc own laidOut (by kernel_rfl) Try.func11 (by kernel_rfl) rfl Try.underlying4 rfl
    (fun ds h => by match ds, h with | [_, _, _], _ => rfl) (by kernel_rfl)
    (ChangeSpec.witness6 (enc := enc) (C := Try.checked) false ⟨#[], #[.agg #[.int .i64 0, .slice none 0 0], .slice none 0 0, .slice none 0 0], []⟩ 8 (by kernel_rfl) (by kernel_rfl) (by kernel_rfl) (by kernel_rfl))
    (fun W args h => by
      obtain ⟨v0, vs0, rfl, h0, r0⟩ := h
      obtain ⟨v1, vs1, rfl, h1, r1⟩ := r0
      obtain ⟨v2, vs2, rfl, h2, rfl⟩ := r1
      obtain ⟨l0, rfl, hl0⟩ := agg_ok h0
      obtain ⟨t, rfl⟩ := tb_of l0 hl0
      obtain ⟨A1, n1, c1, xs, rfl, hnc1, _, hb1, hs1⟩ := slice_ok icell (by decide) icell_in h1
      obtain ⟨A2, n2, c2, ys, rfl, hnc2, _, hb2, hs2⟩ := slice_ok icell (by decide) icell_in h2
      exact moves_walk t.1.N t.1.A t.1.C t.1.ws A1 n1 c1 xs A2 n2 c2 ys W t.2 hs1 (Nat.le_trans (Nat.mul_le_mul_right 8 hnc1) hb1) hs2 (Nat.le_trans (Nat.mul_le_mul_right 8 hnc2) hb2))

theorem proved : Rows.TruthMovesSaid :=
  OpenClaim.holds_of_wide 11 Try.f11 rfl rfl rfl rfl rfl rfl rfl ⟨rfl, rfl, rfl, rfl, rfl⟩ rfl rfl rfl rfl rfl (by kernel_rfl) Try.func11 (by kernel_rfl)
    (of_decide_eq_true (by kernel_rfl)) (by unfold Func.isWrapper; first | (rw [if_pos (by decide +kernel)]; kernel_rfl) | (rw [if_neg (by decide +kernel)]; exact ⟨rfl, rfl⟩))
    (fun os started H enc _ => lift os started H enc)
end Go.Proofs.Ytlggmoghgoeiiaa.lawTruthMoves
