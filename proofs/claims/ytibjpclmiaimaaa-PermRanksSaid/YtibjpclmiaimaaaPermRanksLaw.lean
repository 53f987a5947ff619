/- PermRanks: Rank and Unrank undo one another and keep the order of lists: the law returns true. No condition. -/
import Derived.Test.YtibjpclmiaimaaaPmRankssR
namespace Go.Proofs.Ytibjpclmiaimaaa.lawPermRanks
open Go.RowKit Go.Tk Go.ChangeShapes Go.WideShapes

theorem own : ownKnob Try.prog.godebug = none := by kernel_rfl
theorem laidOut : laidOutB Try.prog = true := by kernel_rfl

set_option maxRecDepth 100000 in
theorem lift (os : Os) (started : os.Started) (H : Type) (enc : TypeId × Value → H) :
    ReturnsInHanded {} Try.checked os 8 .any (Rows.permRanksSpec.pre6 enc Try.prog Try.f8 [] false) (Rows.permRanksSpec.post enc Try.prog Try.f8 false true false false) :=
  lifted (C := Try.checked) (n := 12) (sh := [(false, [.slice 8 intKs]), (false, [.slice 8 intKs]), (false, [.int .u64])]) started enc own laidOut (by kernel_rfl) Try.func8 (by kernel_rfl) rfl Try.underlying4 rfl
    (fun ds h => by match ds, h with | [_, _, _], _ => rfl) (by kernel_rfl)
    (ChangeSpec.witness6 (enc := enc) (C := Try.checked) false ⟨#[], #[.slice none 0 0, .slice none 0 0, .int .u64 0], []⟩ 8 (by kernel_rfl) (by kernel_rfl) (by kernel_rfl) (by kernel_rfl))
    (fun W args h => by
      obtain ⟨v0, vs0, rfl, h0, r0⟩ := h
      obtain ⟨v1, vs1, rfl, h1, r1⟩ := r0
      obtain ⟨v2, vs2, rfl, h2, rfl⟩ := r1
      obtain ⟨A1, n1, c1, xs, rfl, hnc1, _, hb1, hs1⟩ := slice_ok icell (by decide) icell_of h0
      obtain ⟨A2, n2, c2, ys, rfl, hnc2, _, hb2, hs2⟩ := slice_ok icell (by decide) icell_of h1
      obtain ⟨r, rfl, hr⟩ := h2
      obtain ⟨hu0, hu1⟩ := bounds_u64 hr
      obtain ⟨q, rfl⟩ := Int.eq_ofNat_of_zero_le hu0
      exact ranks_walk A1 A2 n1 n2 c1 c2 xs ys q W hs1 hs2 (Nat.le_trans (Nat.mul_le_mul_right 8 hnc1) hb1) (Nat.le_trans (Nat.mul_le_mul_right 8 hnc2) hb2) hnc1 hnc2 (by omega))

theorem proved : Rows.PermRanksSaid :=
  OpenClaim.holds_of_wide 8 Try.f8 rfl rfl rfl rfl rfl rfl rfl ⟨rfl, rfl, rfl, rfl, rfl⟩ rfl rfl rfl rfl rfl (by kernel_rfl) Try.func8 (by kernel_rfl)
    (of_decide_eq_true (by kernel_rfl)) (by unfold Func.isWrapper; first | (rw [if_pos (by decide +kernel)]; kernel_rfl) | (rw [if_neg (by decide +kernel)]; exact ⟨rfl, rfl⟩))
    (fun os started H enc _ => lift os started H enc)
end Go.Proofs.Ytibjpclmiaimaaa.lawPermRanks
