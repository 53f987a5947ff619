/- PermLeads: a path leads from one to the other by Swapped, and has as many exchanges as pairs stand the wrong way round: the law returns true. No condition. -/
import Derived.Test.YtibjpclmiaimaaaPmLeadR
namespace Go.Proofs.Ytibjpclmiaimaaa.lawPermLeads
open Go.RowKit Go.Tk Go.ChangeShapes Go.WideShapes

theorem own : ownKnob Try.prog.godebug = none := by kernel_rfl
theorem laidOut : laidOutB Try.prog = true := by kernel_rfl

set_option maxRecDepth 100000 in
theorem lift (os : Os) (started : os.Started) (H : Type) (enc : TypeId × Value → H) :
    ReturnsInHanded {} Try.checked os 7 .any (Rows.permLeadsSpec.pre6 enc Try.prog Try.f7 [] false) (Rows.permLeadsSpec.post enc Try.prog Try.f7 false true false false) :=
  lifted (C := Try.checked) (n := 12) (sh := [(false, [.slice 8 intKs]), (false, [.slice 8 intKs])]) started enc own laidOut (by kernel_rfl) Try.func7 (by kernel_rfl) rfl Try.underlying4 rfl
    (fun ds h => by match ds, h with | [_, _], _ => rfl) (by kernel_rfl)
    (ChangeSpec.witness6 (enc := enc) (C := Try.checked) false ⟨#[], #[.slice none 0 0, .slice none 0 0], []⟩ 8 (by kernel_rfl) (by kernel_rfl) (by kernel_rfl) (by kernel_rfl))
    (fun W args h => by
      obtain ⟨v0, vs0, rfl, h0, r0⟩ := h
      obtain ⟨v1, vs1, rfl, h1, rfl⟩ := r0
      obtain ⟨A1, n1, c1, xs, rfl, hnc1, _, hb1, hs1⟩ := slice_ok icell (by decide) icell_of h0
      obtain ⟨A2, n2, c2, ys, rfl, hnc2, _, hb2, hs2⟩ := slice_ok icell (by decide) icell_of h1
      exact leads_walk A1 A2 n1 n2 c1 c2 xs ys W hs1 hs2 (Nat.le_trans (Nat.mul_le_mul_right 8 hnc1) hb1) (Nat.le_trans (Nat.mul_le_mul_right 8 hnc2) hb2))

theorem proved : Rows.PermLeadsSaid :=
  OpenClaim.holds_of_wide 7 Try.f7 rfl rfl rfl rfl rfl rfl rfl ⟨rfl, rfl, rfl, rfl, rfl⟩ rfl rfl rfl rfl rfl (by kernel_rfl) Try.func7 (by kernel_rfl)
    (of_decide_eq_true (by kernel_rfl)) (by unfold Func.isWrapper; first | (rw [if_pos (by decide +kernel)]; kernel_rfl) | (rw [if_neg (by decide +kernel)]; exact ⟨rfl, rfl⟩))
    (fun os started H enc _ => lift os started H enc)
end Go.Proofs.Ytibjpclmiaimaaa.lawPermLeads
