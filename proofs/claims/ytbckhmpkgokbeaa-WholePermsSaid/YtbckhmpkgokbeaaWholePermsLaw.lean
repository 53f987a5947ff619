/- WholePerms: the path from one order to another leads there by as few exchanges as can be, a permutation behind its inverse changes nothing, and ranks stand in the order of the lists: the law returns true. No condition. -/
import Derived.Test.YtbckhmpkgokbeaaTopWprR
namespace Go.Proofs.Ytbckhmpkgokbeaa.lawWholePerms
open Go.RowKit Go.Tk Go.ChangeShapes Go.WideShapes

theorem own : ownKnob Try.prog.godebug = none := by kernel_rfl
theorem laidOut : laidOutB Try.prog = true := by kernel_rfl

set_option maxRecDepth 100000 in
theorem lift (os : Os) (started : os.Started) (H : Type) (enc : TypeId × Value → H) :
    ReturnsInHanded {} Try.checked os 4 .any (Rows.wholePermsSpec.pre6 enc Try.prog Try.f4 [] false) (Rows.wholePermsSpec.post enc Try.prog Try.f4 false true false false) :=
  lifted (C := Try.checked) (n := 12) (sh := [(false, [.int .u8]), (false, [.slice 1 u8Ks]), (false, [.slice 1 u8Ks])]) started enc own laidOut (by kernel_rfl) Try.func4 (by kernel_rfl) rfl Try.underlying4 rfl
    (fun ds h => by match ds, h with | [_, _, _], _ => rfl) (by kernel_rfl)
    (ChangeSpec.witness6 (enc := enc) (C := Try.checked) false ⟨#[], #[.int .u8 0, .slice none 0 0, .slice none 0 0], []⟩ 8 (by kernel_rfl) (by kernel_rfl) (by kernel_rfl) (by kernel_rfl))
    (fun W args h => by
      obtain ⟨v0, vs0, rfl, h0, r0⟩ := h
      obtain ⟨v1, vs1, rfl, h1, r1⟩ := r0
      obtain ⟨v2, vs2, rfl, h2, rfl⟩ := r1
      obtain ⟨A1, n1, c1, xs, rfl, hnc1, _, hb1, hs1⟩ := slice_ok u8cell (by decide) u8_of h1
      obtain ⟨A2, n2, c2, ys, rfl, hnc2, _, hb2, hs2⟩ := slice_ok u8cell (by decide) u8_of h2
      obtain ⟨a, rfl, hw⟩ := h0
      have hb : 0 ≤ a ∧ a ≤ 255 := by
        simp [Lit.wf, IntKind.min, IntKind.max, IntKind.signed, IntKind.bits] at hw
        omega
      obtain ⟨q, rfl⟩ := Int.eq_ofNat_of_zero_le hb.1
      exact wperms_walk q A1 A2 n1 n2 c1 c2 xs ys W (by omega) hs1 hs2)

theorem proved : Rows.WholePermsSaid :=
  OpenClaim.holds_of_wide 4 Try.f4 rfl rfl rfl rfl rfl rfl rfl ⟨rfl, rfl, rfl, rfl, rfl⟩ rfl rfl rfl rfl rfl (by kernel_rfl) Try.func4 (by kernel_rfl)
    (of_decide_eq_true (by kernel_rfl)) (by unfold Func.isWrapper; first | (rw [if_pos (by decide +kernel)]; kernel_rfl) | (rw [if_neg (by decide +kernel)]; exact ⟨rfl, rfl⟩))
    (fun os started H enc _ => lift os started H enc)
end Go.Proofs.Ytbckhmpkgokbeaa.lawWholePerms
