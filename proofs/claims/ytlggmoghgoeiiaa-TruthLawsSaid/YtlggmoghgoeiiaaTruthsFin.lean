/- TruthLaws: not not a is a; and, or, xor, if-then-else by one another; every Binary by its four bits: the law returns true. No condition. -/
import Derived.Test.YtlggmoghgoeiiaaJTruths5
namespace Go.Proofs.Ytlggmoghgoeiiaa.lawTruthLaws
open Go.RowKit Go.Tk Go.ChangeShapes Go.WideShapes

theorem own : ownKnob Try.prog.godebug = none := by kernel_rfl
theorem laidOut : laidOutB Try.prog = true := by kernel_rfl

set_option maxRecDepth 100000 in
theorem lift (os : Os) (started : os.Started) (H : Type) (enc : TypeId × Value → H) :
    ReturnsInHanded {} Try.checked os 7 .any (Rows.truthLawsSpec.pre6 enc Try.prog Try.f7 [] false) (Rows.truthLawsSpec.post enc Try.prog Try.f7 false true false false) :=
  lifted (C := Try.checked) (n := 12) (sh := [(false, [.int .u8]), (false, [.slice 32 [.int .i64, .slice 8 [.int .u64]]])]) started enc own laidOut (by kernel_rfl) Try.func7 (by kernel_rfl) rfl Try.underlying4 rfl
    (fun ds h => by match ds, h with | [_, _], _ => rfl) (by kernel_rfl)
    (ChangeSpec.witness6 (enc := enc) (C := Try.checked) false ⟨#[], #[.int .u8 0, .slice none 0 0], []⟩ 8 (by kernel_rfl) (by kernel_rfl) (by kernel_rfl) (by kernel_rfl))
    (fun W args h => by
      obtain ⟨v0, vs0, rfl, h0, r0⟩ := h
      obtain ⟨v1, vs1, rfl, h1, rfl⟩ := r0
      obtain ⟨o, rfl, ho⟩ := h0
      have hob : 0 ≤ o ∧ o ≤ 255 := by
        simp [Lit.wf, IntKind.min, IntKind.max, IntKind.signed, IntKind.bits] at ho
        omega
      obtain ⟨op, rfl⟩ := Int.eq_ofNat_of_zero_le hob.1
      obtain ⟨A, n, c, xs, rfl, hnc, _, hb, hs⟩ := slice_ok (fun x : TIn W => x.1.cells) (by decide) tb_of h1
      exact laws_walk op A n c W xs (by omega) hs)

theorem proved : Rows.TruthLawsSaid :=
  OpenClaim.holds_of_wide 7 Try.f7 rfl rfl rfl rfl rfl rfl rfl ⟨rfl, rfl, rfl, rfl, rfl⟩ rfl rfl rfl rfl rfl (by kernel_rfl) Try.func7 (by kernel_rfl)
    (of_decide_eq_true (by kernel_rfl)) (by unfold Func.isWrapper; first | (rw [if_pos (by decide +kernel)]; kernel_rfl) | (rw [if_neg (by decide +kernel)]; exact ⟨rfl, rfl⟩))
    (fun os started H enc _ => lift os started H enc)
end Go.Proofs.Ytlggmoghgoeiiaa.lawTruthLaws
