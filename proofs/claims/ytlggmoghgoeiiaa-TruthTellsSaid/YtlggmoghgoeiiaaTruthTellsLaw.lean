/- TruthTells: every At, Support and Count answers as the document's: the law returns true. No condition. -/
import Derived.Test.YtlggmoghgoeiiaaTrTellR
namespace Go.Proofs.Ytlggmoghgoeiiaa.lawTruthTells
open Go.RowKit Go.Tk Go.ChangeShapes Go.WideShapes

theorem own : ownKnob Try.prog.godebug = none := by kernel_rfl
theorem laidOut : laidOutB Try.prog = true := by kernel_rfl

set_option maxRecDepth 100000 in
theorem lift (os : Os) (started : os.Started) (H : Type) (enc : TypeId × Value → H) :
    ReturnsInHanded {} Try.checked os 9 .any (Rows.truthTellsSpec.pre6 enc Try.prog Try.f9 [] false) (Rows.truthTellsSpec.post enc Try.prog Try.f9 false true false false) :=
  lifted (C := Try.checked) (n := 12) (sh := [(true, [.int .i64, .slice 8 [.int .u64]]), (false, [.int .u64])]) started enc own laidOut (by kernel_rfl) Try.func9 (by kernel_rfl) rfl Try.underlying4 rfl
    (fun ds h => by match ds, h with | [_, _], _ => rfl) (by kernel_rfl)
    (ChangeSpec.witness6 (enc := enc) (C := Try.checked) false ⟨#[], #[.agg #[.int .i64 0, .slice none 0 0], .int .u64 0], []⟩ 8 (by kernel_rfl) (by kernel_rfl) (by kernel_rfl) (by kernel_rfl))
    (fun W args h => by
      obtain ⟨v0, vs0, rfl, h0, r0⟩ := h
      obtain ⟨v1, vs1, rfl, h1, rfl⟩ := r0
      obtain ⟨l0, rfl, hl0⟩ := agg_ok h0
      obtain ⟨t, rfl⟩ := tb_of l0 hl0
      obtain ⟨z1, rfl, hz1⟩ := h1
      obtain ⟨hu0, hu1⟩ := bounds_u64 hz1
      obtain ⟨x, rfl⟩ := Int.eq_ofNat_of_zero_le hu0
      exact tells_walk t.1.N t.1.A t.1.C t.1.ws x W (by omega) t.2)

theorem proved : Rows.TruthTellsSaid :=
  OpenClaim.holds_of_wide 9 Try.f9 rfl rfl rfl rfl rfl rfl rfl ⟨rfl, rfl, rfl, rfl, rfl⟩ rfl rfl rfl rfl rfl (by kernel_rfl) Try.func9 (by kernel_rfl)
    (of_decide_eq_true (by kernel_rfl)) (by unfold Func.isWrapper; first | (rw [if_pos (by decide +kernel)]; kernel_rfl) | (rw [if_neg (by decide +kernel)]; exact ⟨rfl, rfl⟩))
    (fun os started H enc _ => lift os started H enc)
end Go.Proofs.Ytlggmoghgoeiiaa.lawTruthTells
