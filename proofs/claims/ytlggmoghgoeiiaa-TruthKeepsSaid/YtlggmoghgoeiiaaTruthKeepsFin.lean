/- TruthKeeps: what is handed in stays as it was, the room behind it too; every answer is new memory; the same words written over are another question: the law returns true. No condition. -/
import Derived.Test.YtlggmoghgoeiiaaJTruthKeeps6
namespace Go.Proofs.Ytlggmoghgoeiiaa.lawTruthKeeps
open Go.RowKit Go.Tk Go.ChangeShapes Go.WideShapes

theorem own : ownKnob Try.prog.godebug = none := by kernel_rfl
theorem laidOut : laidOutB Try.prog = true := by kernel_rfl

set_option maxRecDepth 100000 in
theorem lift (os : Os) (started : os.Started) (H : Type) (enc : TypeId × Value → H) :
    ReturnsInHanded {} Try.checked os 12 .any (Rows.truthKeepsSpec.pre6 enc Try.prog Try.f12 [] false) (Rows.truthKeepsSpec.post enc Try.prog Try.f12 false true false false) :=
  lifted (C := Try.checked) (n := 12) (sh := [(true, [.int .i64, .slice 8 [.int .u64]]), (true, [.int .i64, .slice 8 [.int .u64]]), (false, [.int .i64]), (false, [.slice 8 [.int .i64]])]) started enc own laidOut (by kernel_rfl) Try.func12 (by kernel_rfl) rfl Try.underlying4 rfl
    (fun ds h => by match ds, h with | [_, _, _, _], _ => rfl) (by kernel_rfl)
    (ChangeSpec.witness6 (enc := enc) (C := Try.checked) false ⟨#[], #[.agg #[.int .i64 0, .slice none 0 0], .agg #[.int .i64 0, .slice none 0 0], .int .i64 0, .slice none 0 0], []⟩ 8 (by kernel_rfl) (by kernel_rfl) (by kernel_rfl) (by kernel_rfl))
    (fun W args h => by
      obtain ⟨v0, vs0, rfl, h0, r0⟩ := h
      obtain ⟨v1, vs1, rfl, h1, r1⟩ := r0
      obtain ⟨v2, vs2, rfl, h2, r2⟩ := r1
      obtain ⟨v3, vs3, rfl, h3, rfl⟩ := r2
      obtain ⟨l0, rfl, hl0⟩ := agg_ok h0
      obtain ⟨ta, rfl⟩ := tb_of l0 hl0
      obtain ⟨l1, rfl, hl1⟩ := agg_ok h1
      obtain ⟨tb, rfl⟩ := tb_of l1 hl1
      obtain ⟨v, rfl, _⟩ := h2
      obtain ⟨A, n, c, xs, rfl, hnc3, _, hb3, hs3⟩ := slice_ok icell (by decide) icell_in h3
      exact keeps_walk ta.1.N ta.1.A ta.1.C ta.1.ws tb.1.N tb.1.A tb.1.C tb.1.ws v A n c xs W ta.2 tb.2 hs3 (Nat.le_trans (Nat.mul_le_mul_right 8 hnc3) hb3))

theorem proved : Rows.TruthKeepsSaid :=
  OpenClaim.holds_of_wide 12 Try.f12 rfl rfl rfl rfl rfl rfl rfl ⟨rfl, rfl, rfl, rfl, rfl⟩ rfl rfl rfl rfl rfl (by kernel_rfl) Try.func12 (by kernel_rfl)
    (of_decide_eq_true (by kernel_rfl)) (by unfold Func.isWrapper; first | (rw [if_pos (by decide +kernel)]; kernel_rfl) | (rw [if_neg (by decide +kernel)]; exact ⟨rfl, rfl⟩))
    (fun os started H enc _ => lift os started H enc)
end Go.Proofs.Ytlggmoghgoeiiaa.lawTruthKeeps
