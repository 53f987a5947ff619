/- UniqueEmpty: a nil table and a fresh one answer as the law says: the law returns true. No condition. -/
import Derived.Test.YtkelbbalffijbaaJUniqueEmpty3
namespace Go.Proofs.Ytkelbbalffijbaa.lawUniqueEmpty
open Go.RowKit Go.Tk Go.ChangeShapes Go.WideShapes

theorem own : ownKnob Try.prog.godebug = none := by kernel_rfl
theorem laidOut : laidOutB Try.prog = true := by kernel_rfl

set_option maxRecDepth 100000 in
theorem lift (os : Os) (started : os.Started) (H : Type) (enc : TypeId × Value → H) :
    ReturnsInHanded {} Try.checked os 4 .any (Rows.uniqueEmptySpec.pre6 enc Try.prog Try.f4 [] false) (Rows.uniqueEmptySpec.post enc Try.prog Try.f4 false true false false) :=
  lifted (C := Try.checked) (n := 12) (sh := [(false, [.int .i64]), (true, ndKs), (false, [.int .u32])]) started enc own laidOut (by kernel_rfl) Try.func4 (by kernel_rfl) rfl Try.underlying4 rfl
    (fun ds h => by match ds, h with | [_, _, _], _ => rfl) (by kernel_rfl)
    (ChangeSpec.witness6 (enc := enc) (C := Try.checked) false ⟨#[], #[.int .i64 0, .agg #[.int .i64 0, .int .u32 0, .int .u32 0], .int .u32 0], []⟩ 8 (by kernel_rfl) (by kernel_rfl) (by kernel_rfl) (by kernel_rfl))
    (fun W args h => by
      obtain ⟨v0, vs0, rfl, h0, r0⟩ := h
      obtain ⟨v1, vs1, rfl, h1, r1⟩ := r0
      obtain ⟨v2, vs2, rfl, h2, rfl⟩ := r1
      obtain ⟨p, rfl, _⟩ := h0
      obtain ⟨l, rfl, hl⟩ := agg_ok h1
      obtain ⟨n, hn, rfl⟩ := nd_of l hl
      obtain ⟨r, rfl, _⟩ := h2
      exact (uniqueEmpty_any p n.v n.lo n.hi hn r W).mono fun e W' ⟨he, hs⟩ => ⟨he, hs.to_below (Nat.le_refl _) (fun _ _ h => h)⟩)

theorem proved : Rows.UniqueEmptySaid :=
  OpenClaim.holds_of_wide 4 Try.f4 rfl rfl rfl rfl rfl rfl rfl ⟨rfl, rfl, rfl, rfl, rfl⟩ rfl rfl rfl rfl rfl (by kernel_rfl) Try.func4 (by kernel_rfl)
    (of_decide_eq_true (by kernel_rfl)) (by unfold Func.isWrapper; first | (rw [if_pos (by decide +kernel)]; kernel_rfl) | (rw [if_neg (by decide +kernel)]; exact ⟨rfl, rfl⟩))
    (fun os started H enc _ => lift os started H enc)
end Go.Proofs.Ytkelbbalffijbaa.lawUniqueEmpty
