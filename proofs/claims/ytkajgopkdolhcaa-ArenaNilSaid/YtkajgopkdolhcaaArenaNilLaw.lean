/- ArenaNil: a nil arena answers every operation as the law says: the law returns true. No condition. -/
import Derived.Test.YtkajgopkdolhcaaArNilR
namespace Go.Proofs.Ytkajgopkdolhcaa.lawArenaNil
open Go.RowKit Go.Tk Go.ChangeShapes Go.WideShapes

theorem own : ownKnob Try.prog.godebug = none := by kernel_rfl
theorem laidOut : laidOutB Try.prog = true := by kernel_rfl

set_option maxRecDepth 100000 in
theorem lift (os : Os) (started : os.Started) (H : Type) (enc : TypeId × Value → H) :
    ReturnsInHanded {} Try.checked os 6 .any (Rows.arenaNilSpec.pre6 enc Try.prog Try.f6 [] false) (Rows.arenaNilSpec.post enc Try.prog Try.f6 false true false false) :=
  lifted (C := Try.checked) (n := 12) (sh := [(true, opKs)]) started enc own laidOut (by kernel_rfl) Try.func6 (by kernel_rfl) rfl Try.underlying4 rfl
    (fun ds h => by match ds, h with | [_], _ => rfl) (by kernel_rfl)
    (ChangeSpec.witness6 (enc := enc) (C := Try.checked) false ⟨#[], #[.agg #[.int .i64 0, .int .i64 0, .int .i64 0, .int .i64 0, .int .i64 0, .int .i64 0, .bool false]], []⟩ 8 (by kernel_rfl) (by kernel_rfl) (by kernel_rfl) (by kernel_rfl))
    (fun W args h => by
      obtain ⟨v, vs, rfl, h0, rfl⟩ := h
      obtain ⟨l, rfl, hl⟩ := agg_ok h0
      obtain ⟨o, rfl⟩ := opn_of l hl
      exact nil_walk o W)

theorem proved : Rows.ArenaNilSaid :=
  OpenClaim.holds_of_wide 6 Try.f6 rfl rfl rfl rfl rfl rfl rfl ⟨rfl, rfl, rfl, rfl, rfl⟩ rfl rfl rfl rfl rfl (by kernel_rfl) Try.func6 (by kernel_rfl)
    (of_decide_eq_true (by kernel_rfl)) (by unfold Func.isWrapper; first | (rw [if_pos (by decide +kernel)]; kernel_rfl) | (rw [if_neg (by decide +kernel)]; exact ⟨rfl, rfl⟩))
    (fun os started H enc _ => lift os started H enc)
end Go.Proofs.Ytkajgopkdolhcaa.lawArenaNil
