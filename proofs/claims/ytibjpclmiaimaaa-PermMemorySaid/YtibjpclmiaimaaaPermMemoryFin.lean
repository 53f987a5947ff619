/- PermMemory: what is handed in stays, the room behind it too; no two lists that are answered share memory; the same list written over is another question: the law returns true. No condition. -/
import Derived.Test.YtibjpclmiaimaaaJPermMemory3
namespace Go.Proofs.Ytibjpclmiaimaaa.lawPermMemory
open Go.RowKit Go.Tk Go.ChangeShapes Go.WideShapes

theorem own : ownKnob Try.prog.godebug = none := by kernel_rfl
theorem laidOut : laidOutB Try.prog = true := by kernel_rfl

set_option maxRecDepth 100000 in
theorem lift (os : Os) (started : os.Started) (H : Type) (enc : TypeId × Value → H) :
    ReturnsInHanded {} Try.checked os 10 .any (Rows.permMemorySpec.pre6 enc Try.prog Try.f10 [] false) (Rows.permMemorySpec.post enc Try.prog Try.f10 false true false false) :=
  lifted (C := Try.checked) (n := 12) (sh := [(false, [.slice 8 intKs]), (false, [.slice 8 intKs]), (false, [.int .i64]), (false, [.int .i64])]) started enc own laidOut (by kernel_rfl) Try.func10 (by kernel_rfl) rfl Try.underlying4 rfl
    (fun ds h => by match ds, h with | [_, _, _, _], _ => rfl) (by kernel_rfl)
    (ChangeSpec.witness6 (enc := enc) (C := Try.checked) false ⟨#[], #[.slice none 0 0, .slice none 0 0, .int .i64 0, .int .i64 0], []⟩ 8 (by kernel_rfl) (by kernel_rfl) (by kernel_rfl) (by kernel_rfl))
    (fun W args h => by
      obtain ⟨v0, vs0, rfl, h0, r0⟩ := h
      obtain ⟨v1, vs1, rfl, h1, r1⟩ := r0
      obtain ⟨v2, vs2, rfl, h2, r2⟩ := r1
      obtain ⟨v3, vs3, rfl, h3, rfl⟩ := r2
      obtain ⟨A1, n1, c1, xs, rfl, hnc1, _, hb1, hs1⟩ := slice_ok icell (by decide) icell_of h0
      obtain ⟨A2, n2, c2, ys, rfl, hnc2, _, hb2, hs2⟩ := slice_ok icell (by decide) icell_of h1
      obtain ⟨l, rfl, _⟩ := h2
      obtain ⟨n, rfl, _⟩ := h3
      exact memory_walk A1 A2 n1 n2 c1 c2 xs ys l n W hs1 hs2 (Nat.le_trans (Nat.mul_le_mul_right 8 hnc1) hb1) (Nat.le_trans (Nat.mul_le_mul_right 8 hnc2) hb2))

theorem proved : Rows.PermMemorySaid :=
  OpenClaim.holds_of_wide 10 Try.f10 rfl rfl rfl rfl rfl rfl rfl ⟨rfl, rfl, rfl, rfl, rfl⟩ rfl rfl rfl rfl rfl (by kernel_rfl) Try.func10 (by kernel_rfl)
    (of_decide_eq_true (by kernel_rfl)) (by unfold Func.isWrapper; first | (rw [if_pos (by decide +kernel)]; kernel_rfl) | (rw [if_neg (by decide +kernel)]; exact ⟨rfl, rfl⟩))
    (fun os started H enc _ => lift os started H enc)
end Go.Proofs.Ytibjpclmiaimaaa.lawPermMemory
