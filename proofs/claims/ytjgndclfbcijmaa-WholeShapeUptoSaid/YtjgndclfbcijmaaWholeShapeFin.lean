/- WholeShape: how many nodes functions have hangs on what they say and on the order alone: the law returns true, where what comes in is of bulk at most 1048576. -/
import Derived.Test.YtjgndclfbcijmaaJWholeShape5
namespace Go.Proofs.Ytjgndclfbcijmaa.lawWholeShape
open Go.RowKit Go.Tk Go.ChangeShapes Go.WideShapes

theorem own : ownKnob Try.prog.godebug = none := by kernel_rfl
theorem laidOut : laidOutB Try.prog = true := by kernel_rfl

set_option maxRecDepth 100000 in
theorem lift (os : Os) (started : os.Started) (H : Type) (enc : TypeId × Value → H) (F : Stop.Interp) :
    ReturnsInHanded {} Try.checked os 3 .any (OpenSpec.pre6 enc Try.prog Try.f3 (Rows.OpenSpec.upto Rows.wholeShapeSpec) [] false) (((Rows.OpenSpec.upto Rows.wholeShapeSpec).at F).post enc Try.prog Try.f3 false true false false) :=
  lifted_upto (C := Try.checked) (s := Rows.wholeShapeSpec) (k := Rows.uptoSmall) (n := 12) (sh := [(false, [.int .u8]), (false, [.slice 24 [.slice 8 [.int .u64]]]), (false, [.slice 1 u8Ks]), (false, [.slice 1 u8Ks])]) started enc 1048576 own laidOut (by kernel_rfl) Try.func3 (by kernel_rfl) rfl Try.underlying4 rfl
    (fun ds h => by match ds, h with | [_, _, _, _], _ => rfl) (by kernel_rfl) (fun _ h => upto_len h)
    (OpenSpec.witness (enc := enc) (C := Try.checked) (s := Rows.OpenSpec.upto Rows.wholeShapeSpec) (k := Rows.uptoSmall) rfl false ⟨#[], #[.int .u8 0, .slice none 0 0, .slice none 0 0, .slice none 0 0], []⟩ 8 (by kernel_rfl) (by kernel_rfl) (by kernel_rfl)
      (x := ([.lit (.int .u8 0), .nil, .nil, .nil], [], [])) (by kernel_rfl) (by kernel_rfl) (by kernel_rfl))
    (fun W args h hN => by
      obtain ⟨v0, vs0, rfl, h0, r0⟩ := h
      obtain ⟨v1, vs1, rfl, h1, r1⟩ := r0
      obtain ⟨v2, vs2, rfl, h2, r2⟩ := r1
      obtain ⟨v3, vs3, rfl, h3, rfl⟩ := r2
      obtain ⟨o0, rfl, ho0⟩ := h0
      have hob0 : 0 ≤ o0 ∧ o0 ≤ 255 := by
        simp [Lit.wf, IntKind.min, IntKind.max, IntKind.signed, IntKind.bits] at ho0
        omega
      obtain ⟨av, rfl⟩ := Int.eq_ofNat_of_zero_le hob0.1
      obtain ⟨A1, n1, c1, xs1, rfl, hnc1, _, hb1, hs1⟩ := slice_ok (fun x : {r : WRow // RowIn W r} => x.1.cells) (by decide) row_of h1
      have hn1 : n1 ≤ 1048576 := hN 1 _ _ A1 n1 c1 rfl Try.underlying22 rfl
      obtain ⟨A2, n2, c2, bs, rfl, hnc2, _, hb2, hs2⟩ := slice_ok b8cell (by decide) u8_of h2
      obtain ⟨A3, n3, c3, cs, rfl, hnc3, _, hb3, hs3⟩ := slice_ok b8cell (by decide) u8_of h3
      exact wshape_walk av A1 n1 c1 _ A2 n2 c2 bs A3 n3 c3 cs W (by omega) (rows_vals hs1).1 (rows_vals hs1).2 hn1 hs2 hs3) F

theorem proved : Rows.WholeShapeUptoSaid :=
  OpenClaim.holds_of_cond 3 Try.f3 rfl rfl rfl rfl rfl rfl rfl ⟨rfl, rfl, rfl, rfl, rfl⟩ rfl rfl rfl rfl rfl (by kernel_rfl) Try.func3 (by kernel_rfl)
    (of_decide_eq_true (by kernel_rfl)) (by unfold Func.isWrapper; first | (rw [if_pos (by decide +kernel)]; kernel_rfl) | (rw [if_neg (by decide +kernel)]; exact ⟨rfl, rfl⟩))
    (fun os started H enc _ F => lift os started H enc F)
end Go.Proofs.Ytjgndclfbcijmaa.lawWholeShape
