/- WholeTruth: tables are the functions: cofactors put together, values of operations, renamings, counts and supports: the law returns true. No condition. -/
import Derived.Test.YtaakjecnompogaaJWholeTruth5
namespace Go.Proofs.Ytaakjecnompogaa.lawWholeTruth
open Go.RowKit Go.Tk Go.ChangeShapes Go.WideShapes

theorem own : ownKnob Try.prog.godebug = none := by kernel_rfl
theorem laidOut : laidOutB Try.prog = true := by kernel_rfl

set_option maxRecDepth 100000 in
theorem lift (os : Os) (started : os.Started) (H : Type) (enc : TypeId × Value → H) :
    ReturnsInHanded {} Try.checked os 3 .any (Rows.wholeTruthSpec.pre6 enc Try.prog Try.f3 [] false) (Rows.wholeTruthSpec.post enc Try.prog Try.f3 false true false false) :=
  lifted (C := Try.checked) (n := 12) (sh := [(false, [.int .u8]), (false, [.slice 8 u64Ks]), (false, [.slice 8 u64Ks]), (false, [.int .u8]), (false, [.int .u64]), (false, [.slice 1 u8Ks])]) started enc own laidOut (by kernel_rfl) Try.func3 (by kernel_rfl) rfl Try.underlying4 rfl
    (fun ds h => by match ds, h with | [_, _, _, _, _, _], _ => rfl) (by kernel_rfl)
    (ChangeSpec.witness6 (enc := enc) (C := Try.checked) false ⟨#[], #[.int .u8 0, .slice none 0 0, .slice none 0 0, .int .u8 0, .int .u64 0, .slice none 0 0], []⟩ 8 (by kernel_rfl) (by kernel_rfl) (by kernel_rfl) (by kernel_rfl))
    (fun W args h => by
      obtain ⟨v0, vs0, rfl, h0, r0⟩ := h
      obtain ⟨v1, vs1, rfl, h1, r1⟩ := r0
      obtain ⟨v2, vs2, rfl, h2, r2⟩ := r1
      obtain ⟨v3, vs3, rfl, h3, r3⟩ := r2
      obtain ⟨v4, vs4, rfl, h4, r4⟩ := r3
      obtain ⟨v5, vs5, rfl, h5, rfl⟩ := r4
      obtain ⟨o0, rfl, ho0⟩ := h0
      have hob0 : 0 ≤ o0 ∧ o0 ≤ 255 := by
        simp [Lit.wf, IntKind.min, IntKind.max, IntKind.signed, IntKind.bits] at ho0
        omega
      obtain ⟨av, rfl⟩ := Int.eq_ofNat_of_zero_le hob0.1
      obtain ⟨A1, n1, c1, us, rfl, hnc1, _, hb1, hs1⟩ := slice_ok u64cell (by decide) u64_of h1
      obtain ⟨A2, n2, c2, vs, rfl, hnc2, _, hb2, hs2⟩ := slice_ok u64cell (by decide) u64_of h2
      obtain ⟨o3, rfl, ho3⟩ := h3
      have hob3 : 0 ≤ o3 ∧ o3 ≤ 255 := by
        simp [Lit.wf, IntKind.min, IntKind.max, IntKind.signed, IntKind.bits] at ho3
        omega
      obtain ⟨op, rfl⟩ := Int.eq_ofNat_of_zero_le hob3.1
      obtain ⟨z4, rfl, hz4⟩ := h4
      obtain ⟨hu0, hu1⟩ := bounds_u64 hz4
      obtain ⟨x, rfl⟩ := Int.eq_ofNat_of_zero_le hu0
      obtain ⟨A3, n3, c3, bs, rfl, hnc5, _, hb5, hs5⟩ := slice_ok u8cell (by decide) u8_of h5
      exact wtruth_walk av op x A1 A2 A3 n1 n2 n3 c1 c2 c3 _ _ bs W (by omega) (by omega) (by omega) (u64_wl hs1).1 (u64_wl hs1).2 (u64_wl hs2).1 (u64_wl hs2).2 hs5)

theorem proved : Rows.WholeTruthSaid :=
  OpenClaim.holds_of_wide 3 Try.f3 rfl rfl rfl rfl rfl rfl rfl ⟨rfl, rfl, rfl, rfl, rfl⟩ rfl rfl rfl rfl rfl (by kernel_rfl) Try.func3 (by kernel_rfl)
    (of_decide_eq_true (by kernel_rfl)) (by unfold Func.isWrapper; first | (rw [if_pos (by decide +kernel)]; kernel_rfl) | (rw [if_neg (by decide +kernel)]; exact ⟨rfl, rfl⟩))
    (fun os started H enc _ => lift os started H enc)
end Go.Proofs.Ytaakjecnompogaa.lawWholeTruth
