/- WholeSets: the sets of k of n stand in their order at the places 0, 1, .., and there are Choose(n, k) of them: the law returns true. No condition; the card is tied to the table of math/bits. -/
import Derived.Test.YtiojbmcjcefdkaaDoorJWholeSets2
import Derived.Test.YtiojbmcjcefdkaaDoorCards
namespace Go.Proofs.YtiojbmcjcefdkaaDoor.lawWholeSets
open Go.RowKit Go.Tk Go.Shelf Go.ChangeShapes Go.WideShapes

set_option maxRecDepth 100000 in
theorem lift (os : Os) (started : os.Started) (H : Type) (enc : TypeId × Value → H) :
    ReturnsInHanded {} Tryd.checked os 3 .any (fun w args => (Rows.wholeSetsSpec.pre enc Tryd.prog Tryd.f3 [] false w args ∧ laidMetH Tryd.prog [("math/bits.deBruijn64tab", Rows.laid_math_bits_deBruijn64tab)] w) ∧ sizedMet enc Tryd.prog Tryd.f3 (OpenSpec.ofChange Rows.wholeSetsSpec) false w args)
      (Rows.wholeSetsSpec.post enc Tryd.prog Tryd.f3 false true false false) :=
  lifted_laid (C := Tryd.checked) (n := 12) (sh := [(false, [.int .u8]), (false, [.int .u8]), (false, [.int .u64])]) (X := fun w => laidMetH Tryd.prog [("math/bits.deBruijn64tab", Rows.laid_math_bits_deBruijn64tab)] w) started enc (fun _ _ hh h => laidMetH.of_heap hh h) ownK laidOutK (by kernel_rfl) Tryd.func3 (by kernel_rfl) rfl Tryd.underlying4 rfl
    (fun ds h => by match ds, h with | [_, _, _], _ => rfl) (by kernel_rfl)
    (ChangeSpec.witness_at (enc := enc) (C := Tryd.checked) (os := os) (X := fun w _ => laidMetH Tryd.prog [("math/bits.deBruijn64tab", Rows.laid_math_bits_deBruijn64tab)] w) false (laidWorld os) #[.int .u8 0, .int .u8 0, .int .u64 0] 8 rfl (by kernel_rfl) (by kernel_rfl) (by kernel_rfl) (by kernel_rfl) (by kernel_rfl) (laidWorld_met os _))
    (fun W args h hL => by
      have hT := tab_of_laid hL
      have hp0 := tab_pos hT
      obtain ⟨v0, vs0, rfl, h0, r0⟩ := h
      obtain ⟨v1, vs1, rfl, h1, r1⟩ := r0
      obtain ⟨v2, vs2, rfl, h2, rfl⟩ := r1
      obtain ⟨x0, rfl, hw0⟩ := h0
      have hb0 : 0 ≤ x0 ∧ x0 ≤ 255 := by simp [Lit.wf, IntKind.min, IntKind.max, IntKind.signed, IntKind.bits] at hw0; omega
      obtain ⟨a, rfl⟩ := Int.eq_ofNat_of_zero_le hb0.1
      obtain ⟨x1, rfl, hw1⟩ := h1
      have hb1 : 0 ≤ x1 ∧ x1 ≤ 255 := by simp [Lit.wf, IntKind.min, IntKind.max, IntKind.signed, IntKind.bits] at hw1; omega
      obtain ⟨b, rfl⟩ := Int.eq_ofNat_of_zero_le hb1.1
      obtain ⟨z2, rfl, hz2⟩ := h2
      obtain ⟨hu2, hw2⟩ := bounds_u64 hz2
      obtain ⟨s, rfl⟩ := Int.eq_ofNat_of_zero_le hu2
      exact callsIn_wide.1 (wsets_in a b s (by omega) (by omega) (by omega) W hp0 hT))

theorem said : Rows.WholeSetsSaid :=
  OpenClaim.holds_of_wide 3 Tryd.f3 rfl rfl rfl rfl rfl rfl rfl ⟨rfl, rfl, rfl, rfl, rfl⟩ rfl rfl rfl rfl rfl (by kernel_rfl) Tryd.func3 (by kernel_rfl)
    (of_decide_eq_true (by kernel_rfl)) (by unfold Func.isWrapper; first | (rw [if_pos (by decide +kernel)]; kernel_rfl) | (rw [if_neg (by decide +kernel)]; exact ⟨rfl, rfl⟩))
    (fun os started H enc _ => lift os started H enc)

theorem proved : Rows.WholeSetsCardSaid :=
  Claim7.holds_tied_plain_at .later [] [.data] true (true, "3715714bb84373e6d8e1f3aec3e813622666c6ac2bde72661fa4b1249fd33e2e") false
    said (fun _ h => by cases h) (by kernel_rfl) (fun _ h => by cases h) wholeSets_row_tie rfl ⟨rfl, rfl⟩ (by kernel_rfl) rfl
    (fun f fn hf hfn => by
      obtain rfl : f = 3 := Option.some.inj ((show Tryd.prog.funcNamed "thicket/thickettop.WholeSets" = some 3 by kernel_rfl).symm.trans hf) |>.symm
      obtain rfl : fn = Tryd.f3 := (Option.some.inj (Tryd.func3.symm.trans hfn)).symm
      exact ⟨by kernel_rfl, fun j t ht => by
          rw [Tryd.params3] at ht
          rcases j with _ | j
          · have h3 : t = 5 := by simpa using ht.symm
            subst h3
            exact (show Tryd.prog.wantsStandIn 5 = false by kernel_rfl)
          rcases j with _ | j
          · have h3 : t = 5 := by simpa using ht.symm
            subst h3
            exact (show Tryd.prog.wantsStandIn 5 = false by kernel_rfl)
          rcases j with _ | j
          · have h3 : t = 22 := by simpa using ht.symm
            subst h3
            exact (show Tryd.prog.wantsStandIn 22 = false by kernel_rfl)
          simp at ht⟩)
    (by kernel_rfl)
end Go.Proofs.YtiojbmcjcefdkaaDoor.lawWholeSets
