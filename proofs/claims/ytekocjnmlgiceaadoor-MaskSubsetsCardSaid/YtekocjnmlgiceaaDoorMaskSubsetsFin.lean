/- MaskSubsets: what Subsets gives, up to where it is left, and again from the beginning: the law returns true. No condition; the card is tied. -/
import Derived.Test.YtekocjnmlgiceaaDoorJMaskSubsets3
import Derived.Test.YtekocjnmlgiceaaDoorCards
namespace Go.Proofs.YtekocjnmlgiceaaDoor.lawMaskSubsets
open Go.RowKit Go.Tk Go.Shelf Go.ChangeShapes Go.WideShapes

set_option maxRecDepth 100000 in
theorem lift (os : Os) (started : os.Started) (H : Type) (enc : TypeId × Value → H) :
    ReturnsInHanded {} Tryd.checked os 9 .any (fun w args => (Rows.maskSubsetsSpec.pre enc Tryd.prog Tryd.f9 [] false w args ∧ laidMetH Tryd.prog [("math/bits.deBruijn64tab", Rows.laid_math_bits_deBruijn64tab)] w) ∧ sizedMet enc Tryd.prog Tryd.f9 (OpenSpec.ofChange Rows.maskSubsetsSpec) false w args)
      (Rows.maskSubsetsSpec.post enc Tryd.prog Tryd.f9 false true false false) :=
  lifted_laid (C := Tryd.checked) (n := 12) (sh := [(false, [.int .i64]), (false, [.int .i64]), (false, [.int .i64])]) (X := fun w => laidMetH Tryd.prog [("math/bits.deBruijn64tab", Rows.laid_math_bits_deBruijn64tab)] w) started enc (fun _ _ hh h => laidMetH.of_heap hh h) ownK laidOutK (by kernel_rfl) Tryd.func9 (by kernel_rfl) rfl Tryd.underlying4 rfl
    (fun ds h => by match ds, h with | [_, _, _], _ => rfl) (by kernel_rfl)
    (ChangeSpec.witness_at (enc := enc) (C := Tryd.checked) (os := os) (X := fun w _ => laidMetH Tryd.prog [("math/bits.deBruijn64tab", Rows.laid_math_bits_deBruijn64tab)] w) false (laidWorld os) #[.int .i64 0, .int .i64 0, .int .i64 0] 8 rfl (by kernel_rfl) (by kernel_rfl) (by kernel_rfl) (by kernel_rfl) (by kernel_rfl) (laidWorld_met os _))
    (fun W args h hL => by
      have hT := tab_of_laid hL
      have hp0 := tab_pos hT
      obtain ⟨v0, vs0, rfl, h0, r0⟩ := h
      obtain ⟨v1, vs1, rfl, h1, r1⟩ := r0
      obtain ⟨v2, vs2, rfl, h2, rfl⟩ := r1
      obtain ⟨n, rfl, hz0⟩ := h0
      obtain ⟨hl0, hm0⟩ := bounds_i64 hz0
      obtain ⟨k, rfl, hz1⟩ := h1
      obtain ⟨hl1, hm1⟩ := bounds_i64 hz1
      obtain ⟨m, rfl, hz2⟩ := h2
      obtain ⟨hl2, hm2⟩ := bounds_i64 hz2
      exact maskSubsets_any n k m W hp0 hT)

theorem said : Rows.MaskSubsetsSaid :=
  OpenClaim.holds_of_wide 9 Tryd.f9 rfl rfl rfl rfl rfl rfl rfl ⟨rfl, rfl, rfl, rfl, rfl⟩ rfl rfl rfl rfl rfl (by kernel_rfl) Tryd.func9 (by kernel_rfl)
    (of_decide_eq_true (by kernel_rfl)) (by unfold Func.isWrapper; first | (rw [if_pos (by decide +kernel)]; kernel_rfl) | (rw [if_neg (by decide +kernel)]; exact ⟨rfl, rfl⟩))
    (fun os started H enc _ => lift os started H enc)

theorem proved : Rows.MaskSubsetsCardSaid :=
  Claim7.holds_tied_plain_at .later [] [.data] true (true, "2ec64468e1b6ec08a67023028f96230aa5e77f7877dd5a2ba2e42ce3f8f1d9f5") false
    said (fun _ h => by cases h) (by kernel_rfl) (fun _ h => by cases h) maskSubsets_row_tie rfl ⟨rfl, rfl⟩ (by kernel_rfl) rfl
    (fun f fn hf hfn => by
      obtain rfl : f = 9 := Option.some.inj ((show Tryd.prog.funcNamed "thicket/thicketlaw01.MaskSubsets" = some 9 by kernel_rfl).symm.trans hf) |>.symm
      obtain rfl : fn = Tryd.f9 := (Option.some.inj (Tryd.func9.symm.trans hfn)).symm
      exact ⟨by kernel_rfl, fun j t ht => by
          rw [Tryd.params9] at ht
          rcases j with _ | j
          · have h3 : t = 3 := by simpa using ht.symm
            subst h3
            exact (show Tryd.prog.wantsStandIn 3 = false by kernel_rfl)
          rcases j with _ | j
          · have h3 : t = 3 := by simpa using ht.symm
            subst h3
            exact (show Tryd.prog.wantsStandIn 3 = false by kernel_rfl)
          rcases j with _ | j
          · have h3 : t = 3 := by simpa using ht.symm
            subst h3
            exact (show Tryd.prog.wantsStandIn 3 = false by kernel_rfl)
          simp at ht⟩)
    (by kernel_rfl)
end Go.Proofs.YtekocjnmlgiceaaDoor.lawMaskSubsets
