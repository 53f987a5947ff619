/- MaskKeeps: the list that is handed in comes back untouched, Members is a new list each time: the law returns true. No condition; the card is tied. -/
import Derived.Test.YtekocjnmlgiceaaDoorJMaskKeeps2
import Derived.Test.YtekocjnmlgiceaaDoorCards
namespace Go.Proofs.YtekocjnmlgiceaaDoor.lawMaskKeeps
open Go.RowKit Go.Tk Go.Shelf Go.ChangeShapes Go.WideShapes

set_option maxRecDepth 100000 in
theorem lift (os : Os) (started : os.Started) (H : Type) (enc : TypeId × Value → H) :
    ReturnsInHanded {} Tryd.checked os 7 .any (fun w args => (Rows.maskKeepsSpec.pre enc Tryd.prog Tryd.f7 [] false w args ∧ laidMetH Tryd.prog [("math/bits.deBruijn64tab", Rows.laid_math_bits_deBruijn64tab)] w) ∧ sizedMet enc Tryd.prog Tryd.f7 (OpenSpec.ofChange Rows.maskKeepsSpec) false w args)
      (Rows.maskKeepsSpec.post enc Tryd.prog Tryd.f7 false true false false) :=
  lifted_laid (C := Tryd.checked) (n := 12) (sh := [(false, [.slice 8 [.int .i64]]), (false, [.int .u64])]) (X := fun w => laidMetH Tryd.prog [("math/bits.deBruijn64tab", Rows.laid_math_bits_deBruijn64tab)] w) started enc (fun _ _ hh h => laidMetH.of_heap hh h) ownK laidOutK (by kernel_rfl) Tryd.func7 (by kernel_rfl) rfl Tryd.underlying4 rfl
    (fun ds h => by match ds, h with | [_, _], _ => rfl) (by kernel_rfl)
    (ChangeSpec.witness_at (enc := enc) (C := Tryd.checked) (os := os) (X := fun w _ => laidMetH Tryd.prog [("math/bits.deBruijn64tab", Rows.laid_math_bits_deBruijn64tab)] w) false (laidWorld os) #[.slice none 0 0, .int .u64 0] 8 rfl (by kernel_rfl) (by kernel_rfl) (by kernel_rfl) (by kernel_rfl) (by kernel_rfl) (laidWorld_met os _))
    (fun W args h hL => by
      have hT := tab_of_laid hL
      have hp0 := tab_pos hT
      obtain ⟨v0, vs0, rfl, h0, r0⟩ := h
      obtain ⟨v1, vs1, rfl, h1, rfl⟩ := r0
      obtain ⟨A0, n0, c0, xs, rfl, hnc0, _, hb0, hs0⟩ := slice_ok icell (by decide) icell_in h0
      obtain ⟨z1, rfl, hz1⟩ := h1
      obtain ⟨hu1, hw1⟩ := bounds_u64 hz1
      obtain ⟨s, rfl⟩ := Int.eq_ofNat_of_zero_le hu1
      exact (maskKeeps_any A0 n0 c0 xs s (by omega) W hs0 (Nat.le_trans (Nat.mul_le_mul_right 8 hnc0) hb0) hp0 hT).mono fun e W' ⟨he, hs⟩ => ⟨he, hs.to_below (Nat.le_refl _) (fun _ _ h => h)⟩)

theorem said : Rows.MaskKeepsSaid :=
  OpenClaim.holds_of_wide 7 Tryd.f7 rfl rfl rfl rfl rfl rfl rfl ⟨rfl, rfl, rfl, rfl, rfl⟩ rfl rfl rfl rfl rfl (by kernel_rfl) Tryd.func7 (by kernel_rfl)
    (of_decide_eq_true (by kernel_rfl)) (by unfold Func.isWrapper; first | (rw [if_pos (by decide +kernel)]; kernel_rfl) | (rw [if_neg (by decide +kernel)]; exact ⟨rfl, rfl⟩))
    (fun os started H enc _ => lift os started H enc)

theorem proved : Rows.MaskKeepsCardSaid :=
  Claim7.holds_tied_plain_at .later [] [.data] true (true, "2ec64468e1b6ec08a67023028f96230aa5e77f7877dd5a2ba2e42ce3f8f1d9f5") false
    said (fun _ h => by cases h) (by kernel_rfl) (fun _ h => by cases h) maskKeeps_row_tie rfl ⟨rfl, rfl⟩ (by kernel_rfl) rfl
    (fun f fn hf hfn => by
      obtain rfl : f = 7 := Option.some.inj ((show Tryd.prog.funcNamed "thicket/thicketlaw01.MaskKeeps" = some 7 by kernel_rfl).symm.trans hf) |>.symm
      obtain rfl : fn = Tryd.f7 := (Option.some.inj (Tryd.func7.symm.trans hfn)).symm
      exact ⟨by kernel_rfl, fun j t ht => by
          rw [Tryd.params7] at ht
          rcases j with _ | j
          · have h3 : t = 22 := by simpa using ht.symm
            subst h3
            exact (show Tryd.prog.wantsStandIn 22 = false by kernel_rfl)
          rcases j with _ | j
          · have h3 : t = 24 := by simpa using ht.symm
            subst h3
            exact (show Tryd.prog.wantsStandIn 24 = false by kernel_rfl)
          simp at ht⟩)
    (by kernel_rfl)
end Go.Proofs.YtekocjnmlgiceaaDoor.lawMaskKeeps
