/- WholeChanges: its walk. -/
import Derived.Test.YtbckhmpkgokbeaaPmAll
namespace Go.Proofs.Ytbckhmpkgokbeaa
open Go.RowKit Go.Tk

set_option maxRecDepth 100000 in
set_option maxHeartbeats 4000000 in
theorem changes_walk (w : World) : Calls Try.prog 3 #[] w fun e w' => e = .returned (.bool true) ∧ Below w.heap.size w w' := by
  go_enter Try.func3, Try.ntmps3
  go_wp2
  go_loopw [1] (fun i wr => ∃ k : Nat, 2 ≤ k ∧ k ≤ 5 ∧ i = .int .i64 k ∧ Same w wr) (fun i _ => 6 - (intOf i).toNat)
  case atStart => exact ⟨2, by omega, by omega, rfl, Frm.refl _ _⟩
  case round =>
    obtain ⟨k, hk2, hk5, rfl, hs⟩ := hrel
    by_cases hlt : (k : Int) ≤ 4
    · obtain ⟨hf1, hf2, hf3, hf4⟩ := all_facts k hk2 (by omega)
      have hfs := fact_small (k := k) (by omega)
      have hE := Lib.hid hf2
      have F3 := Lib.hid hf3
      have F4 := Lib.hid hf4
      have HS := Lib.hid hs
      have HID := Lib.hid (show idR k = rng k by unfold idR; rw [if_neg (by omega)]; rfl)
      have HIE := Lib.hid (show idE k = 0 by unfold idE; rw [if_neg (by omega)])
      clear hf2 hf3 hf4 hs
      go_wp2_with (fail)
      refine call_world fun wr hwr => ?_
      subst hwr
      have hc := changes_any k wr
      rw [hE.out] at hc
      refine hc.mono ?_
      rintro e w2 ⟨Ac, Cc, rfl, hN2⟩
      clear hc
      have HC2 := Lib.hid hN2.1
      have HS2 := Lib.hid (HS.out.trans hN2.2.2 (fun _ _ h => h))
      clear hN2
      go_wp2_with (fail)
      have hc := Identity_any k w2
      rw [HID.out, HIE.out] at hc
      refine hc.mono ?_
      rintro e w3 ⟨Ai, Ci, rfl, hN3⟩
      clear hc
      have HI3 := Lib.hid hN3.1
      have HC3 := Lib.hid (Own.frm HC2.out hN3.2.2 (fun _ _ => id))
      have HS3 := Lib.hid (HS2.out.trans hN3.2.2 (fun _ _ h => h))
      clear hN3 HC2 HS2 HS
      obtain ⟨cl, hcl⟩ : ∃ cl, (chL k).length = cl := ⟨_, rfl⟩
      rw [hcl] at hf1 ⊢
      have HCL := Lib.hid hcl
      clear hcl
      obtain ⟨fk, hfk⟩ : ∃ fk, fact k = fk := ⟨_, rfl⟩
      rw [hfk] at hf1 hfs
      have HFK := Lib.hid hfk
      have hO := Own.ofMade (m := 1) w3 26 (fun b : Bool => [.bool b]) (fun _ => rfl) (by decide) false 24 (by decide) (cs := #[.bool false, .bool false, .bool false, .bool false, .bool false, .bool false, .bool false, .bool false, .bool false, .bool false, .bool false, .bool false, .bool false, .bool false, .bool false, .bool false, .bool false, .bool false, .bool false, .bool false, .bool false, .bool false, .bool false, .bool false]) (by kernel_rfl)
      rw [← seenR_zero k] at hO
      have hsa : ∀ cs, Same w3 (w3.alloc (.cells cs 26)) := fun cs => (Frm.refl _ _).alloc _
      have HO := Lib.hid hO
      have HSA := Lib.hid hsa
      have hz : w.heap.size ≤ w3.heap.size := HS3.out.size
      have hcl24 : cl ≤ 24 := by omega
      have hrl : (rng k).length = k := rng_len k
      have hI := HI3.out
      rw [hrl] at hI
      have HI := Lib.hid hI
      have HRL := Lib.hid hrl
      clear hfk hO hsa hI hrl
      have hcc := HC3.out
      rw [HCL.out] at hcc
      have HCC := Lib.hid hcc
      clear hcc
      go_wp2
      generalize w3.heap.size = g at *
      go_loopw [4, 7, 8] (fun s tv iv wv => ∃ (i : Nat) (Aat : Option Addr) (Cat : Nat), i ≤ fk ∧ iv = .int .i64 i ∧ tv = .int .i64 i ∧ s = .slice Aat k Cat ∧ OwnI wv 3 Aat k Cat (atL k (min i cl)) ∧ OwnI wv 3 Ac cl Cc (chL k) ∧ Row1 wv 26 (fun b : Bool => .bool b) (some ⟨g, 0, none⟩) 24 24 (seenR k i 24) ∧ Same w wv) (fun _ _ iv _ => fk + 1 - (intOf iv).toNat)
      case atStart =>
        refine ⟨0, Ai, Ci, by omega, rfl, rfl, by rw [HRL.out], ?_, Own.frm HCC.out (HSA.out _) (fun _ _ => id), HO.out, HS3.out.trans (HSA.out _) (fun _ _ h => h)⟩
        have := Own.frm HI.out (HSA.out #[]) (fun _ _ => id)
        rw [show atL k (min 0 cl) = rng k by simp [atL, swps]]
        exact Own.frm HI.out (HSA.out _) (fun _ _ => id)
      case round =>
        clear HO HSA HI HRL HCC HC3 HI3 HS3
        obtain ⟨i, Aat, Cat, hi, rfl, rfl, rfl, hat, hco, hse, hs⟩ := hrel
        have HAT := Lib.hid hat
        have HCO := Lib.hid hco
        have HSE := Lib.hid hse
        have HS := Lib.hid hs
        by_cases hle : (i : Int) ≤ cl
        · have hmin : min i cl = i := by omega
          obtain ⟨g1, g2, g3, g4⟩ := F3.out i (by rw [HFK.out]; omega)
          rw [HFK.out] at g2
          rw [hmin] at hat
          obtain ⟨r, hr⟩ : ∃ r, rkV (atL k i) = r := ⟨_, rfl⟩
          rw [hr] at g2 g3
          have hcap : k ≤ Cat := Own.cap hat
          have HA := Lib.hid hat
          have HR := Lib.hid hr
          have G1 := Lib.hid g1
          have G4 := Lib.hid g4
          have g24 : r < 24 := by omega
          have hget := seenR_get k i (n := 24) g24
          rw [decide_eq_false g3] at hget
          obtain ⟨sb, hsb, hsl, hsc⟩ := Own.at1 (c := fun b : Bool => .bool b) hse hget
          injection hsb with hsb
          injection hsb with hsb
          subst hsb
          have hfr := Own.free hse r
          have hst := Own.put1 (c := fun b : Bool => .bool b) hse (i := r) (by rw [seenR_len]; exact g24) true
          rw [seenR_set hr g24] at hst
          have hna : ∀ a, Aat = some a → a.block ≠ g := fun a ha h => Own.ne_own hat hse (by decide) g ⟨a, ha, h⟩ ⟨_, rfl, rfl⟩
          have hnc : ∀ a, Ac = some a → a.block ≠ g := fun a ha h => Own.ne_own hco hse (by decide) g ⟨a, ha, h⟩ ⟨_, rfl, rfl⟩
          have HNA := Lib.hid hna
          have HNC := Lib.hid hnc
          clear hat hco hse hs hr g1 g3 g4 hget hmin hna hnc hst HAT
          go_wp2_with (fail)
          refine call_world fun wv hwv => ?_
          subst hwv
          have hc := rank_any Aat _ Cat _ wv (Own.il HA.out) (by omega) hcap
          rw [HR.out, G1.out] at hc
          refine hc.mono ?_
          rintro e wy ⟨rfl, hsy⟩
          clear hc
          have hsc' := (hsy.cell (p := ⟨g, r, none⟩) hsl id).trans hsc
          have hseY := Own.frm HSE.out hsy (fun _ _ => id)
          have hfr' := Own.free hseY r
          have hst := Own.put1 (c := fun b : Bool => .bool b) hseY (i := r) (by rw [seenR_len]; exact g24) true
          rw [seenR_set HR.out g24] at hst
          have HST := Lib.hid hst
          have HAY := Lib.hid (Own.far (p := ⟨g, r, none⟩) (Own.frm HA.out hsy (fun _ _ => id)) HNA.out (.bool true))
          have HCY := Lib.hid (Own.far (p := ⟨g, r, none⟩) (Own.frm HCO.out hsy (fun _ _ => id)) HNC.out (.bool true))
          have HSY := Lib.hid ((HS.out.trans hsy (fun _ _ h => h)).setNew r (.bool true) hz)
          have hgl : g < wy.heap.size := Nat.lt_of_lt_of_le hsl hsy.size
          have hr1 : ¬ (r : Int) ≥ 24 := by omega
          have hr2 : (r : Int) < 24 := by omega
          clear hst hsc hfr hsy hseY HA HSE HCO HS hsl
          by_cases hl2 : i < cl
          · obtain ⟨l, hl⟩ : ∃ l, (chL k)[i]? = some l := ⟨_, List.getElem?_eq_getElem (by rw [HCL.out]; exact hl2)⟩
            have h4 := F4.out i (by rw [HCL.out]; exact hl2)
            rw [show (chL k).getD i 0 = l by simp [List.getD_eq_getElem?_getD, hl]] at h4
            have h5 := atL_succ hl
            have hsl : swL (atL k i) l = atL k (i + 1) := by unfold swL; rw [h4, if_pos rfl, h5]
            obtain ⟨b2, hA2, hb2, hc2⟩ := Own.at1 (c := fun x => .int .i64 x) HCY.out hl
            subst hA2
            have H4 := Lib.hid h4
            have HSL := Lib.hid hsl
            have hj1 : (i : Int) < cl := by omega
            have hj0 : (0 : Int) ≤ i := by omega
            clear hl h4 h5 hsl
            go_wp2_with (fail)
            have hc := swapped_any Aat _ Cat _ l _ (Own.il HAY.out) (by omega)
            rw [H4.out, HSL.out] at hc
            refine hc.mono ?_
            rintro e wx ⟨A3, C3, rfl, hN⟩
            clear hc
            have g5 := (F3.out (i + 1) (by rw [HFK.out]; omega)).2.2.2
            have hN1 := hN.1
            rw [g5] at hN1 ⊢
            have HN1 := Lib.hid hN1
            have HCX := Lib.hid (Own.frm HCY.out hN.2.2 (fun _ _ => id))
            have HSX := Lib.hid (Own.frm HST.out hN.2.2 (fun _ _ => id))
            have HSW := Lib.hid (HSY.out.trans hN.2.2 (fun _ _ h => h))
            clear hN hN1 g5
            go_wp2
            go_roundw
            case rel => exact ⟨i + 1, A3, C3, by omega, by go_num, by go_num, rfl, by rw [show min (i + 1) cl = i + 1 by omega]; exact HN1.out, HCX.out, HSX.out, HSW.out⟩
            case measure => simp [intOf]; omega
          · have hj1 : ¬ (i : Int) < cl := by omega
            go_wp2
            go_roundw
            case rel => exact ⟨i + 1, Aat, Cat, by omega, by go_num, by go_num, rfl, by rw [show min (i + 1) cl = i by omega]; exact HAY.out, HCY.out, HST.out, HSY.out⟩
            case measure => simp [intOf]; omega
        · obtain rfl : i = fk := by omega
          clear hat hco hse hs
          have hHS := HS.out
          have hkk : k = 2 ∨ k = 3 ∨ k = 4 := by omega
          rcases hkk with rfl | rfl | rfl
          · obtain rfl : i = 2 := by rw [← HFK.out]; decide
            go_wp2
            go_roundw
            case rel => exact ⟨2 + 1, by omega, by omega, by go_num, hHS⟩
            case measure => simp [intOf]
          · obtain rfl : i = 6 := by rw [← HFK.out]; decide
            go_wp2
            go_roundw
            case rel => exact ⟨3 + 1, by omega, by omega, by go_num, hHS⟩
            case measure => simp [intOf]
          · obtain rfl : i = 24 := by rw [← HFK.out]; decide
            go_wp2
            go_roundw
            case rel => exact ⟨4 + 1, by omega, by omega, by go_num, hHS⟩
            case measure => simp [intOf]
    · obtain rfl : k = 5 := by omega
      go_wp2
      go_ret
      exact ⟨rfl, hs.to_below (Nat.le_refl _) (fun _ _ => id)⟩
end Go.Proofs.Ytbckhmpkgokbeaa
