/- Contracts and plain laws, put together in one file. No condition. -/
import Derived.Test.YtakepdkokjecoaaJShapeLocal3
import Derived.Test.YtakepdkokjecoaaRows


/- Shape: ShapeLocal: the walk. -/
namespace Go.Proofs.Ytakepdkokjecoaa
open Go.RowKit Go.Tk Go.Maps

theorem rem_int (ab k : Nat) : (((ab : Int) / 2 ^ k).tmod 2 == 1) = ab.testBit k := by
  rw [Nat.testBit_eq_decide_div_mod_eq]
  have h1 : (ab : Int) / 2 ^ k = ((ab / 2 ^ k : Nat) : Int) := by
    rw [Int.natCast_ediv, Int.natCast_pow]
    rfl
  have h : (((ab / 2 ^ k : Nat) : Int)).tmod 2 = ((ab / 2 ^ k % 2 : Nat) : Int) := by
    rw [Int.tmod_eq_emod_of_nonneg (Int.natCast_nonneg _), Int.natCast_emod]
    rfl
  rw [h1, h]
  by_cases hb : ab / 2 ^ k % 2 = 1
  · rw [hb]; rfl
  · rw [decide_eq_false hb, beq_eq_false_iff_ne]
    omega
set_option maxRecDepth 100000 in
set_option maxHeartbeats 16000000 in
theorem local_walk (AL : Option Addr) (n C : Nat) (xs : List Tb) (Ao : Option Addr) (Lo Co : Nat) (os : List Int) (l : Int) (w : World) (h : Sl w 2 Tb.cells AL n xs) (hok : ∀ t ∈ xs, TbOk w t) (hn : n ≤ 8796093022210) (ho : IL w Ao Lo os) (hLo : Lo * 8 ≤ 140737488351232) :
    Calls Try.prog 8 #[.slice AL n C, .slice Ao Lo Co, .int .i64 l] w fun e w' => e = .returned (.bool true) ∧ Below w.heap.size w w' := by
  obtain rfl := ho.len
  have HXL := Lib.hid h.len
  have HO := Lib.hid ho
  have HP := Lib.hid (fun w' (hs : Same w w') => profile_any AL n C xs Ao os.length Co os w' (Sl.same h hs) (fun t ht => (hok t ht).same hs) hn (Sl.same ho hs) hLo)
  have HQ := Lib.hid (fun A D qs w' (hs : Same w w') (hq : IL w' A os.length qs) => profile_any AL n C xs A os.length D qs w' (Sl.same h hs) (fun t ht => (hok t ht).same hs) hn hq hLo)
  have HPA := Lib.hid (fun w' (hs : Same w w') => pairs_any AL n C xs w' (Sl.same h hs) (fun t ht => (hok t ht).same hs) hn)
  have HSM := Lib.hid (fun t (ht : t ∈ xs) => (hok t ht).small)
  have hwl : IntKind.i64.wrap ((os.length : Int) - 2) = (os.length : Int) - 2 := IntWalk.i64_in _ (by omega)
  clear h hok ho
  by_cases he : prE xs os = 0
  · rw [he] at HP
    by_cases hl0 : l < 0
    · go_enter Try.func8, Try.ntmps8
      go_wp2_with (fail)
      refine (sawake_any w).mono ?_
      rintro e w1 ⟨rfl, hs⟩
      have HS := Lib.hid hs
      clear hs
      go_wp2_with (fail)
      refine (HP.out w1 HS.out).mono ?_
      rintro e w2 ⟨Ap, Cp, rfl, hNT⟩
      have HFIN := Lib.hid ((HS.out.trans hNT.2.2 (fun _ _ h => h)).to_below (Nat.le_refl _) (fun _ _ => id))
      clear hNT
      go_wp2
      go_ret
      exact ⟨rfl, HFIN.out⟩
    · have hl0' : ¬ l < 0 := hl0
      by_cases hl2 : (os.length : Int) - 2 < l
      · go_enter Try.func8, Try.ntmps8
        go_wp2_with (fail)
        refine (sawake_any w).mono ?_
        rintro e w1 ⟨rfl, hs⟩
        have HS := Lib.hid hs
        clear hs
        go_wp2_with (fail)
        refine (HP.out w1 HS.out).mono ?_
        rintro e w2 ⟨Ap, Cp, rfl, hNT⟩
        have HFIN := Lib.hid ((HS.out.trans hNT.2.2 (fun _ _ h => h)).to_below (Nat.le_refl _) (fun _ _ => id))
        clear hNT
        go_wp2
        go_ret
        exact ⟨rfl, HFIN.out⟩
      · have hl2' : ¬ (os.length : Int) - 2 < l := hl2
        obtain ⟨ln, rfl⟩ := Int.eq_ofNat_of_zero_le (show 0 ≤ l by omega)
        have hlen : ln + 1 < os.length := by omega
        obtain ⟨h16, hper⟩ := prE_16 he
        have hq0 := prE_swp hlen he
        obtain ⟨ys, hys⟩ : ∃ z, z = prL xs os := ⟨_, rfl⟩
        obtain ⟨zs, hzs⟩ : ∃ z, z = prL xs (swp os ln) := ⟨_, rfl⟩
        have hyl : ys.length = os.length := by rw [hys]; unfold prL; rw [if_pos he, proL_len]
        have hzl : zs.length = os.length := by rw [hzs]; unfold prL; rw [if_pos hq0, proL_len, swp_len]
        have HYL := Lib.hid hyl
        have HZL := Lib.hid hzl
        have HOT := Lib.hid (fun i (h1 : i ≠ ln) (h2 : i ≠ ln + 1) => show zs[i]? = ys[i]? by rw [hys, hzs]; exact loc_other hlen he h1 h2)
        have HAL := Lib.hid (fun u v (hu : os[ln]? = some ((u : Nat) : Int)) (hv : os[ln + 1]? = some ((v : Nat) : Int)) (hap : ∀ t ∈ xs, ¬ (dep os.length u t.ws ∧ dep os.length v t.ws)) => show zs[ln + 1]? = ys[ln]? ∧ zs[ln]? = ys[ln + 1]? by rw [hys, hzs]; exact loc_along HSM.out he hu hv hap)
        rw [← hys] at HP
        have hP2 : ∀ w', Same w w' → Calls Try.prog 11 #[.slice AL n C, .slice Ao os.length Co] w' (fun e w2 => ∃ A C, e = .returned (.tuple #[.slice A os.length C, .int .i64 0]) ∧ IL w2 A os.length ys ∧ Same w' w2) := fun w' hs => (HP.out w' hs).mono fun e w2 ⟨A, C, h1, h2⟩ => by
          have h3 := Own.il h2.1
          rw [hyl] at h1 h3
          exact ⟨A, C, h1, h3, h2.2.2⟩
        have hQ2 : ∀ A D w', Same w w' → IL w' A os.length (swp os ln) → Calls Try.prog 11 #[.slice AL n C, .slice A os.length D] w' (fun e w2 => ∃ A C, e = .returned (.tuple #[.slice A os.length C, .int .i64 0]) ∧ IL w2 A os.length zs ∧ Same w' w2) := fun A D w' hs hq => (HQ.out A D _ w' hs hq).mono fun e w2 ⟨A, C, h1, h2⟩ => by
          rw [hq0, ← hzs] at h1
          rw [← hzs] at h2
          have h3 := Own.il h2.1
          rw [hzl] at h1 h3
          exact ⟨A, C, h1, h3, h2.2.2⟩
        have HP2 := Lib.hid hP2
        have HQ2 := Lib.hid hQ2
        have HTU := Lib.hid (fun w' (hs : Same w w') => (turned_any Ao os.length Co os ln w' (Sl.same HO.out hs) hLo (by omega)).mono fun e w2 (hr : RetL w' (swp os ln) e w2) => show ∃ A D, e = .returned (.slice A os.length D) ∧ IL w2 A os.length (swp os ln) ∧ Same w' w2 by
          obtain ⟨A, D, h1, h2⟩ := hr
          have h3 := Own.il h2.1
          rw [swp_len] at h1 h3
          exact ⟨A, D, h1, h3, h2.2.2⟩)
        have HPER := Lib.hid hper
        obtain ⟨hfm, htN⟩ := fm_of_ok he
        have HFM := Lib.hid hfm
        have HTN := Lib.hid htN
        have hwp : IntKind.i64.wrap ((ln : Int) + 1) = (ln : Int) + 1 := IntWalk.i64_in _ (by omega)
        clear hP2 hQ2 HP HQ hys hzs hyl hzl hq0 hper hfm htN he hl0' hl2'
        go_enter Try.func8, Try.ntmps8
        have hl0' : ¬ (ln : Int) < 0 := by omega
        have hl2' : ¬ (os.length : Int) - 2 < (ln : Int) := by omega
        go_wp2_with (fail)
        refine (sawake_any w).mono ?_
        rintro e w1 ⟨rfl, hs⟩
        have HS := Lib.hid hs
        clear hs
        go_wp2_with (fail)
        refine (HP2.out w1 HS.out).mono ?_
        rintro e w2 ⟨Ap, Cp, rfl, hil, hs⟩
        have HIL := Lib.hid hil
        replace HS := Lib.hid (HS.out.trans hs (fun _ _ h => h))
        clear hs hil
        go_wp2_with (fail)
        refine (HTU.out w2 HS.out).mono ?_
        rintro e w3 ⟨At, Ct, rfl, hit, hs⟩
        replace HIL := Lib.hid (Sl.same HIL.out hs)
        replace HS := Lib.hid (HS.out.trans hs (fun _ _ h => h))
        have HIT := Lib.hid hit
        clear hs hit
        go_wp2_with (fail)
        refine (HQ2.out At Ct w3 HS.out HIT.out).mono ?_
        rintro e w4 ⟨Aq, Cq, rfl, hiq, hs⟩
        replace HIL := Lib.hid (Sl.same HIL.out hs)
        replace HS := Lib.hid (HS.out.trans hs (fun _ _ h => h))
        have HIQ := Lib.hid hiq
        clear hs hiq HIT HTU HP2 HQ2
        go_wp2
        go_loopw [11] (fun i wi => ∃ k : Nat, k ≤ os.length ∧ i = .int .i64 k ∧ Same w4 wi) (fun i _ => os.length - (intOf i).toNat)
        case atStart => exact ⟨0, by omega, rfl, Frm.refl _ _⟩
        case round =>
          obtain ⟨k, hk, rfl, hs⟩ := hrel
          by_cases hlt : k < os.length
          · have hk0 : (0 : Int) ≤ k := by omega
            have hk1 : (k : Int) < os.length := by omega
            have HSI := Lib.hid hs
            by_cases e1 : k = ln
            · have hb1 : ((k : Int) != (ln : Int)) = false := by rw [e1]; simp
              clear e1 hs
              go_upto_region 12 with fail
              refine wp_quiet (by kernel_rfl) (by kernel_rfl) ?_
              repeat (any_goals (first | go_big_quiet_step (fail) | quiet_step (fail)))
              refine wpQuiet_nil ?_
              rintro wy ⟨qq, hq⟩
              have hsz : Same wr wy := by rw [hq]; exact more_same _ qq
              have HSY := Lib.hid (HSI.out.trans hsz (fun _ _ h => h))
              clear hq hsz
              go_wp2
              go_roundw
              case rel => exact ⟨k + 1, by omega, by go_num, HSY.out⟩
              case measure => simp [intOf] <;> omega
            · have hb1 : ((k : Int) != (ln : Int)) = true := by rw [bne_iff_ne]; omega
              by_cases e2 : k = ln + 1
              · have hb2 : ((k : Int) != (ln : Int) + 1) = false := by rw [e2]; simp
                clear e1 e2 hs
                go_upto_region 12 with fail
                refine wp_quiet (by kernel_rfl) (by kernel_rfl) ?_
                repeat (any_goals (first | go_big_quiet_step (fail) | quiet_step (fail)))
                refine wpQuiet_nil ?_
                rintro wy ⟨qq, hq⟩
                have hsz : Same wr wy := by rw [hq]; exact more_same _ qq
                have HSY := Lib.hid (HSI.out.trans hsz (fun _ _ h => h))
                clear hq hsz
                go_wp2
                go_roundw
                case rel => exact ⟨k + 1, by omega, by go_num, HSY.out⟩
                case measure => simp [intOf] <;> omega
              · have hb2 : ((k : Int) != (ln : Int) + 1) = true := by rw [bne_iff_ne]; omega
                obtain ⟨x, hx⟩ : ∃ x, ys[k]? = some x := ⟨_, List.getElem?_eq_getElem (by rw [HYL.out]; exact hlt)⟩
                obtain ⟨bp, op, hAp, hbp, hcp⟩ := (Sl.same HIL.out hs).at1 hx
                obtain ⟨bq, oq, hAq, hbq, hcq⟩ := (Sl.same HIQ.out hs).at1 ((HOT.out k e1 e2).trans hx)
                subst hAp hAq
                clear e1 e2 hs hx
                go_upto_region 12 with fail
                refine wp_quiet (by kernel_rfl) (by kernel_rfl) ?_
                repeat (any_goals (first | go_big_quiet_step (fail) | quiet_step (fail)))
                refine wpQuiet_nil ?_
                rintro wy ⟨qq, hq⟩
                have hsz : Same wr wy := by rw [hq]; exact more_same _ qq
                have HSY := Lib.hid (HSI.out.trans hsz (fun _ _ h => h))
                clear hq hsz
                go_wp2
                go_roundw
                case rel => exact ⟨k + 1, by omega, by go_num, HSY.out⟩
                case measure => simp [intOf] <;> omega
          · obtain rfl : k = os.length := by omega
            replace HIL := Lib.hid (Sl.same HIL.out hs)
            replace HIQ := Lib.hid (Sl.same HIQ.out hs)
            replace HS := Lib.hid (HS.out.trans hs (fun _ _ h => h))
            clear hs
            obtain ⟨w5, rfl⟩ : ∃ z, z = wr := ⟨_, rfl⟩
            go_wp2_with (fail)
            refine (HPA.out w5 HS.out).mono ?_
            rw [show paE xs = 0 by unfold paE; rw [HFM.out]; rfl]
            rintro e w6 ⟨Aw, Cw, rfl, hNT⟩
            replace HIL := Lib.hid (Sl.same HIL.out hNT.2.2)
            replace HIQ := Lib.hid (Sl.same HIQ.out hNT.2.2)
            replace HS := Lib.hid (HS.out.trans hNT.2.2 (fun _ _ h => h))
            have HW := Lib.hid (hNT.1.sl ucell_len)
            clear hNT
            obtain ⟨u, hu, hun⟩ := IsPerm.at HPER.out (show ln < os.length by omega)
            obtain ⟨v, hv, hvn⟩ := IsPerm.at HPER.out hlen
            have hne : u ≠ v := fun h => by
              rw [h] at hu
              have := (List.getElem?_inj (show ln < os.length by omega) HPER.out.2).1 (hu.trans hv.symm)
              omega
            have hoc := Sl.same HO.out HS.out
            obtain ⟨bo, oo, hAo, hbo, hcu⟩ := hoc.at1 hu
            obtain ⟨bo2, oo2, hAo2, _, hcv⟩ := hoc.at1 hv
            rw [hAo] at hAo2
            injection hAo2 with hAo2
            injection hAo2 with e1 e2
            subst e1 e2
            obtain ⟨x, hx⟩ : ∃ x, ys[ln]? = some x := ⟨_, List.getElem?_eq_getElem (by rw [HYL.out]; omega)⟩
            obtain ⟨y, hy⟩ : ∃ x, ys[ln + 1]? = some x := ⟨_, List.getElem?_eq_getElem (by rw [HYL.out]; exact hlen)⟩
            obtain ⟨bp, op, hAp, hbp, hcp⟩ := HIL.out.at1 hx
            obtain ⟨bp2, op2, hAp2, _, hcp2⟩ := HIL.out.at1 hy
            rw [hAp] at hAp2
            injection hAp2 with hAp2
            injection hAp2 with e1 e2
            subst e1 e2
            have HXX := Lib.hid hx
            have HYY := Lib.hid hy
            have HU := Lib.hid hu
            have HV := Lib.hid hv
            subst hAo hAp
            clear hu hv hoc hx hy
            have hln0 : (0 : Int) ≤ ln := by omega
            have hln1 : (ln : Int) < os.length := by omega
            have hln2 : (ln : Int) + 1 < os.length := by omega
            have hln3 : (0 : Int) ≤ (ln : Int) + 1 := by omega
            by_cases hn0 : n = 0
            · have hxs : xs = [] := List.eq_nil_of_length_eq_zero (by rw [← HXL.out]; exact hn0)
              have hap : ∀ t ∈ xs, ¬ (dep os.length u t.ws ∧ dep os.length v t.ws) := by rw [hxs]; exact fun t ht => by cases ht
              have hnp : ¬ (0 : Int) < n := by omega
              have hbd : decide ((0 : Int) < (n : Int)) = false := decide_eq_false hnp
              have hnN : ¬ 0 < n := by omega
              have hbN : decide (0 < n) = false := decide_eq_false hnN
              have hnL : (n : Int) ≤ 0 := by omega
              generalize (paR xs).length = pl at HW ⊢
              clear hxs hn0 HW
              obtain ⟨f1, f2⟩ := HAL.out u v HU.out HV.out hap
              obtain ⟨bq, oq, hAq, hbq, hcq⟩ := HIQ.out.at1 (f2.trans HYY.out)
              obtain ⟨bq2, oq2, hAq2, _, hcq2⟩ := HIQ.out.at1 (f1.trans HXX.out)
              rw [hAq] at hAq2
              injection hAq2 with hAq2
              injection hAq2 with e1 e2
              subst e1 e2
              subst hAq
              clear hap f1 f2 hcu hcv hbo
              go_upto_region 17 with fail
              refine wp_quiet (by kernel_rfl) (by kernel_rfl) ?_
              repeat (any_goals (first | go_big_quiet_step (fail) | quiet_step (fail)))
              refine wpQuiet_nil ?_
              rintro wy ⟨qq, hq⟩
              have hsz : Same w6 wy := by rw [hq]; exact more_same _ qq
              have dp := (hsz.cell (p := ⟨bp, op + ln, none⟩) hbp id).trans hcp
              have dp2 := (hsz.cell (p := ⟨bp, op + (ln + 1), none⟩) hbp id).trans hcp2
              have dq := (hsz.cell (p := ⟨bq, oq + ln, none⟩) hbq id).trans hcq
              have dq2 := (hsz.cell (p := ⟨bq, oq + (ln + 1), none⟩) hbq id).trans hcq2
              have lp := Nat.lt_of_lt_of_le hbp hsz.size
              have lq := Nat.lt_of_lt_of_le hbq hsz.size
              replace HS := Lib.hid (HS.out.trans hsz (fun _ _ h => h))
              clear hq hsz hcp hcp2 hcq hcq2 hbp hbq
              go_upto_region 19 with fail
              refine wp_quiet (by kernel_rfl) (by kernel_rfl) ?_
              repeat (any_goals (first | go_big_quiet_step (fail) | quiet_step (fail)))
              refine wpQuiet_nil ?_
              rintro wv ⟨qq, hq⟩
              have HFIN := Lib.hid ((HS.out.trans (show Same wy wv by rw [hq]; exact more_same _ qq) (fun _ _ h => h)).to_below (Nat.le_refl _) (fun _ _ => id))
              clear hq
              go_wp2
              go_ret
              exact ⟨rfl, HFIN.out⟩
            · have hxne : xs ≠ [] := by
                intro h
                rw [HXL.out, h] at hn0
                exact hn0 rfl
              have hpr : paR xs = prRow os.length xs := by
                unfold paR
                rw [if_pos ⟨HFM.out, hxne⟩, HTN.out hxne]
                rfl
              rw [hpr, prRow_len] at HW ⊢
              have hnp : (0 : Int) < n := by omega
              have hbd : decide ((0 : Int) < (n : Int)) = true := decide_eq_true hnp
              have hnN : 0 < n := by omega
              have hbN : decide (0 < n) = true := decide_eq_true hnN
              obtain ⟨bw, ow, hAw, hbw, hcw⟩ := WL.at1 HW.out (show (prRow os.length xs)[u]? = some (prV xs u) by simp [prRow, hun])
              subst hAw
              have hu0 : (0 : Int) ≤ u := by omega
              have hu1 : (u : Int) < os.length := by omega
              have hv00 : (0 : Int) ≤ v := by omega
              have hbit := prV_bit (v := u) (w := v) (by omega) (by omega) (fun h => hne h.symm) xs 0
              have hfa := fm_all HFM.out
              have hiff : (prV xs u).testBit v = true ↔ ∃ t ∈ xs, dep os.length u t.ws ∧ dep os.length v t.ws := by
                unfold prV
                rw [hbit]
                simp only [Nat.zero_testBit, Bool.false_eq_true, false_or]
                constructor
                · rintro ⟨t, ht, h1, h2⟩
                  obtain ⟨h3, h4⟩ := hfa t ht
                  rw [h4, HTN.out hxne] at h1 h2 h3
                  have h5 := frm_nat.1 h3
                  exact ⟨t, ht, (sup_dep h5 hun).1 h1, (sup_dep h5 hvn).1 h2⟩
                · rintro ⟨t, ht, h1, h2⟩
                  obtain ⟨h3, h4⟩ := hfa t ht
                  rw [h4, HTN.out hxne] at h3
                  refine ⟨t, ht, ?_, ?_⟩
                  · rw [h4, HTN.out hxne]
                    exact (sup_dep (frm_nat.1 h3) hun).2 h1
                  · rw [h4, HTN.out hxne]
                    exact (sup_dep (frm_nat.1 h3) hvn).2 h2
              obtain ⟨pv, hpv⟩ : ∃ z, z = prV xs u := ⟨_, rfl⟩
              rw [← hpv] at hiff hcw
              clear hbit hfa hpr hxne hpv hn0
              by_cases hbt : pv.testBit v = true
              · have hbi : (((pv : Int) / 2 ^ v).tmod 2 == 1) = true := by rw [rem_int]; exact hbt
                clear hbt hiff HW
                go_upto_region 17 with fail
                refine wp_quiet (by kernel_rfl) (by kernel_rfl) ?_
                repeat (any_goals (first | go_big_quiet_step (fail) | quiet_step (fail)))
                refine wpQuiet_nil ?_
                rintro wy ⟨qq, hq⟩
                have hsz : Same w6 wy := by rw [hq]; exact more_same _ qq
                have HFIN := Lib.hid ((HS.out.trans hsz (fun _ _ h => h)).to_below (Nat.le_refl _) (fun _ _ => id))
                clear hq hsz
                go_wp2
                go_ret
                exact ⟨rfl, HFIN.out⟩
              · have hbi : (((pv : Int) / 2 ^ v).tmod 2 == 1) = false := by rw [rem_int]; simpa using hbt
                have hap : ∀ t ∈ xs, ¬ (dep os.length u t.ws ∧ dep os.length v t.ws) := fun t ht h => hbt (hiff.2 ⟨t, ht, h⟩)
                clear hbt hiff HW
                obtain ⟨f1, f2⟩ := HAL.out u v HU.out HV.out hap
                obtain ⟨bq, oq, hAq, hbq, hcq⟩ := HIQ.out.at1 (f2.trans HYY.out)
                obtain ⟨bq2, oq2, hAq2, _, hcq2⟩ := HIQ.out.at1 (f1.trans HXX.out)
                rw [hAq] at hAq2
                injection hAq2 with hAq2
                injection hAq2 with e1 e2
                subst e1 e2
                subst hAq
                clear hap f1 f2
                go_upto_region 17 with fail
                refine wp_quiet (by kernel_rfl) (by kernel_rfl) ?_
                repeat (any_goals (first | go_big_quiet_step (fail) | quiet_step (fail)))
                refine wpQuiet_nil ?_
                rintro wy ⟨qq, hq⟩
                have hsz : Same w6 wy := by rw [hq]; exact more_same _ qq
                have dp := (hsz.cell (p := ⟨bp, op + ln, none⟩) hbp id).trans hcp
                have dp2 := (hsz.cell (p := ⟨bp, op + (ln + 1), none⟩) hbp id).trans hcp2
                have dq := (hsz.cell (p := ⟨bq, oq + ln, none⟩) hbq id).trans hcq
                have dq2 := (hsz.cell (p := ⟨bq, oq + (ln + 1), none⟩) hbq id).trans hcq2
                have lp := Nat.lt_of_lt_of_le hbp hsz.size
                have lq := Nat.lt_of_lt_of_le hbq hsz.size
                replace HS := Lib.hid (HS.out.trans hsz (fun _ _ h => h))
                clear hq hsz hcp hcp2 hcq hcq2 hbp hbq
                go_upto_region 19 with fail
                refine wp_quiet (by kernel_rfl) (by kernel_rfl) ?_
                repeat (any_goals (first | go_big_quiet_step (fail) | quiet_step (fail)))
                refine wpQuiet_nil ?_
                rintro wv ⟨qq, hq⟩
                have HFIN := Lib.hid ((HS.out.trans (show Same wy wv by rw [hq]; exact more_same _ qq) (fun _ _ h => h)).to_below (Nat.le_refl _) (fun _ _ => id))
                clear hq
                go_wp2
                go_ret
                exact ⟨rfl, HFIN.out⟩
  · obtain ⟨er, her⟩ : ∃ z, z = prE xs os := ⟨_, rfl⟩
    rw [← her] at HP he
    have hne : (er != 0) = true := by simpa using he
    clear her he
    go_enter Try.func8, Try.ntmps8
    go_wp2_with (fail)
    refine (sawake_any w).mono ?_
    rintro e w1 ⟨rfl, hs⟩
    have HS := Lib.hid hs
    clear hs
    go_wp2_with (fail)
    refine (HP.out w1 HS.out).mono ?_
    rintro e w2 ⟨Ap, Cp, rfl, hNT⟩
    have HFIN := Lib.hid ((HS.out.trans hNT.2.2 (fun _ _ h => h)).to_below (Nat.le_refl _) (fun _ _ => id))
    clear hNT
    go_wp2
    go_ret
    exact ⟨rfl, HFIN.out⟩
end Go.Proofs.Ytakepdkokjecoaa


/- The walk of ShLoc beside the given rows. -/
namespace Go.Proofs.Ytakepdkokjecoaa
open Go.RowKit Go.Tk
theorem sl_vals {w : World} {A : Option Addr} {n : Nat} {xs : List {t : Tb // TbIn w t}} (h : Sl w 2 (fun x : {t : Tb // TbIn w t} => x.1.cells) A n xs) : Sl w 2 Tb.cells A n (xs.map (·.1)) := by
  refine ⟨by rw [List.length_map]; exact h.len, fun i t hi => ?_⟩
  rw [List.getElem?_map] at hi
  obtain ⟨x, hx, rfl⟩ := Option.map_eq_some_iff.1 hi
  exact h.get i x hx
theorem ok_vals {w : World} {xs : List {t : Tb // TbIn w t}} : ∀ t ∈ xs.map (·.1), TbOk w t := fun t ht => by
  obtain ⟨x, _, rfl⟩ := List.mem_map.1 ht
  exact x.2.ok
end Go.Proofs.Ytakepdkokjecoaa
