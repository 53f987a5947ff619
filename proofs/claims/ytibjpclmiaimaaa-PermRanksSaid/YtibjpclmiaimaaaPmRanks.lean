/- PermRanks: its walk. -/
import Derived.Test.YtibjpclmiaimaaaPmNumbers
import Derived.Test.YtibjpclmiaimaaaPmRkPure
namespace Go.Proofs.Ytibjpclmiaimaaa
open Go.RowKit Go.Tk

theorem rkV_lt (p : List Int) : rkV p < 18446744073709551616 := by
  by_cases h : rkE p = 0
  · rw [rkV_ok h]
    have h1 := rk_lt p
    have h2 := fact_le20 (rkE_ok.1 h).2
    omega
  · unfold rkV
    rw [if_neg h]
    omega
set_option maxHeartbeats 4000000 in
theorem ranks_walk (A B : Option Addr) (n m C D : Nat) (xs ys : List Int) (r : Nat) (w : World) (h : IL w A n xs) (h2 : IL w B m ys) (hr : n * 8 ≤ 140737488351232) (hr2 : m * 8 ≤ 140737488351232) (hC : n ≤ C) (hD : m ≤ D) (hrr : r < 18446744073709551616) :
    Calls Try.prog 8 #[.slice A n C, .slice B m D, .int .u64 r] w fun e w' => e = .returned (.bool true) ∧ Below w.heap.size w w' := by
  obtain rfl := h.len
  obtain rfl := h2.len
  have HX := Lib.hid h
  have HY := Lib.hid h2
  clear h h2
  obtain ⟨c1, hc1⟩ : ∃ c, rkE xs = c := ⟨_, rfl⟩
  obtain ⟨c2, hc2⟩ : ∃ c, rkE ys = c := ⟨_, rfl⟩
  have hva := rkV_lt xs
  obtain ⟨va, hv1⟩ : ∃ c, rkV xs = c := ⟨_, rfl⟩
  obtain ⟨vb, hv2⟩ : ∃ c, rkV ys = c := ⟨_, rfl⟩
  rw [hv1] at hva
  obtain ⟨cg, hcg⟩ : ∃ c, unE xs.length r = c := ⟨_, rfl⟩
  obtain ⟨ul, hul⟩ : ∃ c, unR xs.length r = c := ⟨_, rfl⟩
  have HE1 := Lib.hid hc1
  have HE2 := Lib.hid hc2
  have HV1 := Lib.hid hv1
  have HV2 := Lib.hid hv2
  have HG1 := Lib.hid hul
  have HG2 := Lib.hid hcg
  by_cases e0 : c1 = 0
  · skip
    have hun := un_of_rank (p := xs) (by rw [hc1, e0])
    rw [hv1] at hun
    have HU1 := Lib.hid hun.2
    have HU2 := Lib.hid hun.1
    clear hun
    subst e0
    by_cases g0 : cg = 0
    · skip
      have hra := rank_of_un (n := xs.length) (r := r) (by rw [hcg, g0])
      rw [hul] at hra
      have hrl : ul.length * 8 ≤ 140737488351232 := by have := hra.1; omega
      have hule : (ul.length : Int) = xs.length := by have := hra.1; omega
      have HG3 := Lib.hid hra.2.1
      have HG4 := Lib.hid hra.2.2
      clear hra
      subst g0
      by_cases f0 : c2 = 0
      · skip
        subst f0
        by_cases hl : xs.length = ys.length
        · skip
          have hl' : ((xs.length : Int) != (ys.length : Int)) = false := by simp [hl]
          have HL := Lib.hid hl
          have hpq := perm_perm hc1 hc2 hl
          have hx1 := rkV_ok hc1
          have hx2 := rkV_ok hc2
          rw [hv1] at hx1
          rw [hv2] at hx2
          have hord : ∀ (k : Nat) (x y : Int), xs.take k = ys.take k → xs[k]? = some x → ys[k]? = some y → x < y → va < vb := fun k x y h1 h2 h3 h4 => by
            rw [hx1, hx2]
            exact rk_first hpq h1 h2 h3 h4
          have hord2 : ∀ (k : Nat) (x y : Int), xs.take k = ys.take k → xs[k]? = some x → ys[k]? = some y → y < x → vb < va := fun k x y h1 h2 h3 h4 => by
            rw [hx1, hx2]
            exact rk_first hpq.symm h1.symm h3 h2 h4
          have HORD := Lib.hid hord
          have HORD2 := Lib.hid hord2
          clear hl hpq hx1 hx2 hord hord2 hc1 hc2 hv1 hv2 hcg hul
          go_enter Try.func8, Try.ntmps8
          go_wp2_with (fail)
          refine (awake_any w).mono ?_
          rintro e w1 ⟨rfl, hs1⟩
          have HS2 := Lib.hid hs1
          clear hs1
          go_wp2_with (fail)
          have hc3 := rank_any A _ C xs _ (Sl.same HX.out HS2.out) hr hC
          rw [HE1.out, HV1.out] at hc3
          refine hc3.mono ?_
          clear hc3
          rintro e w3 ⟨rfl, hs3⟩
          have HS4 := Lib.hid ((HS2.out).trans hs3 (fun _ _ h => h))
          clear HS2 hs3
          go_wp2_with (fail)
          have hc5 := rank_any B _ D ys _ (Sl.same HY.out HS4.out) hr2 hD
          rw [HE2.out, HV2.out] at hc5
          refine hc5.mono ?_
          clear hc5
          rintro e w5 ⟨rfl, hs5⟩
          have HS6 := Lib.hid ((HS4.out).trans hs5 (fun _ _ h => h))
          clear HS4 hs5
          go_wp2_with (fail)
          have hc7 := unrank_any xs.length va w5 hva
          rw [HU1.out, HU2.out] at hc7
          refine hc7.mono ?_
          clear hc7
          rintro e w7 ⟨Au, Cu, rfl, hN7⟩
          have hs7 := hN7.2.2
          have HS8 := Lib.hid ((HS6.out).trans hs7 (fun _ _ h => h))
          have HL8_u := Lib.hid hN7.il
          clear HS6 hs7
          clear hN7
          go_wp2_with (fail)
          refine (same_any Au A _ _ Cu C xs xs _ HL8_u.out (Sl.same HX.out HS8.out) hr hr).mono ?_
          rintro e w9 ⟨rfl, hs9⟩
          have HL10_u := Lib.hid (Sl.same HL8_u.out hs9)
          have HS10 := Lib.hid ((HS8.out).trans hs9 (fun _ _ h => h))
          clear HL8_u HS8 hs9
          simp only [decide_true]
          clear HL10_u
          go_wp2_with (fail)
          have hc11 := unrank_any xs.length r w9 hrr
          rw [HG1.out, HG2.out] at hc11
          refine hc11.mono ?_
          clear hc11
          rintro e w11 ⟨Av, Cv, rfl, hN11⟩
          have hs11 := hN11.2.2
          have hcapv := Own.cap hN11.1
          have HS12 := Lib.hid ((HS10.out).trans hs11 (fun _ _ h => h))
          have HL12_v := Lib.hid hN11.il
          clear HS10 hs11
          clear hN11
          go_wp2_with (fail)
          have hc13 := rank_any Av _ Cv ul _ HL12_v.out hrl hcapv
          rw [HG3.out, HG4.out] at hc13
          refine hc13.mono ?_
          clear hc13
          rintro e w13 ⟨rfl, hs13⟩
          have HL14_v := Lib.hid (Sl.same HL12_v.out hs13)
          have HS14 := Lib.hid ((HS12.out).trans hs13 (fun _ _ h => h))
          clear HL12_v HS12 hs13
          clear HL14_v
          go_wp2
          go_loopw [17] (fun i wr => ∃ k : Nat, k ≤ xs.length ∧ i = .int .i64 k ∧ xs.take k = ys.take k ∧ Same w wr) (fun i _ => xs.length - (intOf i).toNat)
          case atStart => exact ⟨0, by omega, rfl, rfl, HS14.out⟩
          case round =>
            obtain ⟨k, hk, rfl, he, hs⟩ := hrel
            have HS := Lib.hid hs
            have HE := Lib.hid he
            clear he
            by_cases hlt : k < xs.length
            · obtain ⟨x, hx⟩ : ∃ x, xs[k]? = some x := ⟨_, List.getElem?_eq_getElem hlt⟩
              obtain ⟨y, hy⟩ : ∃ y, ys[k]? = some y := ⟨_, List.getElem?_eq_getElem (by have := HL.out; omega)⟩
              obtain ⟨b, off, rfl, hb, hc⟩ := (Sl.same HX.out hs).at1 hx
              obtain ⟨b2, off2, rfl, hb2, hc2⟩ := (Sl.same HY.out hs).at1 hy
              have hi0 : (0 : Int) ≤ k := by omega
              have hi1 : (k : Int) < xs.length := by omega
              have hi2 : (k : Int) < ys.length := by have := HL.out; omega
              have HQX := Lib.hid hx
              have HQY := Lib.hid hy
              clear hx hy hs
              by_cases hxy : x = y
              · subst hxy
                go_wp2
                refine wp_quiet (by kernel_rfl) (by kernel_rfl) ?_
                repeat (any_goals (first | go_big_quiet_step (fail) | quiet_step (fail)))
                refine wpQuiet_nil ?_
                rintro _ ⟨q, rfl⟩
                have HS2 := Lib.hid (HS.out.trans (more_same _ q) (fun _ _ h => h))
                go_wp2
                go_roundw
                case rel => exact ⟨k + 1, by omega, by go_num, by rw [take_snoc HQX.out, take_snoc HQY.out, HE.out], HS2.out⟩
                case measure => simp [intOf]; omega
              · have hne : (x != y) = true := by simpa using hxy
                have hor : (x < y ∧ va < vb) ∨ (¬ x < y ∧ vb < va) := by
                  rcases Int.lt_or_gt_of_ne hxy with h | h
                  · exact .inl ⟨h, HORD.out k x y HE.out HQX.out HQY.out h⟩
                  · exact .inr ⟨by omega, HORD2.out k x y HE.out HQX.out HQY.out h⟩
                clear hxy
                rcases hor with ⟨h1, h2⟩ | ⟨h1, h2⟩
                · have hab1 : (va : Int) < vb := by omega
                  have habn1 : va < vb := by omega
                  have hne2 : ((va : Int) != (vb : Int)) = true := by simp; omega
                  go_upto_region 20 with fail
                  refine wp_quiet (by kernel_rfl) (by kernel_rfl) ?_
                  repeat (any_goals (first | go_big_quiet_step (fail) | quiet_step (fail)))
                  refine wpQuiet_nil ?_
                  rintro wz ⟨q, hq⟩
                  have hsq : Same wr wz := by rw [hq]; exact more_same _ q
                  have HS2 := Lib.hid (HS.out.trans hsq (fun _ _ h => h))
                  have hcz := (hsq.cell (p := ⟨b, off + k, none⟩) hb id).trans hc
                  have hcz2 := (hsq.cell (p := ⟨b2, off2 + k, none⟩) hb2 id).trans hc2
                  have hbz : b < wz.heap.size := by have := hsq.size; omega
                  have hbz2 : b2 < wz.heap.size := by have := hsq.size; omega
                  clear hq hsq hc hc2 hb hb2
                  go_upto_region 21 with fail
                  refine wp_quiet (by kernel_rfl) (by kernel_rfl) ?_
                  repeat (any_goals (first | go_big_quiet_step (fail) | quiet_step (fail)))
                  refine wpQuiet_nil ?_
                  rintro _ ⟨q2, rfl⟩
                  have HS3 := Lib.hid (HS2.out.trans (more_same _ q2) (fun _ _ h => h))
                  go_wp2
                  go_ret
                  exact ⟨ret_bool (by simp), HS3.out.to_below (Nat.le_refl _) (fun _ _ => id)⟩
                · have hab2 : ¬ (va : Int) < vb := by omega
                  have habn2 : ¬ va < vb := by omega
                  have hne2 : ((va : Int) != (vb : Int)) = true := by simp; omega
                  go_upto_region 20 with fail
                  refine wp_quiet (by kernel_rfl) (by kernel_rfl) ?_
                  repeat (any_goals (first | go_big_quiet_step (fail) | quiet_step (fail)))
                  refine wpQuiet_nil ?_
                  rintro wz ⟨q, hq⟩
                  have hsq : Same wr wz := by rw [hq]; exact more_same _ q
                  have HS2 := Lib.hid (HS.out.trans hsq (fun _ _ h => h))
                  have hcz := (hsq.cell (p := ⟨b, off + k, none⟩) hb id).trans hc
                  have hcz2 := (hsq.cell (p := ⟨b2, off2 + k, none⟩) hb2 id).trans hc2
                  have hbz : b < wz.heap.size := by have := hsq.size; omega
                  have hbz2 : b2 < wz.heap.size := by have := hsq.size; omega
                  clear hq hsq hc hc2 hb hb2
                  go_upto_region 21 with fail
                  refine wp_quiet (by kernel_rfl) (by kernel_rfl) ?_
                  repeat (any_goals (first | go_big_quiet_step (fail) | quiet_step (fail)))
                  refine wpQuiet_nil ?_
                  rintro _ ⟨q2, rfl⟩
                  have HS3 := Lib.hid (HS2.out.trans (more_same _ q2) (fun _ _ h => h))
                  go_wp2
                  go_ret
                  exact ⟨ret_bool (by simp [h1]), HS3.out.to_below (Nat.le_refl _) (fun _ _ => id)⟩
            · obtain rfl : k = xs.length := by omega
              have hfin : xs = ys := by
                have h1 := HE.out
                rw [List.take_of_length_le (Nat.le_refl _), List.take_of_length_le (by have := HL.out; omega)] at h1
                exact h1
              have hvv : va = vb := by rw [← HV1.out, ← HV2.out, hfin]
              subst hvv
              clear hfin hs
              go_wp2
              go_ret
              exact ⟨ret_bool (by simp), HS.out.to_below (Nat.le_refl _) (fun _ _ => id)⟩
        · skip
          have hl' : ((xs.length : Int) != (ys.length : Int)) = true := by simp; omega
          clear hl hc1 hc2 hv1 hv2 hcg hul
          go_enter Try.func8, Try.ntmps8
          go_wp2_with (fail)
          refine (awake_any w).mono ?_
          rintro e w1 ⟨rfl, hs1⟩
          have HS2 := Lib.hid hs1
          clear hs1
          go_wp2_with (fail)
          have hc3 := rank_any A _ C xs _ (Sl.same HX.out HS2.out) hr hC
          rw [HE1.out, HV1.out] at hc3
          refine hc3.mono ?_
          clear hc3
          rintro e w3 ⟨rfl, hs3⟩
          have HS4 := Lib.hid ((HS2.out).trans hs3 (fun _ _ h => h))
          clear HS2 hs3
          go_wp2_with (fail)
          have hc5 := rank_any B _ D ys _ (Sl.same HY.out HS4.out) hr2 hD
          rw [HE2.out, HV2.out] at hc5
          refine hc5.mono ?_
          clear hc5
          rintro e w5 ⟨rfl, hs5⟩
          have HS6 := Lib.hid ((HS4.out).trans hs5 (fun _ _ h => h))
          clear HS4 hs5
          go_wp2_with (fail)
          have hc7 := unrank_any xs.length va w5 hva
          rw [HU1.out, HU2.out] at hc7
          refine hc7.mono ?_
          clear hc7
          rintro e w7 ⟨Au, Cu, rfl, hN7⟩
          have hs7 := hN7.2.2
          have HS8 := Lib.hid ((HS6.out).trans hs7 (fun _ _ h => h))
          have HL8_u := Lib.hid hN7.il
          clear HS6 hs7
          clear hN7
          go_wp2_with (fail)
          refine (same_any Au A _ _ Cu C xs xs _ HL8_u.out (Sl.same HX.out HS8.out) hr hr).mono ?_
          rintro e w9 ⟨rfl, hs9⟩
          have HL10_u := Lib.hid (Sl.same HL8_u.out hs9)
          have HS10 := Lib.hid ((HS8.out).trans hs9 (fun _ _ h => h))
          clear HL8_u HS8 hs9
          simp only [decide_true]
          clear HL10_u
          go_wp2_with (fail)
          have hc11 := unrank_any xs.length r w9 hrr
          rw [HG1.out, HG2.out] at hc11
          refine hc11.mono ?_
          clear hc11
          rintro e w11 ⟨Av, Cv, rfl, hN11⟩
          have hs11 := hN11.2.2
          have hcapv := Own.cap hN11.1
          have HS12 := Lib.hid ((HS10.out).trans hs11 (fun _ _ h => h))
          have HL12_v := Lib.hid hN11.il
          clear HS10 hs11
          clear hN11
          go_wp2_with (fail)
          have hc13 := rank_any Av _ Cv ul _ HL12_v.out hrl hcapv
          rw [HG3.out, HG4.out] at hc13
          refine hc13.mono ?_
          clear hc13
          rintro e w13 ⟨rfl, hs13⟩
          have HL14_v := Lib.hid (Sl.same HL12_v.out hs13)
          have HS14 := Lib.hid ((HS12.out).trans hs13 (fun _ _ h => h))
          clear HL12_v HS12 hs13
          clear HL14_v
          go_wp2
          go_ret
          exact ⟨ret_bool (by simp), HS14.out.to_below (Nat.le_refl _) (fun _ _ => id)⟩
      · skip
        have f0' : (c2 != 0) = true := by simpa using f0
        clear f0 hc1 hc2 hv1 hv2 hcg hul
        go_enter Try.func8, Try.ntmps8
        go_wp2_with (fail)
        refine (awake_any w).mono ?_
        rintro e w1 ⟨rfl, hs1⟩
        have HS2 := Lib.hid hs1
        clear hs1
        go_wp2_with (fail)
        have hc3 := rank_any A _ C xs _ (Sl.same HX.out HS2.out) hr hC
        rw [HE1.out, HV1.out] at hc3
        refine hc3.mono ?_
        clear hc3
        rintro e w3 ⟨rfl, hs3⟩
        have HS4 := Lib.hid ((HS2.out).trans hs3 (fun _ _ h => h))
        clear HS2 hs3
        go_wp2_with (fail)
        have hc5 := rank_any B _ D ys _ (Sl.same HY.out HS4.out) hr2 hD
        rw [HE2.out, HV2.out] at hc5
        refine hc5.mono ?_
        clear hc5
        rintro e w5 ⟨rfl, hs5⟩
        have HS6 := Lib.hid ((HS4.out).trans hs5 (fun _ _ h => h))
        clear HS4 hs5
        go_wp2_with (fail)
        have hc7 := unrank_any xs.length va w5 hva
        rw [HU1.out, HU2.out] at hc7
        refine hc7.mono ?_
        clear hc7
        rintro e w7 ⟨Au, Cu, rfl, hN7⟩
        have hs7 := hN7.2.2
        have HS8 := Lib.hid ((HS6.out).trans hs7 (fun _ _ h => h))
        have HL8_u := Lib.hid hN7.il
        clear HS6 hs7
        clear hN7
        go_wp2_with (fail)
        refine (same_any Au A _ _ Cu C xs xs _ HL8_u.out (Sl.same HX.out HS8.out) hr hr).mono ?_
        rintro e w9 ⟨rfl, hs9⟩
        have HL10_u := Lib.hid (Sl.same HL8_u.out hs9)
        have HS10 := Lib.hid ((HS8.out).trans hs9 (fun _ _ h => h))
        clear HL8_u HS8 hs9
        simp only [decide_true]
        clear HL10_u
        go_wp2_with (fail)
        have hc11 := unrank_any xs.length r w9 hrr
        rw [HG1.out, HG2.out] at hc11
        refine hc11.mono ?_
        clear hc11
        rintro e w11 ⟨Av, Cv, rfl, hN11⟩
        have hs11 := hN11.2.2
        have hcapv := Own.cap hN11.1
        have HS12 := Lib.hid ((HS10.out).trans hs11 (fun _ _ h => h))
        have HL12_v := Lib.hid hN11.il
        clear HS10 hs11
        clear hN11
        go_wp2_with (fail)
        have hc13 := rank_any Av _ Cv ul _ HL12_v.out hrl hcapv
        rw [HG3.out, HG4.out] at hc13
        refine hc13.mono ?_
        clear hc13
        rintro e w13 ⟨rfl, hs13⟩
        have HL14_v := Lib.hid (Sl.same HL12_v.out hs13)
        have HS14 := Lib.hid ((HS12.out).trans hs13 (fun _ _ h => h))
        clear HL12_v HS12 hs13
        clear HL14_v
        go_wp2
        go_ret
        exact ⟨ret_bool (by simp), HS14.out.to_below (Nat.le_refl _) (fun _ _ => id)⟩
    · skip
      have g0' : (cg == 0) = false := by simpa using g0
      clear g0
      by_cases f0 : c2 = 0
      · skip
        subst f0
        by_cases hl : xs.length = ys.length
        · skip
          have hl' : ((xs.length : Int) != (ys.length : Int)) = false := by simp [hl]
          have HL := Lib.hid hl
          have hpq := perm_perm hc1 hc2 hl
          have hx1 := rkV_ok hc1
          have hx2 := rkV_ok hc2
          rw [hv1] at hx1
          rw [hv2] at hx2
          have hord : ∀ (k : Nat) (x y : Int), xs.take k = ys.take k → xs[k]? = some x → ys[k]? = some y → x < y → va < vb := fun k x y h1 h2 h3 h4 => by
            rw [hx1, hx2]
            exact rk_first hpq h1 h2 h3 h4
          have hord2 : ∀ (k : Nat) (x y : Int), xs.take k = ys.take k → xs[k]? = some x → ys[k]? = some y → y < x → vb < va := fun k x y h1 h2 h3 h4 => by
            rw [hx1, hx2]
            exact rk_first hpq.symm h1.symm h3 h2 h4
          have HORD := Lib.hid hord
          have HORD2 := Lib.hid hord2
          clear hl hpq hx1 hx2 hord hord2 hc1 hc2 hv1 hv2 hcg hul
          go_enter Try.func8, Try.ntmps8
          go_wp2_with (fail)
          refine (awake_any w).mono ?_
          rintro e w1 ⟨rfl, hs1⟩
          have HS2 := Lib.hid hs1
          clear hs1
          go_wp2_with (fail)
          have hc3 := rank_any A _ C xs _ (Sl.same HX.out HS2.out) hr hC
          rw [HE1.out, HV1.out] at hc3
          refine hc3.mono ?_
          clear hc3
          rintro e w3 ⟨rfl, hs3⟩
          have HS4 := Lib.hid ((HS2.out).trans hs3 (fun _ _ h => h))
          clear HS2 hs3
          go_wp2_with (fail)
          have hc5 := rank_any B _ D ys _ (Sl.same HY.out HS4.out) hr2 hD
          rw [HE2.out, HV2.out] at hc5
          refine hc5.mono ?_
          clear hc5
          rintro e w5 ⟨rfl, hs5⟩
          have HS6 := Lib.hid ((HS4.out).trans hs5 (fun _ _ h => h))
          clear HS4 hs5
          go_wp2_with (fail)
          have hc7 := unrank_any xs.length va w5 hva
          rw [HU1.out, HU2.out] at hc7
          refine hc7.mono ?_
          clear hc7
          rintro e w7 ⟨Au, Cu, rfl, hN7⟩
          have hs7 := hN7.2.2
          have HS8 := Lib.hid ((HS6.out).trans hs7 (fun _ _ h => h))
          have HL8_u := Lib.hid hN7.il
          clear HS6 hs7
          clear hN7
          go_wp2_with (fail)
          refine (same_any Au A _ _ Cu C xs xs _ HL8_u.out (Sl.same HX.out HS8.out) hr hr).mono ?_
          rintro e w9 ⟨rfl, hs9⟩
          have HL10_u := Lib.hid (Sl.same HL8_u.out hs9)
          have HS10 := Lib.hid ((HS8.out).trans hs9 (fun _ _ h => h))
          clear HL8_u HS8 hs9
          simp only [decide_true]
          clear HL10_u
          go_wp2_with (fail)
          have hc11 := unrank_any xs.length r w9 hrr
          rw [HG1.out, HG2.out] at hc11
          refine hc11.mono ?_
          clear hc11
          rintro e w11 ⟨Av, Cv, rfl, hN11⟩
          have hs11 := hN11.2.2
          have HS12 := Lib.hid ((HS10.out).trans hs11 (fun _ _ h => h))
          clear HS10 hs11
          clear hN11
          go_wp2
          go_loopw [17] (fun i wr => ∃ k : Nat, k ≤ xs.length ∧ i = .int .i64 k ∧ xs.take k = ys.take k ∧ Same w wr) (fun i _ => xs.length - (intOf i).toNat)
          case atStart => exact ⟨0, by omega, rfl, rfl, HS12.out⟩
          case round =>
            obtain ⟨k, hk, rfl, he, hs⟩ := hrel
            have HS := Lib.hid hs
            have HE := Lib.hid he
            clear he
            by_cases hlt : k < xs.length
            · obtain ⟨x, hx⟩ : ∃ x, xs[k]? = some x := ⟨_, List.getElem?_eq_getElem hlt⟩
              obtain ⟨y, hy⟩ : ∃ y, ys[k]? = some y := ⟨_, List.getElem?_eq_getElem (by have := HL.out; omega)⟩
              obtain ⟨b, off, rfl, hb, hc⟩ := (Sl.same HX.out hs).at1 hx
              obtain ⟨b2, off2, rfl, hb2, hc2⟩ := (Sl.same HY.out hs).at1 hy
              have hi0 : (0 : Int) ≤ k := by omega
              have hi1 : (k : Int) < xs.length := by omega
              have hi2 : (k : Int) < ys.length := by have := HL.out; omega
              have HQX := Lib.hid hx
              have HQY := Lib.hid hy
              clear hx hy hs
              by_cases hxy : x = y
              · subst hxy
                go_wp2
                refine wp_quiet (by kernel_rfl) (by kernel_rfl) ?_
                repeat (any_goals (first | go_big_quiet_step (fail) | quiet_step (fail)))
                refine wpQuiet_nil ?_
                rintro _ ⟨q, rfl⟩
                have HS2 := Lib.hid (HS.out.trans (more_same _ q) (fun _ _ h => h))
                go_wp2
                go_roundw
                case rel => exact ⟨k + 1, by omega, by go_num, by rw [take_snoc HQX.out, take_snoc HQY.out, HE.out], HS2.out⟩
                case measure => simp [intOf]; omega
              · have hne : (x != y) = true := by simpa using hxy
                have hor : (x < y ∧ va < vb) ∨ (¬ x < y ∧ vb < va) := by
                  rcases Int.lt_or_gt_of_ne hxy with h | h
                  · exact .inl ⟨h, HORD.out k x y HE.out HQX.out HQY.out h⟩
                  · exact .inr ⟨by omega, HORD2.out k x y HE.out HQX.out HQY.out h⟩
                clear hxy
                rcases hor with ⟨h1, h2⟩ | ⟨h1, h2⟩
                · have hab1 : (va : Int) < vb := by omega
                  have habn1 : va < vb := by omega
                  have hne2 : ((va : Int) != (vb : Int)) = true := by simp; omega
                  go_upto_region 20 with fail
                  refine wp_quiet (by kernel_rfl) (by kernel_rfl) ?_
                  repeat (any_goals (first | go_big_quiet_step (fail) | quiet_step (fail)))
                  refine wpQuiet_nil ?_
                  rintro wz ⟨q, hq⟩
                  have hsq : Same wr wz := by rw [hq]; exact more_same _ q
                  have HS2 := Lib.hid (HS.out.trans hsq (fun _ _ h => h))
                  have hcz := (hsq.cell (p := ⟨b, off + k, none⟩) hb id).trans hc
                  have hcz2 := (hsq.cell (p := ⟨b2, off2 + k, none⟩) hb2 id).trans hc2
                  have hbz : b < wz.heap.size := by have := hsq.size; omega
                  have hbz2 : b2 < wz.heap.size := by have := hsq.size; omega
                  clear hq hsq hc hc2 hb hb2
                  go_upto_region 21 with fail
                  refine wp_quiet (by kernel_rfl) (by kernel_rfl) ?_
                  repeat (any_goals (first | go_big_quiet_step (fail) | quiet_step (fail)))
                  refine wpQuiet_nil ?_
                  rintro _ ⟨q2, rfl⟩
                  have HS3 := Lib.hid (HS2.out.trans (more_same _ q2) (fun _ _ h => h))
                  go_wp2
                  go_ret
                  exact ⟨ret_bool (by simp), HS3.out.to_below (Nat.le_refl _) (fun _ _ => id)⟩
                · have hab2 : ¬ (va : Int) < vb := by omega
                  have habn2 : ¬ va < vb := by omega
                  have hne2 : ((va : Int) != (vb : Int)) = true := by simp; omega
                  go_upto_region 20 with fail
                  refine wp_quiet (by kernel_rfl) (by kernel_rfl) ?_
                  repeat (any_goals (first | go_big_quiet_step (fail) | quiet_step (fail)))
                  refine wpQuiet_nil ?_
                  rintro wz ⟨q, hq⟩
                  have hsq : Same wr wz := by rw [hq]; exact more_same _ q
                  have HS2 := Lib.hid (HS.out.trans hsq (fun _ _ h => h))
                  have hcz := (hsq.cell (p := ⟨b, off + k, none⟩) hb id).trans hc
                  have hcz2 := (hsq.cell (p := ⟨b2, off2 + k, none⟩) hb2 id).trans hc2
                  have hbz : b < wz.heap.size := by have := hsq.size; omega
                  have hbz2 : b2 < wz.heap.size := by have := hsq.size; omega
                  clear hq hsq hc hc2 hb hb2
                  go_upto_region 21 with fail
                  refine wp_quiet (by kernel_rfl) (by kernel_rfl) ?_
                  repeat (any_goals (first | go_big_quiet_step (fail) | quiet_step (fail)))
                  refine wpQuiet_nil ?_
                  rintro _ ⟨q2, rfl⟩
                  have HS3 := Lib.hid (HS2.out.trans (more_same _ q2) (fun _ _ h => h))
                  go_wp2
                  go_ret
                  exact ⟨ret_bool (by simp [h1]), HS3.out.to_below (Nat.le_refl _) (fun _ _ => id)⟩
            · obtain rfl : k = xs.length := by omega
              have hfin : xs = ys := by
                have h1 := HE.out
                rw [List.take_of_length_le (Nat.le_refl _), List.take_of_length_le (by have := HL.out; omega)] at h1
                exact h1
              have hvv : va = vb := by rw [← HV1.out, ← HV2.out, hfin]
              subst hvv
              clear hfin hs
              go_wp2
              go_ret
              exact ⟨ret_bool (by simp), HS.out.to_below (Nat.le_refl _) (fun _ _ => id)⟩
        · skip
          have hl' : ((xs.length : Int) != (ys.length : Int)) = true := by simp; omega
          clear hl hc1 hc2 hv1 hv2 hcg hul
          go_enter Try.func8, Try.ntmps8
          go_wp2_with (fail)
          refine (awake_any w).mono ?_
          rintro e w1 ⟨rfl, hs1⟩
          have HS2 := Lib.hid hs1
          clear hs1
          go_wp2_with (fail)
          have hc3 := rank_any A _ C xs _ (Sl.same HX.out HS2.out) hr hC
          rw [HE1.out, HV1.out] at hc3
          refine hc3.mono ?_
          clear hc3
          rintro e w3 ⟨rfl, hs3⟩
          have HS4 := Lib.hid ((HS2.out).trans hs3 (fun _ _ h => h))
          clear HS2 hs3
          go_wp2_with (fail)
          have hc5 := rank_any B _ D ys _ (Sl.same HY.out HS4.out) hr2 hD
          rw [HE2.out, HV2.out] at hc5
          refine hc5.mono ?_
          clear hc5
          rintro e w5 ⟨rfl, hs5⟩
          have HS6 := Lib.hid ((HS4.out).trans hs5 (fun _ _ h => h))
          clear HS4 hs5
          go_wp2_with (fail)
          have hc7 := unrank_any xs.length va w5 hva
          rw [HU1.out, HU2.out] at hc7
          refine hc7.mono ?_
          clear hc7
          rintro e w7 ⟨Au, Cu, rfl, hN7⟩
          have hs7 := hN7.2.2
          have HS8 := Lib.hid ((HS6.out).trans hs7 (fun _ _ h => h))
          have HL8_u := Lib.hid hN7.il
          clear HS6 hs7
          clear hN7
          go_wp2_with (fail)
          refine (same_any Au A _ _ Cu C xs xs _ HL8_u.out (Sl.same HX.out HS8.out) hr hr).mono ?_
          rintro e w9 ⟨rfl, hs9⟩
          have HL10_u := Lib.hid (Sl.same HL8_u.out hs9)
          have HS10 := Lib.hid ((HS8.out).trans hs9 (fun _ _ h => h))
          clear HL8_u HS8 hs9
          simp only [decide_true]
          clear HL10_u
          go_wp2_with (fail)
          have hc11 := unrank_any xs.length r w9 hrr
          rw [HG1.out, HG2.out] at hc11
          refine hc11.mono ?_
          clear hc11
          rintro e w11 ⟨Av, Cv, rfl, hN11⟩
          have hs11 := hN11.2.2
          have HS12 := Lib.hid ((HS10.out).trans hs11 (fun _ _ h => h))
          clear HS10 hs11
          clear hN11
          go_wp2
          go_ret
          exact ⟨ret_bool (by simp), HS12.out.to_below (Nat.le_refl _) (fun _ _ => id)⟩
      · skip
        have f0' : (c2 != 0) = true := by simpa using f0
        clear f0 hc1 hc2 hv1 hv2 hcg hul
        go_enter Try.func8, Try.ntmps8
        go_wp2_with (fail)
        refine (awake_any w).mono ?_
        rintro e w1 ⟨rfl, hs1⟩
        have HS2 := Lib.hid hs1
        clear hs1
        go_wp2_with (fail)
        have hc3 := rank_any A _ C xs _ (Sl.same HX.out HS2.out) hr hC
        rw [HE1.out, HV1.out] at hc3
        refine hc3.mono ?_
        clear hc3
        rintro e w3 ⟨rfl, hs3⟩
        have HS4 := Lib.hid ((HS2.out).trans hs3 (fun _ _ h => h))
        clear HS2 hs3
        go_wp2_with (fail)
        have hc5 := rank_any B _ D ys _ (Sl.same HY.out HS4.out) hr2 hD
        rw [HE2.out, HV2.out] at hc5
        refine hc5.mono ?_
        clear hc5
        rintro e w5 ⟨rfl, hs5⟩
        have HS6 := Lib.hid ((HS4.out).trans hs5 (fun _ _ h => h))
        clear HS4 hs5
        go_wp2_with (fail)
        have hc7 := unrank_any xs.length va w5 hva
        rw [HU1.out, HU2.out] at hc7
        refine hc7.mono ?_
        clear hc7
        rintro e w7 ⟨Au, Cu, rfl, hN7⟩
        have hs7 := hN7.2.2
        have HS8 := Lib.hid ((HS6.out).trans hs7 (fun _ _ h => h))
        have HL8_u := Lib.hid hN7.il
        clear HS6 hs7
        clear hN7
        go_wp2_with (fail)
        refine (same_any Au A _ _ Cu C xs xs _ HL8_u.out (Sl.same HX.out HS8.out) hr hr).mono ?_
        rintro e w9 ⟨rfl, hs9⟩
        have HL10_u := Lib.hid (Sl.same HL8_u.out hs9)
        have HS10 := Lib.hid ((HS8.out).trans hs9 (fun _ _ h => h))
        clear HL8_u HS8 hs9
        simp only [decide_true]
        clear HL10_u
        go_wp2_with (fail)
        have hc11 := unrank_any xs.length r w9 hrr
        rw [HG1.out, HG2.out] at hc11
        refine hc11.mono ?_
        clear hc11
        rintro e w11 ⟨Av, Cv, rfl, hN11⟩
        have hs11 := hN11.2.2
        have HS12 := Lib.hid ((HS10.out).trans hs11 (fun _ _ h => h))
        clear HS10 hs11
        clear hN11
        go_wp2
        go_ret
        exact ⟨ret_bool (by simp), HS12.out.to_below (Nat.le_refl _) (fun _ _ => id)⟩
  · skip
    have e0' : (c1 == 0) = false := by simpa using e0
    have e0n : (c1 != 0) = true := by simpa using e0
    clear e0
    by_cases g0 : cg = 0
    · skip
      have hra := rank_of_un (n := xs.length) (r := r) (by rw [hcg, g0])
      rw [hul] at hra
      have hrl : ul.length * 8 ≤ 140737488351232 := by have := hra.1; omega
      have hule : (ul.length : Int) = xs.length := by have := hra.1; omega
      have HG3 := Lib.hid hra.2.1
      have HG4 := Lib.hid hra.2.2
      clear hra
      subst g0
      clear hc1 hc2 hv1 hv2 hcg hul
      go_enter Try.func8, Try.ntmps8
      go_wp2_with (fail)
      refine (awake_any w).mono ?_
      rintro e w1 ⟨rfl, hs1⟩
      have HS2 := Lib.hid hs1
      clear hs1
      go_wp2_with (fail)
      have hc3 := rank_any A _ C xs _ (Sl.same HX.out HS2.out) hr hC
      rw [HE1.out, HV1.out] at hc3
      refine hc3.mono ?_
      clear hc3
      rintro e w3 ⟨rfl, hs3⟩
      have HS4 := Lib.hid ((HS2.out).trans hs3 (fun _ _ h => h))
      clear HS2 hs3
      go_wp2_with (fail)
      have hc5 := rank_any B _ D ys _ (Sl.same HY.out HS4.out) hr2 hD
      rw [HE2.out, HV2.out] at hc5
      refine hc5.mono ?_
      clear hc5
      rintro e w5 ⟨rfl, hs5⟩
      have HS6 := Lib.hid ((HS4.out).trans hs5 (fun _ _ h => h))
      clear HS4 hs5
      go_wp2_with (fail)
      have hc7 := unrank_any xs.length r w5 hrr
      rw [HG1.out, HG2.out] at hc7
      refine hc7.mono ?_
      clear hc7
      rintro e w7 ⟨Av, Cv, rfl, hN7⟩
      have hs7 := hN7.2.2
      have hcapv := Own.cap hN7.1
      have HS8 := Lib.hid ((HS6.out).trans hs7 (fun _ _ h => h))
      have HL8_v := Lib.hid hN7.il
      clear HS6 hs7
      clear hN7
      go_wp2_with (fail)
      have hc9 := rank_any Av _ Cv ul _ HL8_v.out hrl hcapv
      rw [HG3.out, HG4.out] at hc9
      refine hc9.mono ?_
      clear hc9
      rintro e w9 ⟨rfl, hs9⟩
      have HL10_v := Lib.hid (Sl.same HL8_v.out hs9)
      have HS10 := Lib.hid ((HS8.out).trans hs9 (fun _ _ h => h))
      clear HL8_v HS8 hs9
      clear HL10_v
      go_wp2
      go_ret
      exact ⟨ret_bool (by simp), HS10.out.to_below (Nat.le_refl _) (fun _ _ => id)⟩
    · skip
      have g0' : (cg == 0) = false := by simpa using g0
      clear g0
      clear hc1 hc2 hv1 hv2 hcg hul
      go_enter Try.func8, Try.ntmps8
      go_wp2_with (fail)
      refine (awake_any w).mono ?_
      rintro e w1 ⟨rfl, hs1⟩
      have HS2 := Lib.hid hs1
      clear hs1
      go_wp2_with (fail)
      have hc3 := rank_any A _ C xs _ (Sl.same HX.out HS2.out) hr hC
      rw [HE1.out, HV1.out] at hc3
      refine hc3.mono ?_
      clear hc3
      rintro e w3 ⟨rfl, hs3⟩
      have HS4 := Lib.hid ((HS2.out).trans hs3 (fun _ _ h => h))
      clear HS2 hs3
      go_wp2_with (fail)
      have hc5 := rank_any B _ D ys _ (Sl.same HY.out HS4.out) hr2 hD
      rw [HE2.out, HV2.out] at hc5
      refine hc5.mono ?_
      clear hc5
      rintro e w5 ⟨rfl, hs5⟩
      have HS6 := Lib.hid ((HS4.out).trans hs5 (fun _ _ h => h))
      clear HS4 hs5
      go_wp2_with (fail)
      have hc7 := unrank_any xs.length r w5 hrr
      rw [HG1.out, HG2.out] at hc7
      refine hc7.mono ?_
      clear hc7
      rintro e w7 ⟨Av, Cv, rfl, hN7⟩
      have hs7 := hN7.2.2
      have HS8 := Lib.hid ((HS6.out).trans hs7 (fun _ _ h => h))
      clear HS6 hs7
      clear hN7
      go_wp2
      go_ret
      exact ⟨ret_bool (by simp), HS8.out.to_below (Nat.le_refl _) (fun _ _ => id)⟩
end Go.Proofs.Ytibjpclmiaimaaa
