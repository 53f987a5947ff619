/- WholePerms: its walk. -/
import Derived.Test.YtbckhmpkgokbeaaTopOrd
namespace Go.Proofs.Ytbckhmpkgokbeaa
open Go.RowKit Go.Tk

theorem rkVlt (p : List Int) : rkV p < 18446744073709551616 := by
  by_cases h : rkE p = 0
  · rw [rkV_ok h]
    have h1 := rk_lt p
    have h2 := fact_le20 (rkE_ok.1 h).2
    omega
  · unfold rkV
    rw [if_neg h]
    omega
set_option maxRecDepth 100000 in
set_option maxHeartbeats 4000000 in
theorem wperms_walk (av : Nat) (A B : Option Addr) (n m C D : Nat) (us bs : List (Fin 256)) (w : World) (hav : av < 256) (h : U8 w A n us) (h2 : U8 w B m bs) :
    Calls Try.prog 4 #[.int .u8 av, .slice A n C, .slice B m D] w fun e w' => e = .returned (.bool true) ∧ Below w.heap.size w w' := by
  obtain rfl := h.len
  obtain rfl := h2.len
  have HX := Lib.hid h
  have HY := Lib.hid h2
  clear h h2
  obtain ⟨N, hN⟩ : ∃ N, 1 + av % 12 = N := ⟨_, rfl⟩
  have hN12 : N ≤ 12 := by omega
  have hN1 : 1 ≤ N := by omega
  obtain ⟨r12, hr12⟩ : ∃ r, av % 12 = r := ⟨_, rfl⟩
  have hq1 : IntKind.i64.wrap (av : Int) = av := IntWalk.i64_in _ (by omega)
  have hq2 : (av : Int).tmod 12 = (r12 : Int) := by rw [← hr12, Int.tmod_eq_emod_of_nonneg (by omega)]; simp
  have hq3 : ¬ (12 : Int) = 0 := by omega
  have hq4 : (1 : Int) + (r12 : Int) = (N : Int) := by omega
  have hq5 : IntKind.i64.wrap (1 + (r12 : Int)) = (N : Int) := by rw [IntWalk.i64_in _ (by omega)]; omega
  have hq6 : IntKind.i64.wrap (r12 : Int) = r12 := IntWalk.i64_in _ (by omega)
  clear hN hr12
  go_enter Try.func4, Try.ntmps4
  go_upto_region 1 with fail
  refine wp_read 5 ?_
  simp only [List.take_succ_cons, List.take_zero, List.drop_succ_cons, List.drop_zero]
  repeat (any_goals (first | go_big_quiet_step (fail) | quiet_step (fail)))
  refine wpQuiet_nil ?_
  clear hq1 hq2 hq3 hq5 hq6
  go_upto_region 2 with fail
  try simp only [hq4]
  clear hq4
  go_wp2_with (fail)
  refine (order_any N A _ C us w HX.out hN12).mono ?_
  rintro e w1 ⟨xs, hpp, hlp, Ap, Cp, rfl, hN1⟩
  rw [hlp]
  have hs1 := hN1.2.2
  have hcapp := Own.cap hN1.1
  have hip := hN1.il
  rw [hlp] at hcapp hip
  have HS2 := Lib.hid hs1
  have HL2_p := Lib.hid hip
  clear hs1
  have HPp := Lib.hid hpp
  have HLp := Lib.hid hlp
  clear hN1 hip hpp hlp
  go_wp2_with (fail)
  refine (order_any N B _ D bs w1 (Sl.same HY.out HS2.out) hN12).mono ?_
  rintro e w3 ⟨ys, hpq, hlq, Aq, Cq, rfl, hN3⟩
  rw [hlq]
  have hs3 := hN3.2.2
  have hcapq := Own.cap hN3.1
  have hiq := hN3.il
  rw [hlq] at hcapq hiq
  have HL4_p := Lib.hid (Sl.same HL2_p.out hs3)
  have HS4 := Lib.hid ((HS2.out).trans hs3 (fun _ _ h => h))
  have HL4_q := Lib.hid hiq
  clear HL2_p HS2 hs3
  have HPq := Lib.hid hpq
  have HLq := Lib.hid hlq
  clear hN3 hiq hpq hlq
  have hpx := HPp.out
  have hpy := HPq.out
  have hlx := HLp.out
  have hly := HLq.out
  have hl : xs.length = ys.length := by omega
  have hc := both_of hpx hpy hl (by omega)
  have hmin : (pathL xs ys).length ≤ 4096 := by
    have := paL_le xs ys
    unfold paL at this
    rwa [hc, if_pos rfl] at this
  have hpi := hpy.inv
  have lpi := invL_len ys
  have HIP := Lib.hid (show paL xs ys = pathL xs ys by unfold paL; rw [hc, if_pos rfl])
  have HCP := Lib.hid hc
  have HIN := Lib.hid (path_in hpx hpy hl ys.length (Nat.le_refl _))
  have HLE := Lib.hid (path_leads hpx hpy hl)
  have hck : chk ys = 0 := chk_ok.2 ⟨hpy, by omega⟩
  have hb2 : both (invL ys) xs = 0 := both_of hpi hpx (by omega) (by omega)
  have hcl : compL (invL ys) xs = coL (invL ys) xs := by unfold coL; rw [hb2, if_pos rfl]
  have hpc : chk (compL (invL ys) xs) = 0 := chk_ok.2 ⟨hpi.comp hpx (by omega), by rw [compL_length]; omega⟩
  have HC1 := Lib.hid hck
  have HI1 := Lib.hid (show inL ys = invL ys by unfold inL; rw [hck, if_pos rfl])
  have HC2 := Lib.hid hb2
  have HI2 := Lib.hid hcl.symm
  have HC3 := Lib.hid hpc
  have HI3 := Lib.hid (show incN (compL (invL ys) xs) = (pathL xs ys).length by unfold incN; rw [hpc, if_pos rfl]; exact path_count hpx hpy hl)
  have hb4 : both ys (invL ys) = 0 := both_of hpy hpi (by omega) (by omega)
  have HC4 := Lib.hid hb4
  have HI4 := Lib.hid (show coL ys (invL ys) = rng N by unfold coL; rw [hb4, if_pos rfl, comp_inv hpy, hly])
  have HI5 := Lib.hid (show idR N = rng N by unfold idR; rw [if_neg (by omega)]; rfl)
  have HC5 := Lib.hid (show idE N = 0 by unfold idE; rw [if_neg (by omega)])
  have hex : rkE xs = 0 := rkE_ok.2 ⟨hpx, by omega⟩
  have hey : rkE ys = 0 := rkE_ok.2 ⟨hpy, by omega⟩
  have HE1 := Lib.hid hex
  have HE2 := Lib.hid hey
  have hun := un_of_rank hex
  have hvx := rkV_ok hex
  have hvy := rkV_ok hey
  have hpq : xs.Perm ys := perm_perm hex hey hl
  have hlx2 := lexLt_rk hpq
  rw [← hvx, ← hvy] at hlx2
  obtain ⟨va, hv1⟩ : ∃ c, rkV xs = c := ⟨_, rfl⟩
  obtain ⟨vb, hv2⟩ : ∃ c, rkV ys = c := ⟨_, rfl⟩
  have hva : va < 18446744073709551616 := by rw [← hv1]; exact rkVlt xs
  rw [hv1, hlx] at hun
  rw [hv1, hv2] at hlx2
  have HV1 := Lib.hid hv1
  have HV2 := Lib.hid hv2
  have HU1 := Lib.hid hun.2
  have HU2 := Lib.hid hun.1
  have HLX := Lib.hid hlx2
  have HLI := Lib.hid (show (invL ys).length = N by omega)
  have HLC := Lib.hid (show (compL (invL ys) xs).length = N by rw [compL_length]; omega)
  have HLR := Lib.hid (rng_len N)
  clear hpx hpy hlx hly hl hc hpi lpi hck hb2 hcl hpc hb4 hex hey hun hvx hvy hpq hlx2 hv1 hv2
  go_wp2_with (fail)
  refine call_world fun w5 hw5 => ?_
  have hl5_0 : IL w5 (some ⟨w3.heap.size, 0, none⟩) 2 [1, 0] := lit_il [1, 0] (by decide) rfl hw5
  have hs5 : Same w3 w5 := by rw [hw5]; exact ((Frm.refl _ _).alloc _)
  clear hw5
  have HL6_p := Lib.hid (Sl.same HL4_p.out hs5)
  have HL6_q := Lib.hid (Sl.same HL4_q.out hs5)
  have HS6 := Lib.hid ((HS4.out).trans hs5 (fun _ _ h => h))
  have HL6_l0 := Lib.hid hl5_0
  clear HL4_p HL4_q HS4 hs5
  clear hl5_0
  have hc7 := inversions_any _ 2 2 [1, 0] _ HL6_l0.out (by decide)
  rw [show incN [1, 0] = 1 by decide, show chk [1, 0] = 0 by decide] at hc7
  refine hc7.mono ?_
  clear hc7
  rintro e w7 ⟨rfl, hs7⟩
  have HL8_p := Lib.hid (Sl.same HL6_p.out hs7)
  have HL8_q := Lib.hid (Sl.same HL6_q.out hs7)
  have HL8_l0 := Lib.hid (Sl.same HL6_l0.out hs7)
  have HS8 := Lib.hid ((HS6.out).trans hs7 (fun _ _ h => h))
  clear HL6_p HL6_q HL6_l0 HS6 hs7
  clear HL8_l0
  go_wp2_with (fail)
  have hc9 := path_any Ap Aq N N Cp Cq xs ys w7 HL8_p.out HL8_q.out (by omega) (by omega)
  rw [HIP.out, HCP.out] at hc9
  refine hc9.mono ?_
  clear hc9
  rintro e w9 ⟨Ac, Cc, rfl, hN9⟩
  have hs9 := hN9.2.2
  have HL10_p := Lib.hid (Sl.same HL8_p.out hs9)
  have HL10_q := Lib.hid (Sl.same HL8_q.out hs9)
  have HS10 := Lib.hid ((HS8.out).trans hs9 (fun _ _ h => h))
  have HL10_c := Lib.hid hN9.il
  clear HL8_p HL8_q HS8 hs9
  clear hN9
  go_wp2_with (fail)
  refine (ttwin_any Ap N Cp xs w9 HL10_p.out (by omega)).mono ?_
  rintro e w11 ⟨At, Ct, rfl, hN11⟩
  rw [HLp.out]
  have hs11 := hN11.2.2
  have hit := hN11.il
  rw [HLp.out] at hit
  have HL12_p := Lib.hid (Sl.same HL10_p.out hs11)
  have HL12_q := Lib.hid (Sl.same HL10_q.out hs11)
  have HL12_c := Lib.hid (Sl.same HL10_c.out hs11)
  have HS12 := Lib.hid ((HS10.out).trans hs11 (fun _ _ h => h))
  have HL12_t := Lib.hid hit
  clear HL10_p HL10_q HL10_c HS10 hs11
  clear hN11 hit
  go_wp2
  go_loopw [14, 15] (fun s i wr => ∃ (k : Nat) (A2 : Option Addr) (C2 : Nat), k ≤ (pathL xs ys).length ∧ i = .int .i64 k ∧ s = .slice A2 N C2 ∧ IL wr A2 N (swps xs ((pathL xs ys).take k)) ∧ Same w11 wr) (fun _ i _ => (pathL xs ys).length - (intOf i).toNat)
  case atStart => exact ⟨0, At, Ct, by omega, rfl, rfl, HL12_t.out, Frm.refl _ _⟩
  case round =>
    obtain ⟨k, A2, C2, hk, rfl, rfl, hil, hs⟩ := hrel
    have HIL := Lib.hid hil
    have HSL := Lib.hid hs
    by_cases hlt : k < (pathL xs ys).length
    · obtain ⟨l, hl⟩ : ∃ l, (pathL xs ys)[k]? = some l := ⟨_, List.getElem?_eq_getElem hlt⟩
      obtain ⟨b, off, hAp, hb, hcl⟩ := (Sl.same HL12_c.out hs).at1 hl
      have hlin := HIN.out l (List.mem_of_getElem? hl)
      have hxl := HLp.out
      have hperm := swps_perm ((pathL xs ys).take k) xs HPp.out (fun m hm => HIN.out m (List.mem_of_mem_take hm))
      have hck : chk (swps xs ((pathL xs ys).take k)) = 0 := chk_ok.2 ⟨hperm.1, by omega⟩
      have hse : swE (swps xs ((pathL xs ys).take k)) l = 0 := by unfold swE; rw [if_neg (by omega), hck]
      have hsl : swL (swps xs ((pathL xs ys).take k)) l = swps xs ((pathL xs ys).take (k + 1)) := by
        unfold swL
        rw [hse, if_pos rfl, take_snoc hl, swps_snoc]
      have hlen : (swps xs ((pathL xs ys).take (k + 1))).length = N := (swps_perm ((pathL xs ys).take (k + 1)) xs HPp.out (fun m hm => HIN.out m (List.mem_of_mem_take hm))).2.trans hxl
      have hi0 : (0 : Int) ≤ k := by omega
      have hi1 : (k : Int) < (pathL xs ys).length := by omega
      have HSE := Lib.hid hse
      have HSW := Lib.hid hsl
      have HLEN := Lib.hid hlen
      subst hAp
      clear hil hs hl hlin hperm hck hse hsl hlen hxl
      go_wp2_with (fail)
      have hc := swapped_any A2 _ C2 _ l _ HIL.out (by omega)
      rw [HSE.out, HSW.out] at hc
      refine hc.mono ?_
      rintro e wz ⟨A3, C3, rfl, hN⟩
      clear hc
      have hil3 := hN.il
      rw [HLEN.out] at hil3 ⊢
      have HIL3 := Lib.hid hil3
      have HS3 := Lib.hid (HSL.out.trans hN.2.2 (fun _ _ h => h))
      clear hN hil3 hcl
      go_wp2
      go_roundw
      case rel => exact ⟨k + 1, A3, C3, by omega, by go_num, rfl, HIL3.out, HS3.out⟩
      case measure => simp [intOf]; omega
    · obtain rfl : k = (pathL xs ys).length := by omega
      have hil2 := HIL.out
      rw [List.take_length, HLE.out] at hil2
      have HAT := Lib.hid hil2
      have HPW := Lib.hid (Sl.same HL12_p.out hs)
      have HQW := Lib.hid (Sl.same HL12_q.out hs)
      have HSW := Lib.hid (HS12.out.trans hs (fun _ _ h => h))
      clear hil hs hil2 HIL HSL
      go_wp2_with (fail)
      have hc41 := inverse_any Aq N Cq ys wr HQW.out (by omega)
      rw [HI1.out, HC1.out] at hc41
      refine hc41.mono ?_
      clear hc41
      rintro e w41 ⟨Ai, Ci, rfl, hN41⟩
      rw [HLI.out]
      have hs41 := hN41.2.2
      have hii := hN41.il
      rw [HLI.out] at hii
      have HL42_at := Lib.hid (Sl.same HAT.out hs41)
      have HL42_p := Lib.hid (Sl.same HPW.out hs41)
      have HL42_q := Lib.hid (Sl.same HQW.out hs41)
      have HS42 := Lib.hid ((HSW.out).trans hs41 (fun _ _ h => h))
      have HL42_i := Lib.hid hii
      clear HAT HPW HQW HSW hs41
      clear hN41 hii
      go_wp2_with (fail)
      have hc43 := compose_any Ai Ap N N Ci Cp (invL ys) xs w41 HL42_i.out HL42_p.out (by omega) (by omega)
      rw [HI2.out, HC2.out] at hc43
      refine hc43.mono ?_
      clear hc43
      rintro e w43 ⟨Ac2, Cc2, rfl, hN43⟩
      rw [HLC.out]
      have hs43 := hN43.2.2
      have hic2 := hN43.il
      rw [HLC.out] at hic2
      have HL44_at := Lib.hid (Sl.same HL42_at.out hs43)
      have HL44_p := Lib.hid (Sl.same HL42_p.out hs43)
      have HL44_q := Lib.hid (Sl.same HL42_q.out hs43)
      have HL44_i := Lib.hid (Sl.same HL42_i.out hs43)
      have HS44 := Lib.hid ((HS42.out).trans hs43 (fun _ _ h => h))
      have HL44_c2 := Lib.hid hic2
      clear HL42_at HL42_p HL42_q HL42_i HS42 hs43
      clear hN43 hic2
      go_wp2_with (fail)
      have hc45 := inversions_any Ac2 N Cc2 (compL (invL ys) xs) w43 HL44_c2.out (by omega)
      rw [HI3.out, HC3.out] at hc45
      refine hc45.mono ?_
      clear hc45
      rintro e w45 ⟨rfl, hs45⟩
      have HL46_at := Lib.hid (Sl.same HL44_at.out hs45)
      have HL46_p := Lib.hid (Sl.same HL44_p.out hs45)
      have HL46_q := Lib.hid (Sl.same HL44_q.out hs45)
      have HL46_i := Lib.hid (Sl.same HL44_i.out hs45)
      have HL46_c2 := Lib.hid (Sl.same HL44_c2.out hs45)
      have HS46 := Lib.hid ((HS44.out).trans hs45 (fun _ _ h => h))
      clear HL44_at HL44_p HL44_q HL44_i HL44_c2 HS44 hs45
      clear HL46_c2
      go_wp2_with (fail)
      have hc47 := sameList_any A2 Aq N N C2 Cq ys ys w45 HL46_at.out HL46_q.out (by omega) (by omega)
      rw [decide_eq_true (rfl : ys = ys)] at hc47
      refine hc47.mono ?_
      clear hc47
      rintro e w47 ⟨rfl, hs47⟩
      have HL48_at := Lib.hid (Sl.same HL46_at.out hs47)
      have HL48_p := Lib.hid (Sl.same HL46_p.out hs47)
      have HL48_q := Lib.hid (Sl.same HL46_q.out hs47)
      have HL48_i := Lib.hid (Sl.same HL46_i.out hs47)
      have HS48 := Lib.hid ((HS46.out).trans hs47 (fun _ _ h => h))
      clear HL46_at HL46_p HL46_q HL46_i HS46 hs47
      clear HL48_at
      go_wp2_with (fail)
      have hc49 := compose_any Aq Ai N N Cq Ci ys (invL ys) w47 HL48_q.out HL48_i.out (by omega) (by omega)
      rw [HI4.out, HC4.out] at hc49
      refine hc49.mono ?_
      clear hc49
      rintro e w49 ⟨As, Cs, rfl, hN49⟩
      rw [HLR.out]
      have hs49 := hN49.2.2
      have his := hN49.il
      rw [HLR.out] at his
      have HL50_p := Lib.hid (Sl.same HL48_p.out hs49)
      have HL50_q := Lib.hid (Sl.same HL48_q.out hs49)
      have HL50_i := Lib.hid (Sl.same HL48_i.out hs49)
      have HS50 := Lib.hid ((HS48.out).trans hs49 (fun _ _ h => h))
      have HL50_s := Lib.hid his
      clear HL48_p HL48_q HL48_i HS48 hs49
      clear hN49 his
      clear HL50_i
      go_wp2_with (fail)
      have hc51 := Identity_any N w49
      rw [HI5.out, HC5.out] at hc51
      refine hc51.mono ?_
      clear hc51
      rintro e w51 ⟨Ad, Cd, rfl, hN51⟩
      rw [HLR.out]
      have hs51 := hN51.2.2
      have hid := hN51.il
      rw [HLR.out] at hid
      have HL52_p := Lib.hid (Sl.same HL50_p.out hs51)
      have HL52_q := Lib.hid (Sl.same HL50_q.out hs51)
      have HL52_s := Lib.hid (Sl.same HL50_s.out hs51)
      have HS52 := Lib.hid ((HS50.out).trans hs51 (fun _ _ h => h))
      have HL52_d := Lib.hid hid
      clear HL50_p HL50_q HL50_s HS50 hs51
      clear hN51 hid
      go_wp2_with (fail)
      have hc53 := rank_any Ap N Cp xs w51 HL52_p.out (by omega) hcapp
      rw [HE1.out, HV1.out] at hc53
      refine hc53.mono ?_
      clear hc53
      rintro e w53 ⟨rfl, hs53⟩
      have HL54_p := Lib.hid (Sl.same HL52_p.out hs53)
      have HL54_q := Lib.hid (Sl.same HL52_q.out hs53)
      have HL54_s := Lib.hid (Sl.same HL52_s.out hs53)
      have HL54_d := Lib.hid (Sl.same HL52_d.out hs53)
      have HS54 := Lib.hid ((HS52.out).trans hs53 (fun _ _ h => h))
      clear HL52_p HL52_q HL52_s HL52_d HS52 hs53
      go_wp2_with (fail)
      have hc55 := rank_any Aq N Cq ys w53 HL54_q.out (by omega) hcapq
      rw [HE2.out, HV2.out] at hc55
      refine hc55.mono ?_
      clear hc55
      rintro e w55 ⟨rfl, hs55⟩
      have HL56_p := Lib.hid (Sl.same HL54_p.out hs55)
      have HL56_q := Lib.hid (Sl.same HL54_q.out hs55)
      have HL56_s := Lib.hid (Sl.same HL54_s.out hs55)
      have HL56_d := Lib.hid (Sl.same HL54_d.out hs55)
      have HS56 := Lib.hid ((HS54.out).trans hs55 (fun _ _ h => h))
      clear HL54_p HL54_q HL54_s HL54_d HS54 hs55
      go_wp2_with (fail)
      have hc57 := unrank_any N va w55 hva
      rw [HU1.out, HU2.out] at hc57
      refine hc57.mono ?_
      clear hc57
      rintro e w57 ⟨Au, Cu, rfl, hN57⟩
      rw [HLp.out]
      have hs57 := hN57.2.2
      have hiu := hN57.il
      rw [HLp.out] at hiu
      have HL58_p := Lib.hid (Sl.same HL56_p.out hs57)
      have HL58_q := Lib.hid (Sl.same HL56_q.out hs57)
      have HL58_s := Lib.hid (Sl.same HL56_s.out hs57)
      have HL58_d := Lib.hid (Sl.same HL56_d.out hs57)
      have HS58 := Lib.hid ((HS56.out).trans hs57 (fun _ _ h => h))
      have HL58_u := Lib.hid hiu
      clear HL56_p HL56_q HL56_s HL56_d HS56 hs57
      clear hN57 hiu
      go_wp2_with (fail)
      have hc59 := sameList_any As Ad N N Cs Cd (rng N) (rng N) w57 HL58_s.out HL58_d.out (by omega) (by omega)
      rw [decide_eq_true (rfl : rng N = rng N)] at hc59
      refine hc59.mono ?_
      clear hc59
      rintro e w59 ⟨rfl, hs59⟩
      have HL60_p := Lib.hid (Sl.same HL58_p.out hs59)
      have HL60_q := Lib.hid (Sl.same HL58_q.out hs59)
      have HL60_s := Lib.hid (Sl.same HL58_s.out hs59)
      have HL60_d := Lib.hid (Sl.same HL58_d.out hs59)
      have HL60_u := Lib.hid (Sl.same HL58_u.out hs59)
      have HS60 := Lib.hid ((HS58.out).trans hs59 (fun _ _ h => h))
      clear HL58_p HL58_q HL58_s HL58_d HL58_u HS58 hs59
      clear HL60_s
      clear HL60_d
      go_wp2_with (fail)
      have hc61 := sameList_any Au Ap N N Cu Cp xs xs w59 HL60_u.out HL60_p.out (by omega) (by omega)
      rw [decide_eq_true (rfl : xs = xs)] at hc61
      refine hc61.mono ?_
      clear hc61
      rintro e w61 ⟨rfl, hs61⟩
      have HL62_p := Lib.hid (Sl.same HL60_p.out hs61)
      have HL62_q := Lib.hid (Sl.same HL60_q.out hs61)
      have HL62_u := Lib.hid (Sl.same HL60_u.out hs61)
      have HS62 := Lib.hid ((HS60.out).trans hs61 (fun _ _ h => h))
      clear HL60_p HL60_q HL60_u HS60 hs61
      clear HL62_u
      go_wp2_with (fail)
      have hc63 := ahead_any Ap Aq N Cp Cq xs ys w61 HL62_p.out HL62_q.out (by omega)
      rw [HLX.out] at hc63
      refine hc63.mono ?_
      clear hc63
      rintro e w63 ⟨rfl, hs63⟩
      have HL64_p := Lib.hid (Sl.same HL62_p.out hs63)
      have HL64_q := Lib.hid (Sl.same HL62_q.out hs63)
      have HS64 := Lib.hid ((HS62.out).trans hs63 (fun _ _ h => h))
      clear HL62_p HL62_q HS62 hs63
      go_wp2
      go_ret
      exact ⟨ret_bool (by simp), HS64.out.to_below (Nat.le_refl _) (fun _ _ => id)⟩
end Go.Proofs.Ytbckhmpkgokbeaa
