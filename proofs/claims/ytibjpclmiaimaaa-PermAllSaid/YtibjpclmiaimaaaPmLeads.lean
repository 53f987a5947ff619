/- PermLeads: its walk. -/
import Derived.Test.YtibjpclmiaimaaaPmUndoes
import Derived.Test.YtibjpclmiaimaaaPermPure4
namespace Go.Proofs.Ytibjpclmiaimaaa
open Go.RowKit Go.Tk

set_option maxHeartbeats 4000000 in
theorem leads_walk (A B : Option Addr) (n m C D : Nat) (xs ys : List Int) (w : World) (h : IL w A n xs) (h2 : IL w B m ys) (hr : n * 8 ≤ 140737488351232) (hr2 : m * 8 ≤ 140737488351232) :
    Calls Try.prog 7 #[.slice A n C, .slice B m D] w fun e w' => e = .returned (.bool true) ∧ Below w.heap.size w w' := by
  obtain rfl := h.len
  obtain rfl := h2.len
  have HX := Lib.hid h
  have HY := Lib.hid h2
  clear h h2
  obtain ⟨c, hc⟩ : ∃ c, both xs ys = c := ⟨_, rfl⟩
  have HC := Lib.hid hc
  by_cases z : ¬ c = 0
  · skip
    have z' : (c != 0) = true := by simpa using z
    have HI := Lib.hid (show paL xs ys = [] by unfold paL; rw [hc, if_neg z])
    clear hc z
    go_enter Try.func7, Try.ntmps7
    go_wp2_with (fail)
    refine (awake_any w).mono ?_
    rintro e w1 ⟨rfl, hs1⟩
    have HS2 := Lib.hid hs1
    clear hs1
    go_wp2_with (fail)
    have hc3 := path_any A B _ _ C D xs ys _ (Sl.same HX.out HS2.out) (Sl.same HY.out HS2.out) hr hr2
    rw [HI.out, HC.out] at hc3
    refine hc3.mono ?_
    clear hc3
    rintro e w3 ⟨Ap, Cp, rfl, hN3⟩
    have hs3 := hN3.2.2
    have HS4 := Lib.hid ((HS2.out).trans hs3 (fun _ _ h => h))
    have HL4_p := Lib.hid hN3.il
    clear HS2 hs3
    clear hN3
    go_wp2
    go_ret
    exact ⟨ret_bool (by simp), HS4.out.to_below (Nat.le_refl _) (fun _ _ => id)⟩
  · skip
    replace z : c = 0 := by omega
    subst z
    obtain ⟨hp, hq, hl, h64⟩ := both_ok hc
    have hpi := hq.inv
    have lpi := invL_len ys
    have hmin : (pathL xs ys).length ≤ 4096 := by
      have := paL_le xs ys
      unfold paL at this
      rwa [hc, if_pos rfl] at this
    have HI := Lib.hid (show paL xs ys = pathL xs ys by unfold paL; rw [hc, if_pos rfl])
    have HPX := Lib.hid hp
    have HIN := Lib.hid (path_in hp hq hl ys.length (Nat.le_refl _))
    have HLE := Lib.hid (path_leads hp hq hl)
    have HLL := Lib.hid hl
    have hck : chk ys = 0 := chk_ok.2 ⟨hq, by omega⟩
    have hb2 : both (invL ys) xs = 0 := both_of hpi hp (by omega) (by omega)
    have hcl : compL (invL ys) xs = coL (invL ys) xs := by unfold coL; rw [hb2, if_pos rfl]
    have hpc : chk (compL (invL ys) xs) = 0 := chk_ok.2 ⟨hpi.comp hp (by omega), by rw [compL_length]; omega⟩
    have HC1 := Lib.hid hck
    have HI1 := Lib.hid (show inL ys = invL ys by unfold inL; rw [hck, if_pos rfl])
    have HC2 := Lib.hid hb2
    have HI2 := Lib.hid hcl.symm
    have HC3 := Lib.hid hpc
    have HI3 := Lib.hid (show incN (compL (invL ys) xs) = (pathL xs ys).length by unfold incN; rw [hpc, if_pos rfl]; exact path_count hp hq hl)
    have hri : (invL ys).length * 8 ≤ 140737488351232 := by omega
    have hrc : (compL (invL ys) xs).length * 8 ≤ 140737488351232 := by rw [compL_length]; omega
    have hl1 : xs.length ≤ 64 := h64
    clear hc hp hq hl hpi lpi hck hb2 hcl hpc h64
    go_enter Try.func7, Try.ntmps7
    go_wp2_with (fail)
    refine (awake_any w).mono ?_
    rintro e w1 ⟨rfl, hs1⟩
    have HS2 := Lib.hid hs1
    clear hs1
    go_wp2_with (fail)
    have hc3 := path_any A B _ _ C D xs ys _ (Sl.same HX.out HS2.out) (Sl.same HY.out HS2.out) hr hr2
    rw [HI.out, HC.out] at hc3
    refine hc3.mono ?_
    clear hc3
    rintro e w3 ⟨Ap, Cp, rfl, hN3⟩
    have hs3 := hN3.2.2
    have HS4 := Lib.hid ((HS2.out).trans hs3 (fun _ _ h => h))
    have HL4_p := Lib.hid hN3.il
    clear HS2 hs3
    clear hN3
    go_wp2
    go_loopw [7, 34] (fun s i wr => ∃ (k : Nat) (A2 : Option Addr) (C2 : Nat), k ≤ (pathL xs ys).length ∧ i = .int .i64 k ∧ s = .slice A2 xs.length C2 ∧ IL wr A2 xs.length (swps xs ((pathL xs ys).take k)) ∧ Same w3 wr) (fun _ i _ => (pathL xs ys).length - (intOf i).toNat)
    case atStart => exact ⟨0, A, C, by omega, rfl, rfl, Sl.same HX.out HS4.out, Frm.refl _ _⟩
    case round =>
      obtain ⟨k, A2, C2, hk, rfl, rfl, hil, hs⟩ := hrel
      have HIL := Lib.hid hil
      have HSL := Lib.hid hs
      by_cases hlt : k < (pathL xs ys).length
      · obtain ⟨l, hl⟩ : ∃ l, (pathL xs ys)[k]? = some l := ⟨_, List.getElem?_eq_getElem hlt⟩
        obtain ⟨b, off, hAp, hb, hcl⟩ := (Sl.same HL4_p.out hs).at1 hl
        have hlin := HIN.out l (List.mem_of_getElem? hl)
        have hperm := swps_perm ((pathL xs ys).take k) xs HPX.out (fun m hm => HIN.out m (List.mem_of_mem_take hm))
        have hck : chk (swps xs ((pathL xs ys).take k)) = 0 := chk_ok.2 ⟨hperm.1, by omega⟩
        have hse : swE (swps xs ((pathL xs ys).take k)) l = 0 := by unfold swE; rw [if_neg (by omega), hck]
        have hsl : swL (swps xs ((pathL xs ys).take k)) l = swps xs ((pathL xs ys).take (k + 1)) := by
          unfold swL
          rw [hse, if_pos rfl, take_snoc hl, swps_snoc]
        have hlen : (swps xs ((pathL xs ys).take (k + 1))).length = xs.length := (swps_perm _ xs HPX.out (fun m hm => HIN.out m (List.mem_of_mem_take hm))).2
        have hi0 : (0 : Int) ≤ k := by omega
        have hi1 : (k : Int) < (pathL xs ys).length := by omega
        have HSE := Lib.hid hse
        have HSW := Lib.hid hsl
        have HLEN := Lib.hid hlen
        subst hAp
        clear hil hs hl hlin hperm hck hse hsl hlen
        go_wp2_with (fail)
        have hc := swapped_any A2 _ C2 _ l _ HIL.out hr
        rw [HSE.out, HSW.out] at hc
        refine hc.mono ?_
        rintro e wz ⟨A3, C3, rfl, hN⟩
        clear hc
        have hil3 := hN.il
        rw [HLEN.out] at hil3 ⊢
        have HIL3 := Lib.hid hil3
        have HS3 := Lib.hid (HSL.out.trans hN.2.2 (fun _ _ h => h))
        clear hN hil3 hcl
        go_wp2
        go_roundw
        case rel => exact ⟨k + 1, A3, C3, by omega, by go_num, rfl, HIL3.out, HS3.out⟩
        case measure => simp [intOf]; omega
      · obtain rfl : k = (pathL xs ys).length := by omega
        have hil2 := HIL.out
        rw [List.take_length, HLE.out] at hil2
        have HAT := Lib.hid hil2
        have HSW := Lib.hid (HS4.out.trans hs (fun _ _ h => h))
        clear hil hs hil2 HIL HSL
        go_wp2_with (fail)
        have hc21 := inverse_any B _ D ys _ (Sl.same HY.out HSW.out) hr2
        rw [HI1.out, HC1.out] at hc21
        refine hc21.mono ?_
        clear hc21
        rintro e w21 ⟨Ai, Ci, rfl, hN21⟩
        have hs21 := hN21.2.2
        have HL22_at := Lib.hid (Sl.same HAT.out hs21)
        have HS22 := Lib.hid ((HSW.out).trans hs21 (fun _ _ h => h))
        have HL22_i := Lib.hid hN21.il
        clear HAT HSW hs21
        clear hN21
        go_wp2_with (fail)
        have hc23 := compose_any Ai A _ _ Ci C (invL ys) xs _ HL22_i.out (Sl.same HX.out HS22.out) hri hr
        rw [HI2.out, HC2.out] at hc23
        refine hc23.mono ?_
        clear hc23
        rintro e w23 ⟨Ac, Cc, rfl, hN23⟩
        have hs23 := hN23.2.2
        have HL24_at := Lib.hid (Sl.same HL22_at.out hs23)
        have HL24_i := Lib.hid (Sl.same HL22_i.out hs23)
        have HS24 := Lib.hid ((HS22.out).trans hs23 (fun _ _ h => h))
        have HL24_c := Lib.hid hN23.il
        clear HL22_at HL22_i HS22 hs23
        clear hN23
        clear HL24_i
        go_wp2_with (fail)
        have hc25 := inversions_any Ac _ Cc _ _ HL24_c.out hrc
        rw [HI3.out, HC3.out] at hc25
        refine hc25.mono ?_
        clear hc25
        rintro e w25 ⟨rfl, hs25⟩
        have HL26_at := Lib.hid (Sl.same HL24_at.out hs25)
        have HL26_c := Lib.hid (Sl.same HL24_c.out hs25)
        have HS26 := Lib.hid ((HS24.out).trans hs25 (fun _ _ h => h))
        clear HL24_at HL24_c HS24 hs25
        clear HL26_c
        go_wp2_with (fail)
        refine (same_any A2 B _ _ C2 D ys ys _ HL26_at.out (Sl.same HY.out HS26.out) hr hr2).mono ?_
        rintro e w27 ⟨rfl, hs27⟩
        have HL28_at := Lib.hid (Sl.same HL26_at.out hs27)
        have HS28 := Lib.hid ((HS26.out).trans hs27 (fun _ _ h => h))
        clear HL26_at HS26 hs27
        simp only [decide_true]
        clear HL28_at
        go_wp2
        go_ret
        exact ⟨rfl, HS28.out.to_below (Nat.le_refl _) (fun _ _ => id)⟩
end Go.Proofs.Ytibjpclmiaimaaa
