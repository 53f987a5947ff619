/- PermUndoes: its walk. -/
import Derived.Test.YtibjpclmiaimaaaPmTwos
import Derived.Test.YtibjpclmiaimaaaPermPure3
namespace Go.Proofs.Ytibjpclmiaimaaa
open Go.RowKit Go.Tk

theorem both_of {xs ys : List Int} (hp : IsPerm xs) (hq : IsPerm ys) (hl : xs.length = ys.length) (h64 : xs.length ≤ 64) : both xs ys = 0 := by
  have h1 := chk_ok.2 ⟨hp, h64⟩
  have h2 := chk_ok.2 ⟨hq, by omega⟩
  unfold both
  rw [h1, h2, if_neg (by simp [hl])]
  rfl
set_option maxHeartbeats 4000000 in
theorem undoes_walk (A B : Option Addr) (n m C D : Nat) (xs ys : List Int) (w : World) (h : IL w A n xs) (h2 : IL w B m ys) (hr : n * 8 ≤ 140737488351232) (hr2 : m * 8 ≤ 140737488351232) :
    Calls Try.prog 4 #[.slice A n C, .slice B m D] w fun e w' => e = .returned (.bool true) ∧ Below w.heap.size w w' := by
  obtain rfl := h.len
  obtain rfl := h2.len
  have HX := Lib.hid h
  have HY := Lib.hid h2
  clear h h2
  obtain ⟨c1, hc1⟩ : ∃ c, chk xs = c := ⟨_, rfl⟩
  obtain ⟨c2, hc2⟩ : ∃ c, chk ys = c := ⟨_, rfl⟩
  obtain ⟨c3, hc3⟩ : ∃ c, both xs ys = c := ⟨_, rfl⟩
  have HC1 := Lib.hid hc1
  have HC2 := Lib.hid hc2
  have HC3 := Lib.hid hc3
  by_cases z1 : ¬ c1 = 0
  · skip
    have z1' : (c1 != 0) = true := by simpa using z1
    have HI1 := Lib.hid (show inL xs = [] by unfold inL; rw [hc1, if_neg z1])
    obtain ⟨bl, hbl⟩ : ∃ l, inL ys = l := ⟨_, rfl⟩
    obtain ⟨cl, hcl⟩ : ∃ l, coL xs ys = l := ⟨_, rfl⟩
    have HI2 := Lib.hid hbl
    have HI3 := Lib.hid hcl
    clear hc1 hc2 hc3 hbl hcl z1
    go_enter Try.func4, Try.ntmps4
    go_wp2_with (fail)
    refine (awake_any w).mono ?_
    rintro e w1 ⟨rfl, hs1⟩
    have HS2 := Lib.hid hs1
    clear hs1
    go_wp2_with (fail)
    have hc3 := inverse_any A _ C xs _ (Sl.same HX.out HS2.out) hr
    rw [HI1.out, HC1.out] at hc3
    refine hc3.mono ?_
    clear hc3
    rintro e w3 ⟨Aa, Ca, rfl, hN3⟩
    have hs3 := hN3.2.2
    have HS4 := Lib.hid ((HS2.out).trans hs3 (fun _ _ h => h))
    have HL4_a := Lib.hid hN3.il
    clear HS2 hs3
    clear hN3
    go_wp2_with (fail)
    have hc5 := inverse_any B _ D ys _ (Sl.same HY.out HS4.out) hr2
    rw [HI2.out, HC2.out] at hc5
    refine hc5.mono ?_
    clear hc5
    rintro e w5 ⟨Ab, Cb, rfl, hN5⟩
    have hs5 := hN5.2.2
    have HL6_a := Lib.hid (Sl.same HL4_a.out hs5)
    have HS6 := Lib.hid ((HS4.out).trans hs5 (fun _ _ h => h))
    have HL6_b := Lib.hid hN5.il
    clear HL4_a HS4 hs5
    clear hN5
    go_wp2_with (fail)
    have hc7 := compose_any A B _ _ C D xs ys _ (Sl.same HX.out HS6.out) (Sl.same HY.out HS6.out) hr hr2
    rw [HI3.out, HC3.out] at hc7
    refine hc7.mono ?_
    clear hc7
    rintro e w7 ⟨Ac, Cc, rfl, hN7⟩
    have hs7 := hN7.2.2
    have HL8_a := Lib.hid (Sl.same HL6_a.out hs7)
    have HL8_b := Lib.hid (Sl.same HL6_b.out hs7)
    have HS8 := Lib.hid ((HS6.out).trans hs7 (fun _ _ h => h))
    have HL8_c := Lib.hid hN7.il
    clear HL6_a HL6_b HS6 hs7
    clear hN7
    go_wp2
    go_ret
    exact ⟨ret_bool (by simp), HS8.out.to_below (Nat.le_refl _) (fun _ _ => id)⟩
  replace z1 : c1 = 0 := by omega
  subst z1
  by_cases z2 : ¬ c2 = 0
  · skip
    have z2' : (c2 != 0) = true := by simpa using z2
    have HI2 := Lib.hid (show inL ys = [] by unfold inL; rw [hc2, if_neg z2])
    obtain ⟨bl, hbl⟩ : ∃ l, inL xs = l := ⟨_, rfl⟩
    obtain ⟨cl, hcl⟩ : ∃ l, coL xs ys = l := ⟨_, rfl⟩
    have HI1 := Lib.hid hbl
    have HI3 := Lib.hid hcl
    clear hc1 hc2 hc3 hbl hcl z2
    go_enter Try.func4, Try.ntmps4
    go_wp2_with (fail)
    refine (awake_any w).mono ?_
    rintro e w1 ⟨rfl, hs1⟩
    have HS2 := Lib.hid hs1
    clear hs1
    go_wp2_with (fail)
    have hc3 := inverse_any A _ C xs _ (Sl.same HX.out HS2.out) hr
    rw [HI1.out, HC1.out] at hc3
    refine hc3.mono ?_
    clear hc3
    rintro e w3 ⟨Aa, Ca, rfl, hN3⟩
    have hs3 := hN3.2.2
    have HS4 := Lib.hid ((HS2.out).trans hs3 (fun _ _ h => h))
    have HL4_a := Lib.hid hN3.il
    clear HS2 hs3
    clear hN3
    go_wp2_with (fail)
    have hc5 := inverse_any B _ D ys _ (Sl.same HY.out HS4.out) hr2
    rw [HI2.out, HC2.out] at hc5
    refine hc5.mono ?_
    clear hc5
    rintro e w5 ⟨Ab, Cb, rfl, hN5⟩
    have hs5 := hN5.2.2
    have HL6_a := Lib.hid (Sl.same HL4_a.out hs5)
    have HS6 := Lib.hid ((HS4.out).trans hs5 (fun _ _ h => h))
    have HL6_b := Lib.hid hN5.il
    clear HL4_a HS4 hs5
    clear hN5
    go_wp2_with (fail)
    have hc7 := compose_any A B _ _ C D xs ys _ (Sl.same HX.out HS6.out) (Sl.same HY.out HS6.out) hr hr2
    rw [HI3.out, HC3.out] at hc7
    refine hc7.mono ?_
    clear hc7
    rintro e w7 ⟨Ac, Cc, rfl, hN7⟩
    have hs7 := hN7.2.2
    have HL8_a := Lib.hid (Sl.same HL6_a.out hs7)
    have HL8_b := Lib.hid (Sl.same HL6_b.out hs7)
    have HS8 := Lib.hid ((HS6.out).trans hs7 (fun _ _ h => h))
    have HL8_c := Lib.hid hN7.il
    clear HL6_a HL6_b HS6 hs7
    clear hN7
    go_wp2
    go_ret
    exact ⟨ret_bool (by simp), HS8.out.to_below (Nat.le_refl _) (fun _ _ => id)⟩
  replace z2 : c2 = 0 := by omega
  subst z2
  by_cases z3 : ¬ c3 = 0
  · skip
    have z3' : (c3 != 0) = true := by simpa using z3
    have hne : xs.length ≠ ys.length := fun hl => z3 (by
      have e1 := (chk_ok.1 hc1)
      have e2 := (chk_ok.1 hc2)
      rw [← hc3]
      exact both_of e1.1 e2.1 hl e1.2)
    have hne' : ((xs.length : Int) != (ys.length : Int)) = true := by simp; omega
    obtain ⟨al, hal⟩ : ∃ l, inL xs = l := ⟨_, rfl⟩
    obtain ⟨bl, hbl⟩ : ∃ l, inL ys = l := ⟨_, rfl⟩
    obtain ⟨cl, hcl⟩ : ∃ l, coL xs ys = l := ⟨_, rfl⟩
    have HI1 := Lib.hid hal
    have HI2 := Lib.hid hbl
    have HI3 := Lib.hid hcl
    clear hc1 hc2 hc3 hal hbl hcl z3 hne
    go_enter Try.func4, Try.ntmps4
    go_wp2_with (fail)
    refine (awake_any w).mono ?_
    rintro e w1 ⟨rfl, hs1⟩
    have HS2 := Lib.hid hs1
    clear hs1
    go_wp2_with (fail)
    have hc3 := inverse_any A _ C xs _ (Sl.same HX.out HS2.out) hr
    rw [HI1.out, HC1.out] at hc3
    refine hc3.mono ?_
    clear hc3
    rintro e w3 ⟨Aa, Ca, rfl, hN3⟩
    have hs3 := hN3.2.2
    have HS4 := Lib.hid ((HS2.out).trans hs3 (fun _ _ h => h))
    have HL4_a := Lib.hid hN3.il
    clear HS2 hs3
    clear hN3
    go_wp2_with (fail)
    have hc5 := inverse_any B _ D ys _ (Sl.same HY.out HS4.out) hr2
    rw [HI2.out, HC2.out] at hc5
    refine hc5.mono ?_
    clear hc5
    rintro e w5 ⟨Ab, Cb, rfl, hN5⟩
    have hs5 := hN5.2.2
    have HL6_a := Lib.hid (Sl.same HL4_a.out hs5)
    have HS6 := Lib.hid ((HS4.out).trans hs5 (fun _ _ h => h))
    have HL6_b := Lib.hid hN5.il
    clear HL4_a HS4 hs5
    clear hN5
    go_wp2_with (fail)
    have hc7 := compose_any A B _ _ C D xs ys _ (Sl.same HX.out HS6.out) (Sl.same HY.out HS6.out) hr hr2
    rw [HI3.out, HC3.out] at hc7
    refine hc7.mono ?_
    clear hc7
    rintro e w7 ⟨Ac, Cc, rfl, hN7⟩
    have hs7 := hN7.2.2
    have HL8_a := Lib.hid (Sl.same HL6_a.out hs7)
    have HL8_b := Lib.hid (Sl.same HL6_b.out hs7)
    have HS8 := Lib.hid ((HS6.out).trans hs7 (fun _ _ h => h))
    have HL8_c := Lib.hid hN7.il
    clear HL6_a HL6_b HS6 hs7
    clear hN7
    go_wp2
    go_ret
    exact ⟨ret_bool (by simp), HS8.out.to_below (Nat.le_refl _) (fun _ _ => id)⟩
  · skip
    replace z3 : c3 = 0 := by omega
    subst z3
    obtain ⟨hp, hq, hl, h64⟩ := both_ok hc3
    have hpi := hp.inv
    have hqi := hq.inv
    have hpc := hp.comp hq hl
    have lpi := invL_len xs
    have lqi := invL_len ys
    have lpc := compL_length xs ys
    have HI1 := Lib.hid (show inL xs = invL xs by unfold inL; rw [hc1, if_pos rfl])
    have HI2 := Lib.hid (show inL ys = invL ys by unfold inL; rw [hc2, if_pos rfl])
    have HI3 := Lib.hid (show coL xs ys = compL xs ys by unfold coL; rw [hc3, if_pos rfl])
    have HI4 := Lib.hid (show idR xs.length = rng xs.length by unfold idR; rw [if_neg (by omega)]; rfl)
    have HC4 := Lib.hid (show idE xs.length = 0 by unfold idE; rw [if_neg (by omega)])
    have hc5 : both xs (invL xs) = 0 := both_of hp hpi lpi.symm h64
    have hc6 : both (invL xs) xs = 0 := both_of hpi hp lpi (by omega)
    have hc7 : chk (compL xs ys) = 0 := chk_ok.2 ⟨hpc, by omega⟩
    have hc8 : both (invL ys) (invL xs) = 0 := both_of hqi hpi (by omega) (by omega)
    have HC5 := Lib.hid hc5
    have HC6 := Lib.hid hc6
    have HC7 := Lib.hid hc7
    have HC8 := Lib.hid hc8
    have HI5 := Lib.hid (show coL xs (invL xs) = rng xs.length by unfold coL; rw [hc5, if_pos rfl]; exact comp_inv hp)
    have HI6 := Lib.hid (show coL (invL xs) xs = rng xs.length by unfold coL; rw [hc6, if_pos rfl]; exact inv_comp hp)
    have HI7 := Lib.hid (show inL (compL xs ys) = compL (invL ys) (invL xs) by unfold inL; rw [hc7, if_pos rfl]; exact inv_of_comp hp hq hl)
    have HI8 := Lib.hid (show coL (invL ys) (invL xs) = compL (invL ys) (invL xs) by unfold coL; rw [hc8, if_pos rfl])
    have hri : (invL xs).length * 8 ≤ 140737488351232 := by omega
    have hriy : (invL ys).length * 8 ≤ 140737488351232 := by omega
    have hrr : (rng xs.length).length * 8 ≤ 140737488351232 := by rw [rng_len]; omega
    have hrc : (compL xs ys).length * 8 ≤ 140737488351232 := by omega
    have hrh : (compL (invL ys) (invL xs)).length * 8 ≤ 140737488351232 := by rw [compL_length]; omega
    clear hc1 hc2 hc3 hp hq hl hpi hqi hpc lpi lqi lpc hc5 hc6 hc7 hc8
    go_enter Try.func4, Try.ntmps4
    go_wp2_with (fail)
    refine (awake_any w).mono ?_
    rintro e w1 ⟨rfl, hs1⟩
    have HS2 := Lib.hid hs1
    clear hs1
    go_wp2_with (fail)
    have hc3 := inverse_any A _ C xs _ (Sl.same HX.out HS2.out) hr
    rw [HI1.out, HC1.out] at hc3
    refine hc3.mono ?_
    clear hc3
    rintro e w3 ⟨Aa, Ca, rfl, hN3⟩
    have hs3 := hN3.2.2
    have HS4 := Lib.hid ((HS2.out).trans hs3 (fun _ _ h => h))
    have HL4_a := Lib.hid hN3.il
    clear HS2 hs3
    clear hN3
    go_wp2_with (fail)
    have hc5 := inverse_any B _ D ys _ (Sl.same HY.out HS4.out) hr2
    rw [HI2.out, HC2.out] at hc5
    refine hc5.mono ?_
    clear hc5
    rintro e w5 ⟨Ab, Cb, rfl, hN5⟩
    have hs5 := hN5.2.2
    have HL6_a := Lib.hid (Sl.same HL4_a.out hs5)
    have HS6 := Lib.hid ((HS4.out).trans hs5 (fun _ _ h => h))
    have HL6_b := Lib.hid hN5.il
    clear HL4_a HS4 hs5
    clear hN5
    go_wp2_with (fail)
    have hc7 := compose_any A B _ _ C D xs ys _ (Sl.same HX.out HS6.out) (Sl.same HY.out HS6.out) hr hr2
    rw [HI3.out, HC3.out] at hc7
    refine hc7.mono ?_
    clear hc7
    rintro e w7 ⟨Ac, Cc, rfl, hN7⟩
    have hs7 := hN7.2.2
    have HL8_a := Lib.hid (Sl.same HL6_a.out hs7)
    have HL8_b := Lib.hid (Sl.same HL6_b.out hs7)
    have HS8 := Lib.hid ((HS6.out).trans hs7 (fun _ _ h => h))
    have HL8_c := Lib.hid hN7.il
    clear HL6_a HL6_b HS6 hs7
    clear hN7
    go_wp2_with (fail)
    have hc9 := Identity_any xs.length w7
    rw [HI4.out, HC4.out] at hc9
    refine hc9.mono ?_
    clear hc9
    rintro e w9 ⟨Ad, Cd, rfl, hN9⟩
    have hs9 := hN9.2.2
    have HL10_a := Lib.hid (Sl.same HL8_a.out hs9)
    have HL10_b := Lib.hid (Sl.same HL8_b.out hs9)
    have HL10_c := Lib.hid (Sl.same HL8_c.out hs9)
    have HS10 := Lib.hid ((HS8.out).trans hs9 (fun _ _ h => h))
    have HL10_d := Lib.hid hN9.il
    clear HL8_a HL8_b HL8_c HS8 hs9
    clear hN9
    go_wp2_with (fail)
    have hc11 := compose_any A Aa _ _ C Ca xs (invL xs) _ (Sl.same HX.out HS10.out) HL10_a.out hr hri
    rw [HI5.out, HC5.out] at hc11
    refine hc11.mono ?_
    clear hc11
    rintro e w11 ⟨Ae, Ce, rfl, hN11⟩
    have hs11 := hN11.2.2
    have HL12_a := Lib.hid (Sl.same HL10_a.out hs11)
    have HL12_b := Lib.hid (Sl.same HL10_b.out hs11)
    have HL12_c := Lib.hid (Sl.same HL10_c.out hs11)
    have HL12_d := Lib.hid (Sl.same HL10_d.out hs11)
    have HS12 := Lib.hid ((HS10.out).trans hs11 (fun _ _ h => h))
    have HL12_e := Lib.hid hN11.il
    clear HL10_a HL10_b HL10_c HL10_d HS10 hs11
    clear hN11
    go_wp2_with (fail)
    have hc13 := compose_any Aa A _ _ Ca C (invL xs) xs _ HL12_a.out (Sl.same HX.out HS12.out) hri hr
    rw [HI6.out, HC6.out] at hc13
    refine hc13.mono ?_
    clear hc13
    rintro e w13 ⟨Af, Cf, rfl, hN13⟩
    have hs13 := hN13.2.2
    have HL14_a := Lib.hid (Sl.same HL12_a.out hs13)
    have HL14_b := Lib.hid (Sl.same HL12_b.out hs13)
    have HL14_c := Lib.hid (Sl.same HL12_c.out hs13)
    have HL14_d := Lib.hid (Sl.same HL12_d.out hs13)
    have HL14_e := Lib.hid (Sl.same HL12_e.out hs13)
    have HS14 := Lib.hid ((HS12.out).trans hs13 (fun _ _ h => h))
    have HL14_f := Lib.hid hN13.il
    clear HL12_a HL12_b HL12_c HL12_d HL12_e HS12 hs13
    clear hN13
    go_wp2_with (fail)
    have hc15 := same_any Ae Ad _ _ Ce Cd _ _ _ HL14_e.out HL14_d.out hrr hrr
    rw [decide_eq_true (rfl : rng xs.length = rng xs.length)] at hc15
    refine hc15.mono ?_
    clear hc15
    rintro e w15 ⟨rfl, hs15⟩
    have HL16_a := Lib.hid (Sl.same HL14_a.out hs15)
    have HL16_b := Lib.hid (Sl.same HL14_b.out hs15)
    have HL16_c := Lib.hid (Sl.same HL14_c.out hs15)
    have HL16_d := Lib.hid (Sl.same HL14_d.out hs15)
    have HL16_e := Lib.hid (Sl.same HL14_e.out hs15)
    have HL16_f := Lib.hid (Sl.same HL14_f.out hs15)
    have HS16 := Lib.hid ((HS14.out).trans hs15 (fun _ _ h => h))
    clear HL14_a HL14_b HL14_c HL14_d HL14_e HL14_f HS14 hs15
    clear HL16_e
    go_wp2_with (fail)
    have hc17 := same_any Af Ad _ _ Cf Cd _ _ _ HL16_f.out HL16_d.out hrr hrr
    rw [decide_eq_true (rfl : rng xs.length = rng xs.length)] at hc17
    refine hc17.mono ?_
    clear hc17
    rintro e w17 ⟨rfl, hs17⟩
    have HL18_a := Lib.hid (Sl.same HL16_a.out hs17)
    have HL18_b := Lib.hid (Sl.same HL16_b.out hs17)
    have HL18_c := Lib.hid (Sl.same HL16_c.out hs17)
    have HL18_d := Lib.hid (Sl.same HL16_d.out hs17)
    have HL18_f := Lib.hid (Sl.same HL16_f.out hs17)
    have HS18 := Lib.hid ((HS16.out).trans hs17 (fun _ _ h => h))
    clear HL16_a HL16_b HL16_c HL16_d HL16_f HS16 hs17
    clear HL18_f
    clear HL18_d
    go_wp2_with (fail)
    have hc19 := inverse_any Ac _ Cc (compL xs ys) _ HL18_c.out hrc
    rw [HI7.out, HC7.out] at hc19
    refine hc19.mono ?_
    clear hc19
    rintro e w19 ⟨Ag, Cg, rfl, hN19⟩
    have hs19 := hN19.2.2
    have HL20_a := Lib.hid (Sl.same HL18_a.out hs19)
    have HL20_b := Lib.hid (Sl.same HL18_b.out hs19)
    have HL20_c := Lib.hid (Sl.same HL18_c.out hs19)
    have HS20 := Lib.hid ((HS18.out).trans hs19 (fun _ _ h => h))
    have HL20_g := Lib.hid hN19.il
    clear HL18_a HL18_b HL18_c HS18 hs19
    clear hN19
    go_wp2_with (fail)
    have hc21 := compose_any Ab Aa _ _ Cb Ca (invL ys) (invL xs) _ HL20_b.out HL20_a.out hriy hri
    rw [HI8.out, HC8.out] at hc21
    refine hc21.mono ?_
    clear hc21
    rintro e w21 ⟨Ah, Ch, rfl, hN21⟩
    have hs21 := hN21.2.2
    have HL22_a := Lib.hid (Sl.same HL20_a.out hs21)
    have HL22_b := Lib.hid (Sl.same HL20_b.out hs21)
    have HL22_c := Lib.hid (Sl.same HL20_c.out hs21)
    have HL22_g := Lib.hid (Sl.same HL20_g.out hs21)
    have HS22 := Lib.hid ((HS20.out).trans hs21 (fun _ _ h => h))
    have HL22_h := Lib.hid hN21.il
    clear HL20_a HL20_b HL20_c HL20_g HS20 hs21
    clear hN21
    go_wp2_with (fail)
    have hc23 := same_any Ag Ah _ _ Cg Ch _ _ _ HL22_g.out HL22_h.out hrh hrh
    rw [decide_eq_true (rfl : compL (invL ys) (invL xs) = compL (invL ys) (invL xs))] at hc23
    refine hc23.mono ?_
    clear hc23
    rintro e w23 ⟨rfl, hs23⟩
    have HL24_a := Lib.hid (Sl.same HL22_a.out hs23)
    have HL24_b := Lib.hid (Sl.same HL22_b.out hs23)
    have HL24_c := Lib.hid (Sl.same HL22_c.out hs23)
    have HL24_g := Lib.hid (Sl.same HL22_g.out hs23)
    have HL24_h := Lib.hid (Sl.same HL22_h.out hs23)
    have HS24 := Lib.hid ((HS22.out).trans hs23 (fun _ _ h => h))
    clear HL22_a HL22_b HL22_c HL22_g HL22_h HS22 hs23
    go_wp2
    go_ret
    exact ⟨rfl, HS24.out.to_below (Nat.le_refl _) (fun _ _ => id)⟩
end Go.Proofs.Ytibjpclmiaimaaa
