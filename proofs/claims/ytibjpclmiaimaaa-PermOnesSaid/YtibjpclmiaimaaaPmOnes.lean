/- PermOnes: its walk. -/
import Derived.Test.YtibjpclmiaimaaaPmTwos
import Derived.Test.YtibjpclmiaimaaaPmFact
namespace Go.Proofs.Ytibjpclmiaimaaa
open Go.RowKit Go.Tk

theorem inL_le (p : List Int) : (inL p).length ≤ p.length := by
  unfold inL
  split
  · rw [invL_len]; exact Nat.le_refl _
  · simp
theorem swL_le (p : List Int) (l : Int) : (swL p l).length ≤ p.length := by
  unfold swL
  split
  · rw [swp_len]; exact Nat.le_refl _
  · simp
set_option maxHeartbeats 4000000 in
theorem ones_walk (A : Option Addr) (n C : Nat) (xs : List Int) (l : Int) (w : World) (h : IL w A n xs) (hr : n * 8 ≤ 140737488351232) (hC : n ≤ C) :
    Calls Try.prog 6 #[.slice A n C, .int .i64 l] w fun e w' => e = .returned (.bool true) ∧ Below w.heap.size w w' := by
  obtain rfl := h.len
  have HX := Lib.hid h
  have hia : (inL xs).length * 8 ≤ 140737488351232 := by have := inL_le xs; omega
  have hsw : (swL xs l).length * 8 ≤ 140737488351232 := by have := swL_le xs l; omega
  clear h
  go_enter Try.func6, Try.ntmps6
  go_wp2_with (fail)
  refine (awake_any w).mono ?_
  rintro e w1 ⟨rfl, hs1⟩
  have HS2 := Lib.hid hs1
  clear hs1
  go_wp2_with (fail)
  refine (inverse_any A _ C xs _ (Sl.same HX.out HS2.out) hr).mono ?_
  rintro e w3 ⟨Aa, Ca, rfl, hN3⟩
  have hs3 := hN3.2.2
  have HS4 := Lib.hid ((HS2.out).trans hs3 (fun _ _ h => h))
  have HL4_a := Lib.hid hN3.il
  clear HS2 hs3
  clear hN3
  go_wp2_with (fail)
  refine (docInverse_any A _ C xs _ (Sl.same HX.out HS4.out) hr).mono ?_
  rintro e w5 ⟨Ab, Cb, rfl, hN5⟩
  have hs5 := hN5.2.2
  have HL6_a := Lib.hid (Sl.same HL4_a.out hs5)
  have HS6 := Lib.hid ((HS4.out).trans hs5 (fun _ _ h => h))
  have HL6_b := Lib.hid hN5.il
  clear HL4_a HS4 hs5
  clear hN5
  go_wp2_with (fail)
  refine (inversions_any A _ C xs _ (Sl.same HX.out HS6.out) hr).mono ?_
  rintro e w7 ⟨rfl, hs7⟩
  have HL8_a := Lib.hid (Sl.same HL6_a.out hs7)
  have HL8_b := Lib.hid (Sl.same HL6_b.out hs7)
  have HS8 := Lib.hid ((HS6.out).trans hs7 (fun _ _ h => h))
  clear HL6_a HL6_b HS6 hs7
  go_wp2_with (fail)
  refine (docInversions_any A _ C xs _ (Sl.same HX.out HS8.out) hr).mono ?_
  rintro e w9 ⟨rfl, hs9⟩
  have HL10_a := Lib.hid (Sl.same HL8_a.out hs9)
  have HL10_b := Lib.hid (Sl.same HL8_b.out hs9)
  have HS10 := Lib.hid ((HS8.out).trans hs9 (fun _ _ h => h))
  clear HL8_a HL8_b HS8 hs9
  go_wp2_with (fail)
  refine (swapped_any A _ C xs l _ (Sl.same HX.out HS10.out) hr).mono ?_
  rintro e w11 ⟨Ac, Cc, rfl, hN11⟩
  have hs11 := hN11.2.2
  have HL12_a := Lib.hid (Sl.same HL10_a.out hs11)
  have HL12_b := Lib.hid (Sl.same HL10_b.out hs11)
  have HS12 := Lib.hid ((HS10.out).trans hs11 (fun _ _ h => h))
  have HL12_c := Lib.hid hN11.il
  clear HL10_a HL10_b HS10 hs11
  clear hN11
  go_wp2_with (fail)
  refine (docSwapped_any A _ C xs l _ (Sl.same HX.out HS12.out) hr).mono ?_
  rintro e w13 ⟨Ad, Cd, rfl, hN13⟩
  have hs13 := hN13.2.2
  have HL14_a := Lib.hid (Sl.same HL12_a.out hs13)
  have HL14_b := Lib.hid (Sl.same HL12_b.out hs13)
  have HL14_c := Lib.hid (Sl.same HL12_c.out hs13)
  have HS14 := Lib.hid ((HS12.out).trans hs13 (fun _ _ h => h))
  have HL14_d := Lib.hid hN13.il
  clear HL12_a HL12_b HL12_c HS12 hs13
  clear hN13
  go_wp2_with (fail)
  refine (rank_any A _ C xs _ (Sl.same HX.out HS14.out) hr hC).mono ?_
  rintro e w15 ⟨rfl, hs15⟩
  have HL16_a := Lib.hid (Sl.same HL14_a.out hs15)
  have HL16_b := Lib.hid (Sl.same HL14_b.out hs15)
  have HL16_c := Lib.hid (Sl.same HL14_c.out hs15)
  have HL16_d := Lib.hid (Sl.same HL14_d.out hs15)
  have HS16 := Lib.hid ((HS14.out).trans hs15 (fun _ _ h => h))
  clear HL14_a HL14_b HL14_c HL14_d HS14 hs15
  go_wp2_with (fail)
  refine (docRank_any A _ C xs _ (Sl.same HX.out HS16.out) hr).mono ?_
  rintro e w17 ⟨rfl, hs17⟩
  have HL18_a := Lib.hid (Sl.same HL16_a.out hs17)
  have HL18_b := Lib.hid (Sl.same HL16_b.out hs17)
  have HL18_c := Lib.hid (Sl.same HL16_c.out hs17)
  have HL18_d := Lib.hid (Sl.same HL16_d.out hs17)
  have HS18 := Lib.hid ((HS16.out).trans hs17 (fun _ _ h => h))
  clear HL16_a HL16_b HL16_c HL16_d HS16 hs17
  go_wp2_with (fail)
  refine (check_any A _ C xs _ (Sl.same HX.out HS18.out) hr).mono ?_
  rintro e w19 ⟨rfl, hs19⟩
  have HL20_a := Lib.hid (Sl.same HL18_a.out hs19)
  have HL20_b := Lib.hid (Sl.same HL18_b.out hs19)
  have HL20_c := Lib.hid (Sl.same HL18_c.out hs19)
  have HL20_d := Lib.hid (Sl.same HL18_d.out hs19)
  have HS20 := Lib.hid ((HS18.out).trans hs19 (fun _ _ h => h))
  clear HL18_a HL18_b HL18_c HL18_d HS18 hs19
  go_wp2_with (fail)
  refine (doccheck_any A _ C xs _ (Sl.same HX.out HS20.out) hr).mono ?_
  rintro e wq ⟨rfl, rfl⟩
  go_wp2_with (fail)
  refine (same_any Aa Ab _ _ Ca Cb _ _ _ HL20_a.out HL20_b.out hia hia).mono ?_
  rintro e w21 ⟨rfl, hs21⟩
  have HL22_a := Lib.hid (Sl.same HL20_a.out hs21)
  have HL22_b := Lib.hid (Sl.same HL20_b.out hs21)
  have HL22_c := Lib.hid (Sl.same HL20_c.out hs21)
  have HL22_d := Lib.hid (Sl.same HL20_d.out hs21)
  have HS22 := Lib.hid ((HS20.out).trans hs21 (fun _ _ h => h))
  clear HL20_a HL20_b HL20_c HL20_d HS20 hs21
  clear HL22_a
  clear HL22_b
  simp only [decide_true]
  go_wp2_with (fail)
  refine (same_any Ac Ad _ _ Cc Cd _ _ _ HL22_c.out HL22_d.out hsw hsw).mono ?_
  rintro e w23 ⟨rfl, hs23⟩
  have HL24_c := Lib.hid (Sl.same HL22_c.out hs23)
  have HL24_d := Lib.hid (Sl.same HL22_d.out hs23)
  have HS24 := Lib.hid ((HS22.out).trans hs23 (fun _ _ h => h))
  clear HL22_c HL22_d HS22 hs23
  clear HL24_c
  clear HL24_d
  simp only [decide_true]
  go_wp2
  go_ret
  exact ⟨ret_bool (by simp), HS24.out.to_below (Nat.le_refl _) (fun _ _ => id)⟩
end Go.Proofs.Ytibjpclmiaimaaa
