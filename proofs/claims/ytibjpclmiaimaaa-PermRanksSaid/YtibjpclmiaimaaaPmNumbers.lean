/- PermNumbers: its walk. -/
import Derived.Test.YtibjpclmiaimaaaPmTwos
import Derived.Test.YtibjpclmiaimaaaPmDUnrank
namespace Go.Proofs.Ytibjpclmiaimaaa
open Go.RowKit Go.Tk

theorem idR_le (n : Int) : (idR n).length ≤ 64 := by
  unfold idR
  split
  · simp
  · rw [rng_len]; omega
theorem chL_le (n : Int) : (chL n).length ≤ 23 := by
  unfold chL
  split
  · decide
  · split
    · decide
    · split <;> decide
theorem unR_le (n : Int) (r : Nat) : (unR n r).length ≤ 20 := by
  unfold unR
  split
  · rename_i h
    unfold unL
    rw [(dcd_len dgs_ok n.toNat (Nat.le_refl _)).1]
    unfold unE at h
    split at h
    · cases h
    · omega
  · simp
set_option maxHeartbeats 4000000 in
theorem numbers_walk (n : Int) (r : Nat) (w : World) (hr : r < 18446744073709551616) :
    Calls Try.prog 9 #[.int .i64 n, .int .u64 r] w fun e w' => e = .returned (.bool true) ∧ Below w.heap.size w w' := by
  have hid : (idR n).length * 8 ≤ 140737488351232 := by have := idR_le n; omega
  have hch : (chL n).length * 8 ≤ 140737488351232 := by have := chL_le n; omega
  have hun : (unR n r).length * 8 ≤ 140737488351232 := by have := unR_le n r; omega
  go_enter Try.func9, Try.ntmps9
  go_wp2_with (fail)
  refine (awake_any w).mono ?_
  rintro e w1 ⟨rfl, hs1⟩
  have HS2 := Lib.hid hs1
  clear hs1
  go_wp2_with (fail)
  refine (Identity_any n w1).mono ?_
  rintro e w3 ⟨Aa, Ca, rfl, hN3⟩
  have hs3 := hN3.2.2
  have HS4 := Lib.hid ((HS2.out).trans hs3 (fun _ _ h => h))
  have HL4_a := Lib.hid hN3.il
  clear HS2 hs3
  clear hN3
  go_wp2_with (fail)
  refine (docIdentity_any n w3).mono ?_
  rintro e w5 ⟨Ab, Cb, rfl, hN5⟩
  have hs5 := hN5.2.2
  have HL6_a := Lib.hid (Sl.same HL4_a.out hs5)
  have HS6 := Lib.hid ((HS4.out).trans hs5 (fun _ _ h => h))
  have HL6_b := Lib.hid hN5.il
  clear HL4_a HS4 hs5
  clear hN5
  go_wp2_with (fail)
  refine (changes_any n w5).mono ?_
  rintro e w7 ⟨Ac, Cc, rfl, hN7⟩
  have hs7 := hN7.2.2
  have HL8_a := Lib.hid (Sl.same HL6_a.out hs7)
  have HL8_b := Lib.hid (Sl.same HL6_b.out hs7)
  have HS8 := Lib.hid ((HS6.out).trans hs7 (fun _ _ h => h))
  have HL8_c := Lib.hid hN7.il
  clear HL6_a HL6_b HS6 hs7
  clear hN7
  go_wp2_with (fail)
  refine (docChanges_any n w7).mono ?_
  rintro e w9 ⟨Ad, Cd, rfl, hN9⟩
  have hs9 := hN9.2.2
  have HL10_a := Lib.hid (Sl.same HL8_a.out hs9)
  have HL10_b := Lib.hid (Sl.same HL8_b.out hs9)
  have HL10_c := Lib.hid (Sl.same HL8_c.out hs9)
  have HS10 := Lib.hid ((HS8.out).trans hs9 (fun _ _ h => h))
  have HL10_d := Lib.hid hN9.il
  clear HL8_a HL8_b HL8_c HS8 hs9
  clear hN9
  go_wp2_with (fail)
  refine (unrank_any n r w9 hr).mono ?_
  rintro e w11 ⟨Au, Cu, rfl, hN11⟩
  have hs11 := hN11.2.2
  have HL12_a := Lib.hid (Sl.same HL10_a.out hs11)
  have HL12_b := Lib.hid (Sl.same HL10_b.out hs11)
  have HL12_c := Lib.hid (Sl.same HL10_c.out hs11)
  have HL12_d := Lib.hid (Sl.same HL10_d.out hs11)
  have HS12 := Lib.hid ((HS10.out).trans hs11 (fun _ _ h => h))
  have HL12_u := Lib.hid hN11.il
  clear HL10_a HL10_b HL10_c HL10_d HS10 hs11
  clear hN11
  go_wp2_with (fail)
  refine (docUnrank_any n r w11 hr).mono ?_
  rintro e w13 ⟨Av, Cv, rfl, hN13⟩
  have hs13 := hN13.2.2
  have HL14_a := Lib.hid (Sl.same HL12_a.out hs13)
  have HL14_b := Lib.hid (Sl.same HL12_b.out hs13)
  have HL14_c := Lib.hid (Sl.same HL12_c.out hs13)
  have HL14_d := Lib.hid (Sl.same HL12_d.out hs13)
  have HL14_u := Lib.hid (Sl.same HL12_u.out hs13)
  have HS14 := Lib.hid ((HS12.out).trans hs13 (fun _ _ h => h))
  have HL14_v := Lib.hid hN13.il
  clear HL12_a HL12_b HL12_c HL12_d HL12_u HS12 hs13
  clear hN13
  go_wp2_with (fail)
  refine (same_any Aa Ab _ _ Ca Cb _ _ _ HL14_a.out HL14_b.out hid hid).mono ?_
  rintro e w15 ⟨rfl, hs15⟩
  have HL16_a := Lib.hid (Sl.same HL14_a.out hs15)
  have HL16_b := Lib.hid (Sl.same HL14_b.out hs15)
  have HL16_c := Lib.hid (Sl.same HL14_c.out hs15)
  have HL16_d := Lib.hid (Sl.same HL14_d.out hs15)
  have HL16_u := Lib.hid (Sl.same HL14_u.out hs15)
  have HL16_v := Lib.hid (Sl.same HL14_v.out hs15)
  have HS16 := Lib.hid ((HS14.out).trans hs15 (fun _ _ h => h))
  clear HL14_a HL14_b HL14_c HL14_d HL14_u HL14_v HS14 hs15
  clear HL16_a
  clear HL16_b
  simp only [decide_true]
  go_wp2_with (fail)
  refine (same_any Ac Ad _ _ Cc Cd _ _ _ HL16_c.out HL16_d.out hch hch).mono ?_
  rintro e w17 ⟨rfl, hs17⟩
  have HL18_c := Lib.hid (Sl.same HL16_c.out hs17)
  have HL18_d := Lib.hid (Sl.same HL16_d.out hs17)
  have HL18_u := Lib.hid (Sl.same HL16_u.out hs17)
  have HL18_v := Lib.hid (Sl.same HL16_v.out hs17)
  have HS18 := Lib.hid ((HS16.out).trans hs17 (fun _ _ h => h))
  clear HL16_c HL16_d HL16_u HL16_v HS16 hs17
  clear HL18_c
  clear HL18_d
  simp only [decide_true]
  go_wp2_with (fail)
  refine (same_any Au Av _ _ Cu Cv _ _ _ HL18_u.out HL18_v.out hun hun).mono ?_
  rintro e w19 ⟨rfl, hs19⟩
  have HL20_u := Lib.hid (Sl.same HL18_u.out hs19)
  have HL20_v := Lib.hid (Sl.same HL18_v.out hs19)
  have HS20 := Lib.hid ((HS18.out).trans hs19 (fun _ _ h => h))
  clear HL18_u HL18_v HS18 hs19
  clear HL20_u
  clear HL20_v
  simp only [decide_true]
  go_wp2
  go_ret
  exact ⟨rfl, HS20.out.to_below (Nat.le_refl _) (fun _ _ => id)⟩
end Go.Proofs.Ytibjpclmiaimaaa
