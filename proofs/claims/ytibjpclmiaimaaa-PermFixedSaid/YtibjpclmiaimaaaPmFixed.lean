/- PermFixed: its walk. -/
import Derived.Test.YtibjpclmiaimaaaPmTwin
import Derived.Test.YtibjpclmiaimaaaPmDUnrank
namespace Go.Proofs.Ytibjpclmiaimaaa
open Go.RowKit Go.Tk

theorem nil_il (w : World) : IL w none 0 [] := ⟨rfl, fun i x h => by simp at h⟩
set_option maxHeartbeats 4000000 in
set_option maxRecDepth 100000 in
theorem fixed_walk (w : World) : Calls Try.prog 11 #[] w fun e w' => e = .returned (.bool true) ∧ Below w.heap.size w w' := by
  have hmk := fun w => run_make_n (P := Try.prog) Try.underlying22 info_int .i64 .i64 65 (by decide) (by decide) w
  simp only [show ((65 : Nat) : Int) = 65 from rfl] at hmk
  go_enter Try.func11, Try.ntmps11
  go_wp2_with (fail)
  refine (awake_any w).mono ?_
  rintro e w1 ⟨rfl, hs1⟩
  have HS2 := Lib.hid hs1
  clear hs1
  go_wp2_with (fail)
  have hc3 := Identity_any 64 w1
  rw [show idR 64 = rng 64 by decide, show idE 64 = 0 by decide] at hc3
  refine hc3.mono ?_
  clear hc3
  rintro e w3 ⟨Aa, Ca, rfl, hN3⟩
  have hs3 := hN3.2.2
  have hcapa := Own.cap hN3.1
  rw [rng_len] at hcapa
  have hia3 := hN3.il
  rw [rng_len] at hia3 ⊢
  have HS4 := Lib.hid ((HS2.out).trans hs3 (fun _ _ h => h))
  have HL4_a := Lib.hid hia3
  clear HS2 hs3
  clear hN3 hia3
  go_wp2_with (fail)
  have hc5 := check_any Aa 64 Ca (rng 64) _ HL4_a.out (by decide)
  rw [show chk (rng 64) = 0 by decide +kernel] at hc5
  refine hc5.mono ?_
  clear hc5
  rintro e w5 ⟨rfl, hs5⟩
  have HL6_a := Lib.hid (Sl.same HL4_a.out hs5)
  have HS6 := Lib.hid ((HS4.out).trans hs5 (fun _ _ h => h))
  clear HL4_a HS4 hs5
  go_wp2_with (fail)
  have hc7 := check_any none 0 0 [] w5 (nil_il _) (by decide)
  rw [show chk [] = 0 by decide] at hc7
  refine hc7.mono ?_
  clear hc7
  rintro e w7 ⟨rfl, hs7⟩
  have HL8_a := Lib.hid (Sl.same HL6_a.out hs7)
  have HS8 := Lib.hid ((HS6.out).trans hs7 (fun _ _ h => h))
  clear HL6_a HS6 hs7
  go_upto_region 6 with fail
  refine wp_read 1 ?_
  simp only [List.take_succ_cons, List.take_zero, List.drop_succ_cons, List.drop_zero]
  repeat (any_goals (first | go_big_quiet_step (fail) | quiet_step (fail)))
  refine wpQuiet_nil ?_
  refine wpList_plain rfl fun K hK => ?_
  go_simp
  refine (twin_any Aa 64 Ca (rng 64) _ HL8_a.out (by decide)).mono ?_
  rintro e w9 ⟨At, Ct, rfl, hN9⟩
  rw [rng_len]
  refine hK _ _ ?_
  clear hK K
  have hs9 := hN9.2.2
  have HT := Lib.hid hN9.1
  have HF := Lib.hid hN9.2.1
  clear hN9
  refine wpList_plain rfl fun K hK => ?_
  go_simp
  refine hK _ _ ?_
  clear hK K
  refine list_world fun wa hwa => ?_
  have hN := Blk.new w9 3 #[.int .i64 64]
  have hsa : Same w9 wa := by rw [hwa]; exact (Frm.refl _ _).alloc _
  rw [← hwa] at hN
  clear hwa
  have hTa := Own.frm HT.out hsa (fun _ _ => id)
  rw [rng_len] at hTa
  refine Own.append_list (f := icell) rfl (.tmp 39) (.tmp 40) _ rfl Try.underlying22 info_int rfl (by omega) rfl hTa (fun _ => rfl) (64 : Int) w9.heap.size 1 rfl hN (by simp [Value.oneCell', icell]) (by rw [rng_len]; simp [maxLen]) (by rw [rng_len]; omega) ?_
  intro gg cap wb hOb hgb hat
  have hsb : Same w7 wb := Same.app hs9 hsa hgb HF.out
  have hmo := Own.il hOb
  rw [show rng 64 ++ [64] = rng 65 by decide +kernel] at hmo
  clear hs9 hOb hgb hat hsa hN hTa HT HF
  have HL10_a := Lib.hid (Sl.same HL8_a.out hsb)
  have HS10 := Lib.hid ((HS8.out).trans hsb (fun _ _ h => h))
  have HL10_m := Lib.hid hmo
  clear HL8_a HS8 hsb
  clear hmo
  go_upto_region 8 with fail
  refine wp_world fun wm hwm => ?_
  have hsm : Same wb wm := by rw [hwm]; exact (Frm.refl _ _).alloc _
  have hOm := Own.ofMade (m := 1) wb 3 icell (fun _ => rfl) (by decide) 0 65 (by simp [maxLen]) rfl
  have hwm2 : wm = wb.alloc (.cells (madeCells (icell 0).toArray (65 * 1)) 3) := by rw [hwm]; rfl
  rw [← hwm2] at hOm
  have hwr := Own.il hOm
  clear hwm hwm2 hOm hmk
  have HL11_a := Lib.hid (Sl.same HL10_a.out hsm)
  have HL11_m := Lib.hid (Sl.same HL10_m.out hsm)
  have HS11 := Lib.hid ((HS10.out).trans hsm (fun _ _ h => h))
  have HL11_z := Lib.hid hwr
  clear HL10_a HL10_m HS10 hsm
  clear hwr
  go_wp2_with (fail)
  have hc12 := check_any _ 65 cap (rng 65) _ HL11_m.out (by decide)
  rw [show chk (rng 65) = 13 by decide +kernel] at hc12
  refine hc12.mono ?_
  clear hc12
  rintro e w12 ⟨rfl, hs12⟩
  have HL13_a := Lib.hid (Sl.same HL11_a.out hs12)
  have HL13_m := Lib.hid (Sl.same HL11_m.out hs12)
  have HL13_z := Lib.hid (Sl.same HL11_z.out hs12)
  have HS13 := Lib.hid ((HS11.out).trans hs12 (fun _ _ h => h))
  clear HL11_a HL11_m HL11_z HS11 hs12
  go_wp2_with (fail)
  have hc14 := check_any _ 65 65 (List.replicate 65 0) _ HL13_z.out (by decide)
  rw [show chk (List.replicate 65 0) = 4 by decide +kernel] at hc14
  refine hc14.mono ?_
  clear hc14
  rintro e w14 ⟨rfl, hs14⟩
  have HL15_a := Lib.hid (Sl.same HL13_a.out hs14)
  have HL15_m := Lib.hid (Sl.same HL13_m.out hs14)
  have HL15_z := Lib.hid (Sl.same HL13_z.out hs14)
  have HS15 := Lib.hid ((HS13.out).trans hs14 (fun _ _ h => h))
  clear HL13_a HL13_m HL13_z HS13 hs14
  go_wp2_with (fail)
  refine call_world fun w16 hw16 => ?_
  have hl16_0 : IL w16 (some ⟨w14.heap.size, 0, none⟩) 2 [0, 2] := lit_il [0, 2] (by decide) rfl hw16
  have hs16 : Same w14 w16 := by rw [hw16]; exact ((Frm.refl _ _).alloc _)
  clear hw16
  have HL17_a := Lib.hid (Sl.same HL15_a.out hs16)
  have HL17_m := Lib.hid (Sl.same HL15_m.out hs16)
  have HL17_z := Lib.hid (Sl.same HL15_z.out hs16)
  have HS17 := Lib.hid ((HS15.out).trans hs16 (fun _ _ h => h))
  have HL17_l0 := Lib.hid hl16_0
  clear HL15_a HL15_m HL15_z HS15 hs16
  clear hl16_0
  have hc18 := check_any _ 2 2 [0, 2] _ HL17_l0.out (by decide)
  rw [show chk [0, 2] = 4 by decide] at hc18
  refine hc18.mono ?_
  clear hc18
  rintro e w18 ⟨rfl, hs18⟩
  have HL19_a := Lib.hid (Sl.same HL17_a.out hs18)
  have HL19_m := Lib.hid (Sl.same HL17_m.out hs18)
  have HL19_z := Lib.hid (Sl.same HL17_z.out hs18)
  have HL19_l0 := Lib.hid (Sl.same HL17_l0.out hs18)
  have HS19 := Lib.hid ((HS17.out).trans hs18 (fun _ _ h => h))
  clear HL17_a HL17_m HL17_z HL17_l0 HS17 hs18
  clear HL19_l0
  go_wp2_with (fail)
  refine call_world fun w20 hw20 => ?_
  have hl20_0 : IL w20 (some ⟨w18.heap.size, 0, none⟩) 1 [-1] := lit_il [-1] (by decide) rfl hw20
  have hs20 : Same w18 w20 := by rw [hw20]; exact ((Frm.refl _ _).alloc _)
  clear hw20
  have HL21_a := Lib.hid (Sl.same HL19_a.out hs20)
  have HL21_m := Lib.hid (Sl.same HL19_m.out hs20)
  have HL21_z := Lib.hid (Sl.same HL19_z.out hs20)
  have HS21 := Lib.hid ((HS19.out).trans hs20 (fun _ _ h => h))
  have HL21_l0 := Lib.hid hl20_0
  clear HL19_a HL19_m HL19_z HS19 hs20
  clear hl20_0
  have hc22 := check_any _ 1 1 [-1] _ HL21_l0.out (by decide)
  rw [show chk [-1] = 4 by decide] at hc22
  refine hc22.mono ?_
  clear hc22
  rintro e w22 ⟨rfl, hs22⟩
  have HL23_a := Lib.hid (Sl.same HL21_a.out hs22)
  have HL23_m := Lib.hid (Sl.same HL21_m.out hs22)
  have HL23_z := Lib.hid (Sl.same HL21_z.out hs22)
  have HL23_l0 := Lib.hid (Sl.same HL21_l0.out hs22)
  have HS23 := Lib.hid ((HS21.out).trans hs22 (fun _ _ h => h))
  clear HL21_a HL21_m HL21_z HL21_l0 HS21 hs22
  clear HL23_l0
  go_wp2_with (fail)
  have hc24 := Identity_any 65 w22
  rw [show idE 65 = 1 by decide] at hc24
  refine hc24.mono ?_
  clear hc24
  rintro e w24 ⟨Ax, Cx, rfl, hN24⟩
  have hs24 := hN24.2.2
  have HL25_a := Lib.hid (Sl.same HL23_a.out hs24)
  have HL25_m := Lib.hid (Sl.same HL23_m.out hs24)
  have HL25_z := Lib.hid (Sl.same HL23_z.out hs24)
  have HS25 := Lib.hid ((HS23.out).trans hs24 (fun _ _ h => h))
  have HL25_x := Lib.hid hN24.il
  clear HL23_a HL23_m HL23_z HS23 hs24
  clear hN24
  clear HL25_x
  go_wp2_with (fail)
  have hc26 := Identity_any (-1) w24
  rw [show idE (-1) = 1 by decide] at hc26
  refine hc26.mono ?_
  clear hc26
  rintro e w26 ⟨Ax, Cx, rfl, hN26⟩
  have hs26 := hN26.2.2
  have HL27_a := Lib.hid (Sl.same HL25_a.out hs26)
  have HL27_m := Lib.hid (Sl.same HL25_m.out hs26)
  have HL27_z := Lib.hid (Sl.same HL25_z.out hs26)
  have HS27 := Lib.hid ((HS25.out).trans hs26 (fun _ _ h => h))
  have HL27_x := Lib.hid hN26.il
  clear HL25_a HL25_m HL25_z HS25 hs26
  clear hN26
  clear HL27_x
  go_wp2_with (fail)
  have hc28 := inverse_any _ 65 cap (rng 65) _ HL27_m.out (by decide)
  rw [show chk (rng 65) = 13 by decide +kernel] at hc28
  refine hc28.mono ?_
  clear hc28
  rintro e w28 ⟨Ax, Cx, rfl, hN28⟩
  have hs28 := hN28.2.2
  have HL29_a := Lib.hid (Sl.same HL27_a.out hs28)
  have HL29_m := Lib.hid (Sl.same HL27_m.out hs28)
  have HL29_z := Lib.hid (Sl.same HL27_z.out hs28)
  have HS29 := Lib.hid ((HS27.out).trans hs28 (fun _ _ h => h))
  have HL29_x := Lib.hid hN28.il
  clear HL27_a HL27_m HL27_z HS27 hs28
  clear hN28
  clear HL29_x
  clear HL29_m
  go_wp2_with (fail)
  refine call_world fun w30 hw30 => ?_
  have hl30_0 : IL w30 (some ⟨w28.heap.size, 0, none⟩) 2 [0, 1] := by
    rw [hw30]
    exact Sl.same (lit_il (w := w28) [0, 1] (by decide) rfl rfl) ((Frm.refl _ _).alloc _)
  have hl30_1 : IL w30 (some ⟨w28.heap.size + 1, 0, none⟩) 1 [0] := by
    have := lit_il (w := (w28.alloc (.cells #[.int .i64 0, .int .i64 1] 3))) [0] (by decide) rfl hw30
    simpa using this
  have hs30 : Same w28 w30 := by rw [hw30]; exact (((Frm.refl _ _).alloc _).alloc _)
  clear hw30
  have HL31_a := Lib.hid (Sl.same HL29_a.out hs30)
  have HL31_z := Lib.hid (Sl.same HL29_z.out hs30)
  have HS31 := Lib.hid ((HS29.out).trans hs30 (fun _ _ h => h))
  have HL31_l0 := Lib.hid hl30_0
  have HL31_l1 := Lib.hid hl30_1
  clear HL29_a HL29_z HS29 hs30
  clear hl30_0
  clear hl30_1
  have hc32 := compose_any _ _ 2 1 2 1 [0, 1] [0] _ HL31_l0.out HL31_l1.out (by decide) (by decide)
  rw [show both [0, 1] [0] = 4 by decide] at hc32
  refine hc32.mono ?_
  clear hc32
  rintro e w32 ⟨Ax, Cx, rfl, hN32⟩
  have hs32 := hN32.2.2
  have HL33_a := Lib.hid (Sl.same HL31_a.out hs32)
  have HL33_z := Lib.hid (Sl.same HL31_z.out hs32)
  have HL33_l0 := Lib.hid (Sl.same HL31_l0.out hs32)
  have HL33_l1 := Lib.hid (Sl.same HL31_l1.out hs32)
  have HS33 := Lib.hid ((HS31.out).trans hs32 (fun _ _ h => h))
  have HL33_x := Lib.hid hN32.il
  clear HL31_a HL31_z HL31_l0 HL31_l1 HS31 hs32
  clear hN32
  clear HL33_x
  clear HL33_l0
  clear HL33_l1
  go_wp2_with (fail)
  refine call_world fun w34 hw34 => ?_
  have hl34_0 : IL w34 (some ⟨w32.heap.size, 0, none⟩) 2 [0, 0] := lit_il [0, 0] (by decide) rfl hw34
  have hs34 : Same w32 w34 := by rw [hw34]; exact ((Frm.refl _ _).alloc _)
  clear hw34
  have HL35_a := Lib.hid (Sl.same HL33_a.out hs34)
  have HL35_z := Lib.hid (Sl.same HL33_z.out hs34)
  have HS35 := Lib.hid ((HS33.out).trans hs34 (fun _ _ h => h))
  have HL35_l0 := Lib.hid hl34_0
  clear HL33_a HL33_z HS33 hs34
  clear hl34_0
  have hc36 := swapped_any _ 2 2 [0, 0] 9 _ HL35_l0.out (by decide)
  rw [show swE [0, 0] 9 = 1 by decide] at hc36
  refine hc36.mono ?_
  clear hc36
  rintro e w36 ⟨Ax, Cx, rfl, hN36⟩
  have hs36 := hN36.2.2
  have HL37_a := Lib.hid (Sl.same HL35_a.out hs36)
  have HL37_z := Lib.hid (Sl.same HL35_z.out hs36)
  have HL37_l0 := Lib.hid (Sl.same HL35_l0.out hs36)
  have HS37 := Lib.hid ((HS35.out).trans hs36 (fun _ _ h => h))
  have HL37_x := Lib.hid hN36.il
  clear HL35_a HL35_z HL35_l0 HS35 hs36
  clear hN36
  clear HL37_x
  clear HL37_l0
  go_wp2_with (fail)
  refine call_world fun w38 hw38 => ?_
  have hl38_0 : IL w38 (some ⟨w36.heap.size, 0, none⟩) 1 [0] := lit_il [0] (by decide) rfl hw38
  have hs38 : Same w36 w38 := by rw [hw38]; exact ((Frm.refl _ _).alloc _)
  clear hw38
  have HL39_a := Lib.hid (Sl.same HL37_a.out hs38)
  have HL39_z := Lib.hid (Sl.same HL37_z.out hs38)
  have HS39 := Lib.hid ((HS37.out).trans hs38 (fun _ _ h => h))
  have HL39_l0 := Lib.hid hl38_0
  clear HL37_a HL37_z HS37 hs38
  clear hl38_0
  have hc40 := swapped_any _ 1 1 [0] 0 _ HL39_l0.out (by decide)
  rw [show swE [0] 0 = 1 by decide] at hc40
  refine hc40.mono ?_
  clear hc40
  rintro e w40 ⟨Ax, Cx, rfl, hN40⟩
  have hs40 := hN40.2.2
  have HL41_a := Lib.hid (Sl.same HL39_a.out hs40)
  have HL41_z := Lib.hid (Sl.same HL39_z.out hs40)
  have HL41_l0 := Lib.hid (Sl.same HL39_l0.out hs40)
  have HS41 := Lib.hid ((HS39.out).trans hs40 (fun _ _ h => h))
  have HL41_x := Lib.hid hN40.il
  clear HL39_a HL39_z HL39_l0 HS39 hs40
  clear hN40
  clear HL41_x
  clear HL41_l0
  go_wp2_with (fail)
  refine call_world fun w42 hw42 => ?_
  have hl42_0 : IL w42 (some ⟨w40.heap.size, 0, none⟩) 2 [0, 1] := by
    rw [hw42]
    exact Sl.same (lit_il (w := w40) [0, 1] (by decide) rfl rfl) ((Frm.refl _ _).alloc _)
  have hl42_1 : IL w42 (some ⟨w40.heap.size + 1, 0, none⟩) 1 [0] := by
    have := lit_il (w := (w40.alloc (.cells #[.int .i64 0, .int .i64 1] 3))) [0] (by decide) rfl hw42
    simpa using this
  have hs42 : Same w40 w42 := by rw [hw42]; exact (((Frm.refl _ _).alloc _).alloc _)
  clear hw42
  have HL43_a := Lib.hid (Sl.same HL41_a.out hs42)
  have HL43_z := Lib.hid (Sl.same HL41_z.out hs42)
  have HS43 := Lib.hid ((HS41.out).trans hs42 (fun _ _ h => h))
  have HL43_l0 := Lib.hid hl42_0
  have HL43_l1 := Lib.hid hl42_1
  clear HL41_a HL41_z HS41 hs42
  clear hl42_0
  clear hl42_1
  have hc44 := path_any _ _ 2 1 2 1 [0, 1] [0] _ HL43_l0.out HL43_l1.out (by decide) (by decide)
  rw [show both [0, 1] [0] = 4 by decide] at hc44
  refine hc44.mono ?_
  clear hc44
  rintro e w44 ⟨Ax, Cx, rfl, hN44⟩
  have hs44 := hN44.2.2
  have HL45_a := Lib.hid (Sl.same HL43_a.out hs44)
  have HL45_z := Lib.hid (Sl.same HL43_z.out hs44)
  have HL45_l0 := Lib.hid (Sl.same HL43_l0.out hs44)
  have HL45_l1 := Lib.hid (Sl.same HL43_l1.out hs44)
  have HS45 := Lib.hid ((HS43.out).trans hs44 (fun _ _ h => h))
  have HL45_x := Lib.hid hN44.il
  clear HL43_a HL43_z HL43_l0 HL43_l1 HS43 hs44
  clear hN44
  clear HL45_x
  clear HL45_l0
  clear HL45_l1
  go_wp2_with (fail)
  have hc46 := changes_any 5 w44
  rw [show chE 5 = 1 by decide] at hc46
  refine hc46.mono ?_
  clear hc46
  rintro e w46 ⟨Ax, Cx, rfl, hN46⟩
  have hs46 := hN46.2.2
  have HL47_a := Lib.hid (Sl.same HL45_a.out hs46)
  have HL47_z := Lib.hid (Sl.same HL45_z.out hs46)
  have HS47 := Lib.hid ((HS45.out).trans hs46 (fun _ _ h => h))
  have HL47_x := Lib.hid hN46.il
  clear HL45_a HL45_z HS45 hs46
  clear hN46
  clear HL47_x
  go_wp2_with (fail)
  have hc48 := rank_any Aa 21 Ca ((rng 64).take 21) _ (IL.take HL47_a.out (by decide)) (by decide) (by omega)
  rw [show rkE ((rng 64).take 21) = 6 by decide +kernel] at hc48
  refine hc48.mono ?_
  clear hc48
  rintro e w48 ⟨rfl, hs48⟩
  have HL49_a := Lib.hid (Sl.same HL47_a.out hs48)
  have HL49_z := Lib.hid (Sl.same HL47_z.out hs48)
  have HS49 := Lib.hid ((HS47.out).trans hs48 (fun _ _ h => h))
  clear HL47_a HL47_z HS47 hs48
  clear HL49_a
  go_wp2_with (fail)
  have hc50 := unrank_any 21 0 w48 (by decide)
  rw [show unE 21 0 = 1 by decide] at hc50
  refine hc50.mono ?_
  clear hc50
  rintro e w50 ⟨Ax, Cx, rfl, hN50⟩
  have hs50 := hN50.2.2
  have HL51_z := Lib.hid (Sl.same HL49_z.out hs50)
  have HS51 := Lib.hid ((HS49.out).trans hs50 (fun _ _ h => h))
  have HL51_x := Lib.hid hN50.il
  clear HL49_z HS49 hs50
  clear hN50
  clear HL51_x
  go_wp2_with (fail)
  have hc52 := unrank_any 20 2432902008176639999 w50 (by decide)
  rw [show unE 20 2432902008176639999 = 0 by decide +kernel, show unR 20 2432902008176639999 = (List.range 20).map (fun j : Nat => 19 - (j : Int)) by decide +kernel] at hc52
  refine hc52.mono ?_
  clear hc52
  rintro e w52 ⟨Ap, Cp, rfl, hN52⟩
  have hs52 := hN52.2.2
  have HL53_z := Lib.hid (Sl.same HL51_z.out hs52)
  have HS53 := Lib.hid ((HS51.out).trans hs52 (fun _ _ h => h))
  have HL53_p := Lib.hid hN52.il
  clear HL51_z HS51 hs52
  clear hN52
  go_wp2_with (fail)
  have hc54 := unrank_any 20 2432902008176640000 w52 (by decide)
  rw [show unE 20 2432902008176640000 = 1 by decide +kernel] at hc54
  refine hc54.mono ?_
  clear hc54
  rintro e w54 ⟨Ax, Cx, rfl, hN54⟩
  have hs54 := hN54.2.2
  have HL55_z := Lib.hid (Sl.same HL53_z.out hs54)
  have HL55_p := Lib.hid (Sl.same HL53_p.out hs54)
  have HS55 := Lib.hid ((HS53.out).trans hs54 (fun _ _ h => h))
  have HL55_x := Lib.hid hN54.il
  clear HL53_z HL53_p HS53 hs54
  clear hN54
  clear HL55_x
  go_wp2_with (fail)
  have hc56 := unrank_any 0 0 w54 (by decide)
  rw [show unE 0 0 = 0 by decide, show unR 0 0 = [] by decide] at hc56
  refine hc56.mono ?_
  clear hc56
  rintro e w56 ⟨Aq, Cq, rfl, hN56⟩
  have hs56 := hN56.2.2
  have HL57_z := Lib.hid (Sl.same HL55_z.out hs56)
  have HL57_p := Lib.hid (Sl.same HL55_p.out hs56)
  have HS57 := Lib.hid ((HS55.out).trans hs56 (fun _ _ h => h))
  have HL57_q := Lib.hid hN56.il
  clear HL55_z HL55_p HS55 hs56
  clear hN56
  clear HL57_q
  go_wp2_with (fail)
  have hc58 := rank_any _ 65 65 (List.replicate 65 0) _ HL57_z.out (by decide) (by decide)
  rw [show rkE (List.replicate 65 0) = 4 by decide +kernel] at hc58
  refine hc58.mono ?_
  clear hc58
  rintro e w58 ⟨rfl, hs58⟩
  have HL59_z := Lib.hid (Sl.same HL57_z.out hs58)
  have HL59_p := Lib.hid (Sl.same HL57_p.out hs58)
  have HS59 := Lib.hid ((HS57.out).trans hs58 (fun _ _ h => h))
  clear HL57_z HL57_p HS57 hs58
  clear HL59_z
  go_wp2
  go_loopw [15] (fun i wr => ∃ k : Nat, k ≤ 20 ∧ i = .int .i64 k ∧ Same w58 wr) (fun i _ => 20 - (intOf i).toNat)
  case atStart => exact ⟨0, by omega, rfl, Frm.refl _ _⟩
  case round =>
    obtain ⟨k, hk, rfl, hs⟩ := hrel
    by_cases hlt : k < 20
    · have hlt' : (k : Int) < 20 := by omega
      have hx : ((List.range 20).map (fun j : Nat => 19 - (j : Int)))[k]? = some (19 - (k : Int)) := by simp [hlt]
      obtain ⟨b, off, rfl, hb, hc⟩ := (Sl.same HL59_p.out hs).at1 hx
      clear hx
      have hi0 : (0 : Int) ≤ k := by omega
      go_wp2
      go_roundw
      case rel => exact ⟨k + 1, by omega, by go_num, hs⟩
      case measure => simp [intOf]; omega
    · obtain rfl : k = 20 := by omega
      go_wp2
      go_ret
      exact ⟨rfl, (HS59.out.trans hs (fun _ _ h => h)).to_below (Nat.le_refl _) (fun _ _ => id)⟩
end Go.Proofs.Ytibjpclmiaimaaa
