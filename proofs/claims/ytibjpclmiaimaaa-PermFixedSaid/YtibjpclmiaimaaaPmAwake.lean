/- Permutations: the first look of the laws. -/
import Derived.Test.YtibjpclmiaimaaaPmRank2
namespace Go.Proofs.Ytibjpclmiaimaaa
open Go.RowKit Go.Tk

theorem NewL.il {w w' : World} {ys : List Int} {A : Option Addr} {C : Nat} (h : NewL w ys A C w') : IL w' A ys.length ys := Own.il h.1
theorem lit_il {w w' : World} (ys : List Int) (hm : ys.length ≤ 1000) {cs : Array Value} (hcs : cs = (ys.flatMap icell).toArray) (hw : w' = w.alloc (.cells cs 3)) : IL w' (some ⟨w.heap.size, 0, none⟩) ys.length ys := by
  rw [hw]
  exact (lit_new w ys hm hcs).il
set_option maxHeartbeats 2000000 in
theorem awake_any (w : World) : Calls Try.prog 12 #[] w fun e w' => e = .returned (.bool true) ∧ Same w w' := by
  go_enter Try.func12, Try.ntmps12
  go_wp2_with (fail)
  refine call_world fun w1 hw1 => ?_
  have hi1 := lit_il [2, 0, 1] (by decide) rfl hw1
  have hs1 : Same w w1 := by rw [hw1]; exact (Frm.refl _ _).alloc _
  clear hw1
  have c1 := inverse_any _ 3 3 [2, 0, 1] w1 hi1 (by decide)
  rw [show inL [2, 0, 1] = [1, 2, 0] by decide, show chk [2, 0, 1] = 0 by decide] at c1
  refine c1.mono ?_
  rintro e w2 ⟨A2, C2, rfl, hN2⟩
  clear c1 hi1
  have hs2 : Same w w2 := hs1.trans hN2.2.2 (fun _ _ h => h)
  have hq := hN2.il
  have HS2 := Lib.hid hs2
  have HQ := Lib.hid hq
  clear hN2 hs1 hs2 hq
  go_wp2_with (fail)
  refine call_world fun w3 hw3 => ?_
  have hi3 : IL w3 (some ⟨w2.heap.size, 0, none⟩) 3 [0, 1, 2] := by
    rw [hw3]
    exact Sl.same (lit_il (w := w2) [0, 1, 2] (by decide) rfl rfl) ((Frm.refl _ _).alloc _)
  have hi4 : IL w3 (some ⟨w2.heap.size + 1, 0, none⟩) 3 [2, 1, 0] := by
    have := lit_il (w := w2.alloc (.cells #[.int .i64 0, .int .i64 1, .int .i64 2] 3)) [2, 1, 0] (by decide) rfl hw3
    simpa using this
  have hs3 : Same w2 w3 := by rw [hw3]; exact ((Frm.refl _ _).alloc _).alloc _
  clear hw3
  have c2 := path_any _ _ 3 3 3 3 [0, 1, 2] [2, 1, 0] w3 hi3 hi4 (by decide) (by decide)
  rw [show paL [0, 1, 2] [2, 1, 0] = [1, 0, 1] by decide, show both [0, 1, 2] [2, 1, 0] = 0 by decide] at c2
  refine c2.mono ?_
  rintro e w4 ⟨A4, C4, rfl, hN4⟩
  clear c2 hi3 hi4
  have hs24 : Same w2 w4 := hs3.trans hN4.2.2 (fun _ _ h => h)
  have HP := Lib.hid hN4.il
  have HQ4 := Lib.hid (Sl.same HQ.out hs24)
  have HS4 := Lib.hid (HS2.out.trans hs24 (fun _ _ h => h))
  clear hN4 hs24 hs3 HQ HS2
  go_wp2_with (fail)
  refine call_world fun w5 hw5 => ?_
  have hi5 := lit_il [2, 1, 0] (by decide) rfl hw5
  have hs5 : Same w4 w5 := by rw [hw5]; exact (Frm.refl _ _).alloc _
  clear hw5
  have c3 := rank_any _ 3 3 [2, 1, 0] w5 hi5 (by decide) (by decide)
  rw [show rkV [2, 1, 0] = 5 by decide, show rkE [2, 1, 0] = 0 by decide] at c3
  refine c3.mono ?_
  rintro e w6 ⟨rfl, hs6⟩
  clear c3 hi5
  have hs46 : Same w4 w6 := hs5.trans hs6 (fun _ _ h => h)
  have HP6 := Lib.hid (Sl.same HP.out hs46)
  have HQ6 := Lib.hid (Sl.same HQ4.out hs46)
  have HS6 := Lib.hid (HS4.out.trans hs46 (fun _ _ h => h))
  clear hs46 hs5 hs6 HP HQ4 HS4
  go_wp2_with (fail)
  have c4 := changes_any 3 w6
  rw [show chL 3 = [1, 0, 1, 0, 1] by decide, show chE 3 = 0 by decide] at c4
  refine c4.mono ?_
  rintro e w7 ⟨A7, C7, rfl, hN7⟩
  clear c4
  have hs67 := hN7.2.2
  have HC7 := Lib.hid hN7.il
  have HP7 := Lib.hid (Sl.same HP6.out hs67)
  have HQ7 := Lib.hid (Sl.same HQ6.out hs67)
  have HS7 := Lib.hid (HS6.out.trans hs67 (fun _ _ h => h))
  clear hN7 hs67 HP6 HQ6 HS6
  go_wp2_with (fail)
  refine call_world fun w8 hw8 => ?_
  have hi8 := lit_il [1, 2, 0] (by decide) rfl hw8
  have hs8 : Same w7 w8 := by rw [hw8]; exact (Frm.refl _ _).alloc _
  clear hw8
  have c5 := same_any A2 _ 3 3 C2 3 [1, 2, 0] [1, 2, 0] w8 (Sl.same HQ7.out hs8) hi8 (by decide) (by decide)
  simp only [decide_true] at c5
  refine c5.mono ?_
  rintro e w9 ⟨rfl, hs9⟩
  clear c5 hi8
  have hs79 : Same w7 w9 := hs8.trans hs9 (fun _ _ h => h)
  have HC9 := Lib.hid (Sl.same HC7.out hs79)
  have HP9 := Lib.hid (Sl.same HP7.out hs79)
  have HS9 := Lib.hid (HS7.out.trans hs79 (fun _ _ h => h))
  clear hs79 hs8 hs9 HQ7 HC7 HP7 HS7
  go_wp2_with (fail)
  refine call_world fun wa hwa => ?_
  have hia := lit_il [1, 0, 1] (by decide) rfl hwa
  have hsa : Same w9 wa := by rw [hwa]; exact (Frm.refl _ _).alloc _
  clear hwa
  have c6 := same_any A4 _ 3 3 C4 3 [1, 0, 1] [1, 0, 1] wa (Sl.same HP9.out hsa) hia (by decide) (by decide)
  simp only [decide_true] at c6
  refine c6.mono ?_
  rintro e wb ⟨rfl, hsb⟩
  clear c6 hia
  have hs9b : Same w9 wb := hsa.trans hsb (fun _ _ h => h)
  have HCb := Lib.hid (Sl.same HC9.out hs9b)
  have HSb := Lib.hid (HS9.out.trans hs9b (fun _ _ h => h))
  clear hs9b hsa hsb HP9 HC9 HS9
  go_wp2_with (fail)
  refine call_world fun wc hwc => ?_
  have hic := lit_il [1, 0, 1, 0, 1] (by decide) rfl hwc
  have hsc : Same wb wc := by rw [hwc]; exact (Frm.refl _ _).alloc _
  clear hwc
  have c7 := same_any A7 _ 5 5 C7 5 [1, 0, 1, 0, 1] [1, 0, 1, 0, 1] wc (Sl.same HCb.out hsc) hic (by decide) (by decide)
  simp only [decide_true] at c7
  refine c7.mono ?_
  rintro e wd ⟨rfl, hsd⟩
  clear c7 hic
  have HSd := Lib.hid ((HSb.out.trans hsc (fun _ _ h => h)).trans hsd (fun _ _ h => h))
  clear hsc hsd HCb HSb
  go_wp2
  go_ret
  exact ⟨rfl, HSd.out⟩
end Go.Proofs.Ytibjpclmiaimaaa
