/- Truth tables: small, alike, awake. -/
import Derived.Test.YtlggmoghgoeiiaaTrCount
namespace Go.Tk
open Go.RowKit Go.Sort
theorem effStep_on {P : Program} {ops : Array Oper} {C : World → Prop} {o : Oper} {a : Act} {w : World} {K : Act → World → Prop} (hg : Region.wanted o (yielded ops a.tmps) = true)
    (h : ∀ K' : Act → World → Prop, (∀ a w, C w → K a w → K' a w) → o.wp P a w K' (fun _ _ _ => False)) : effStep P ops C o a w K := by
  have h1 := h (fun a w => C w ∧ K a w) (fun a w hc hw => ⟨hc, hw⟩)
  unfold effStep
  rw [if_pos hg]
  exact h1
end Go.Tk
namespace Go.Proofs.Ytlggmoghgoeiiaa
open Go.RowKit Go.Tk

theorem small_any (x : Nat) (w : World) : Calls Try.prog 50 #[.int .u64 x] w (RetT w 2 [x]) := by
  go_enter Try.func50, Try.ntmps50
  go_wp2
  refine wp_post fun we hwe => ?_
  have hBE : Blk we w.heap.size 24 #[.int .i64 2, .slice (some ⟨w.heap.size + 1, 0, none⟩) 1 1] := by
    rw [hwe]
    exact (Blk.new w 24 #[.int .i64 2, .slice (some ⟨w.heap.size + 1, 0, none⟩) 1 1]).alloc _
  have hOE : OwnW we (some ⟨w.heap.size + 1, 0, none⟩) 1 1 [x] := by
    rw [hwe]
    have := Own.lit (w.alloc (.cells #[.int .i64 2, .slice (some ⟨w.heap.size + 1, 0, none⟩) 1 1] 24)) 38 ucell ucell_len [x] (by simp [maxLen]) (cs := #[.int .u64 x]) rfl
    simpa using this
  have hSE : Same w we := by rw [hwe]; exact ((Frm.refl _ _).alloc _).alloc _
  have hr0 : we.cell? ⟨w.heap.size, 0, none⟩ = some (.int .i64 2) := hBE.cell 0
  have hr1 : we.cell? ⟨w.heap.size, 1, none⟩ = some (.slice (some ⟨w.heap.size + 1, 0, none⟩) 1 1) := hBE.cell 1
  clear hwe hBE
  refine bodyPost_ret (v := .agg #[.int .i64 2, .slice (some ⟨w.heap.size + 1, 0, none⟩) 1 1]) (by simp [results, Try.results50, go_sem, hr0, hr1]) rfl ?_
  exact ⟨some ⟨w.heap.size + 1, 0, none⟩, 1, rfl, hOE, fresh_some (Nat.le_succ _), hSE⟩
set_option maxHeartbeats 1000000 in
theorem alike_any (Na : Int) (Aa : Option Addr) (La Ca : Nat) (wsa : List Nat) (e : Int) (Nb : Int) (Ab : Option Addr) (Lb Cb : Nat) (wsb : List Nat) (f : Int) (w : World) (ha : WL w Aa La wsa) (hb : WL w Ab Lb wsb) (hbd : La ≤ 1000000000000000000) :
    Calls Try.prog 17 #[.agg #[.int .i64 Na, .slice Aa La Ca], .int .i64 e, .agg #[.int .i64 Nb, .slice Ab Lb Cb], .int .i64 f] w fun x w' => x = .returned (.bool (sm Na Nb wsa wsb && (e == f))) ∧ Same w w' := by
  have HA := Lib.hid ha
  have HB := Lib.hid hb
  have HBD := Lib.hid hbd
  obtain ⟨r, hr⟩ : ∃ r, sm Na Nb wsa wsb = r := ⟨_, rfl⟩
  rw [hr]
  have HR := Lib.hid hr
  clear ha hb hr hbd
  go_enter Try.func17, Try.ntmps17
  go_upto_region 1 with fail
  refine wp_world fun w1 hw1 => ?_
  have hs1 : Same w w1 := by rw [hw1]; exact ((Frm.refl _ _).alloc _).alloc _
  have hBXa : Blk w1 (w.heap.size) 24 #[.int .i64 Na, .slice Aa La Ca] := by
    rw [hw1]
    have := ((Blk.new w 24 #[.int .i64 Na, .slice Aa La Ca]).alloc (.cells #[.int .i64 Nb, .slice Ab Lb Cb] 24))
    simpa using this
  have hBXb : Blk w1 (w.heap.size + 1) 24 #[.int .i64 Nb, .slice Ab Lb Cb] := by
    rw [hw1]
    have := (Blk.new (w.alloc (.cells #[.int .i64 Na, .slice Aa La Ca] 24)) 24 #[.int .i64 Nb, .slice Ab Lb Cb])
    simpa using this
  clear hw1
  obtain ⟨Xb, hXb⟩ : ∃ b, w.heap.size + 1 = b := ⟨_, rfl⟩
  rw [hXb] at hBXb ⊢
  have leXb : w.heap.size ≤ Xb := by omega
  have neXaXb : w.heap.size ≠ Xb := by omega
  clear hXb
  have cXa0 : w1.cell? ⟨w.heap.size, 0, none⟩ = some (.int .i64 Na) := hBXa.cell 0
  have cXa1 : w1.cell? ⟨w.heap.size, 1, none⟩ = some (.slice Aa La Ca) := hBXa.cell 1
  have lXa := hBXa.lt
  have fXa0 := hBXa.free 0
  have fXa1 := hBXa.free 1
  have HBXa := Lib.hid hBXa
  have cXb0 : w1.cell? ⟨Xb, 0, none⟩ = some (.int .i64 Nb) := hBXb.cell 0
  have cXb1 : w1.cell? ⟨Xb, 1, none⟩ = some (.slice Ab Lb Cb) := hBXb.cell 1
  have lXb := hBXb.lt
  have fXb0 := hBXb.free 0
  have fXb1 := hBXb.free 1
  have HBXb := Lib.hid hBXb
  have HS1 := Lib.hid hs1
  clear hs1 hBXa hBXb
  go_wp2_with (fail)
  refine (same_any Na Aa La Ca wsa Nb Ab Lb Cb wsb w1 (Sl.same HA.out HS1.out) (Sl.same HB.out HS1.out) HBD.out).mono ?_
  rintro x w2 ⟨rfl, hs12⟩
  rw [HR.out]
  have HS2 := Lib.hid (HS1.out.trans hs12 (fun _ _ h => h))
  clear hs12 cXa0 cXa1 fXa0 fXa1 lXa cXb0 cXb1 fXb0 fXb1 lXb
  cases r
  · go_wp2
    go_ret
    exact ⟨rfl, HS2.out⟩
  · go_wp2
    go_ret
    exact ⟨rfl, HS2.out⟩
/-- a table of one word that lies in a block -/
structure Tq (w : World) (T : Nat) (A : Option Addr) (C x : Nat) : Prop where
  blk : Blk w T 24 #[.int .i64 2, .slice A 1 C]
  own : OwnW w A 1 C [x]
theorem Tq.same {w w' : World} {T : Nat} {A : Option Addr} {C x : Nat} (h : Tq w T A C x) (hs : Same w w') : Tq w' T A C x := ⟨h.blk.frm hs id, Own.frm h.own hs (fun _ _ => id)⟩
theorem Tq.make {w w' : World} {A : Option Addr} {C x : Nat} (h : OwnW w A 1 C [x]) (hw : w' = w.alloc (.cells #[.int .i64 2, .slice A 1 C] 24)) : Tq w' w.heap.size A C x ∧ Same w w' := by
  subst hw
  have hs : Same w (w.alloc (.cells #[.int .i64 2, .slice A 1 C] 24)) := (Frm.refl _ _).alloc _
  exact ⟨⟨Blk.new w _ _, Own.frm h hs (fun _ _ => id)⟩, hs⟩
theorem ok_own {w : World} {A : Option Addr} {C x : Nat} (h : OwnW w A 1 C [x]) (hx : x < 18446744073709551616) : TbOk w ⟨2, A, C, [x]⟩ :=
  ⟨h.sl ucell_len, fun y hy => by rw [List.mem_singleton.1 hy]; exact hx⟩
set_option maxRecDepth 100000 in
set_option maxHeartbeats 8000000 in
theorem awake_any (w : World) : Calls Try.prog 13 #[] w fun e w' => e = .returned (.bool true) ∧ Same w w' := by
  have hV := fun w => Var_any 2 0 w
  rw [show varE 2 0 = 0 by decide] at hV
  unfold RetA at hV
  rw [show ansN 2 0 = 2 from rfl, show ansL (tab (2 : Int).toNat (varF (0 : Int).toNat)) 0 = [10] by decide +kernel] at hV
  have hB := fun A0 C0 A1 C1 w h0 h1 => Binary_any 8 2 A0 C0 [10] 2 A1 C1 [12] w (by decide) h0 h1
  simp only [show ∀ A0 C0 A1 C1, binE 8 (fm [⟨2, A0, C0, [10]⟩, ⟨2, A1, C1, [12]⟩]) = 0 from fun _ _ _ _ => by unfold binE fm; simp [Tb.frm, show frm 2 [10] = true by decide +kernel, show frm 2 [12] = true by decide +kernel, fmE]] at hB
  unfold RetA at hB
  rw [show ansN 2 0 = 2 from rfl, show ansL (tab (2 : Int).toNat (binF 8 [10] [12])) 0 = [8] by decide +kernel] at hB
  have hC := fun A0 C0 w h => Cofactor_any 2 A0 C0 [8] 0 true w h
  rw [show ofE 2 0 [8] = 0 by decide +kernel] at hC
  unfold RetA at hC
  rw [show ansN 2 0 = 2 from rfl, show ansL (tab (2 : Int).toNat (hfF (0 : Int).toNat true [8])) 0 = [12] by decide +kernel] at hC
  have hN := fun A0 C0 w h => Count_any 2 A0 C0 [14] w h
  rw [show frm 2 [14] = true by decide +kernel, if_pos rfl, show popS [14] [14].length = 3 by decide +kernel, show fmE true = 0 from rfl] at hN
  have hF := fun A0 C0 w h hb => Form_any 2 A0 1 C0 [15] w h hb
  rw [show frm 2 [15] = true by decide +kernel] at hF
  have hG := fun A0 C0 w h hb => Form_any 2 A0 1 C0 [16] w h hb
  rw [show frm 2 [16] = false by decide +kernel] at hG
  have hS := fun (x : Nat) A0 C0 A1 C1 w h0 h1 => same_any 2 A0 1 C0 [x] 2 A1 1 C1 [x] w h0 h1 (by decide)
  simp only [show ∀ x : Nat, sm 2 2 [x] [x] = true from fun x => by simp [sm]] at hS
  have HV := Lib.hid hV
  have HB := Lib.hid hB
  have HC := Lib.hid hC
  have HN := Lib.hid hN
  have HF := Lib.hid hF
  have HG := Lib.hid hG
  have HSM := Lib.hid hS
  clear hV hB hC hN hF hG hS
  go_enter Try.func13, Try.ntmps13
  go_wp2_with (fail)
  refine (HV.out w).mono ?_
  rintro e wa ⟨A1, C1, rfl, hN⟩
  go_wp2_with (fail)
  refine call_world fun w1 hw1 => ?_
  obtain ⟨hq1, hsv⟩ := Tq.make hN.1 hw1
  have hs := hN.2.2.trans hsv (fun _ _ h => h)
  clear hw1 hN hsv
  generalize wa.heap.size = T1 at *
  refine (small_any 10 w1).mono ?_
  rintro e w2 ⟨Aa, Ca, rfl, hNa⟩
  go_wp2_with (fail)
  refine (small_any 12 w2).mono ?_
  rintro e w3 ⟨Ab, Cb, rfl, hNb⟩
  have hoa : OwnW w3 Aa 1 Ca [10] := Own.frm hNa.1 hNb.2.2 (fun _ _ => id)
  have hob : OwnW w3 Ab 1 Cb [12] := hNb.1
  have hs := (hs.trans hNa.2.2 (fun _ _ h => h)).trans hNb.2.2 (fun _ _ h => h)
  have hq1 := (hq1.same hNa.2.2).same hNb.2.2
  clear hNa hNb
  go_wp2_with (fail)
  refine (HB.out Aa Ca Ab Cb w3 (ok_own hoa (by decide)) (ok_own hob (by decide))).mono ?_
  rintro e wa ⟨A3, C3, rfl, hN⟩
  go_wp2_with (fail)
  refine call_world fun w4 hw4 => ?_
  obtain ⟨hq3, hsv⟩ := Tq.make hN.1 hw4
  have hs := (hs.trans hN.2.2 (fun _ _ h => h)).trans hsv (fun _ _ h => h)
  have hq1 := (hq1.same hN.2.2).same hsv
  clear hw4 hN hsv hoa hob
  generalize wa.heap.size = T3 at *
  refine (small_any 8 w4).mono ?_
  rintro e w5 ⟨Aa, Ca, rfl, hNa⟩
  have hoa : OwnW w5 Aa 1 Ca [8] := hNa.1
  have hs := hs.trans hNa.2.2 (fun _ _ h => h)
  have hq1 := hq1.same hNa.2.2
  have hq3 := hq3.same hNa.2.2
  clear hNa
  go_wp2_with (fail)
  refine (HC.out Aa Ca w5 (ok_own hoa (by decide))).mono ?_
  rintro e wa ⟨A5, C5, rfl, hN⟩
  go_wp2_with (fail)
  refine call_world fun w6 hw6 => ?_
  obtain ⟨hq5, hsv⟩ := Tq.make hN.1 hw6
  have hs := (hs.trans hN.2.2 (fun _ _ h => h)).trans hsv (fun _ _ h => h)
  have hq1 := (hq1.same hN.2.2).same hsv
  have hq3 := (hq3.same hN.2.2).same hsv
  clear hw6 hN hsv hoa
  generalize wa.heap.size = T5 at *
  refine (small_any 14 w6).mono ?_
  rintro e w7 ⟨Aa, Ca, rfl, hNa⟩
  have hoa : OwnW w7 Aa 1 Ca [14] := hNa.1
  have hs := hs.trans hNa.2.2 (fun _ _ h => h)
  have hq1 := hq1.same hNa.2.2
  have hq3 := hq3.same hNa.2.2
  have hq5 := hq5.same hNa.2.2
  clear hNa
  go_wp2_with (fail)
  refine (HN.out Aa Ca w7 (ok_own hoa (by decide))).mono ?_
  rintro e w8 ⟨rfl, hsv⟩
  have HS := Lib.hid (hs.trans hsv (fun _ _ h => h))
  have HQ1 := Lib.hid (hq1.same hsv)
  have HQ3 := Lib.hid (hq3.same hsv)
  have HQ5 := Lib.hid (hq5.same hsv)
  clear hsv hs hq1 hq3 hq5 hoa
  go_upto_region 5 with fail
  refine wp_phS (fun _ => False) [([0], 1), ([], 2), ([3, 4], 5), ([], 6), ([7, 8, 9], 10), ([], 11), ([12, 13, 14, 15, 16, 17, 18, 19, 20, 21, 22, 23, 24, 25, 26, 27, 28, 29, 30, 31, 32, 33], 34), ([], 35), ([36, 37], 38), ([], 39), ([40, 41], 42)] (by kernel_rfl) (by kernel_rfl) ?_
  simp only [wpPh, pick, List.map_cons, List.map_nil, List.getD_cons_zero, List.getD_cons_succ]
  have cA := HQ1.out.blk.cell 0
  have cB := HQ1.out.blk.cell 1
  have lT := HQ1.out.blk.lt
  have dA := HQ3.out.blk.cell 0
  have dB := HQ3.out.blk.cell 1
  have lT3 := HQ3.out.blk.lt
  have eA := HQ5.out.blk.cell 0
  have eB := HQ5.out.blk.cell 1
  have lT5 := HQ5.out.blk.lt
  have hs : Same w8 w8.drew := (Frm.refl _ _).drew
  repeat (any_goals (first | go_big_quiet_step (fail) | quiet_step (fail)))
  refine wpQuiet_nil ?_
  refine effStep_plain rfl fun K hK => ?_
  go_simp
  refine (small_any 10 _).mono ?_
  rintro e u ⟨Az, Cz, rfl, hNz⟩
  have hs := hs.trans hNz.2.2 (fun _ _ h => h)
  have hoz := hNz.1
  refine hK _ _ (Lat.mk_ (Frm.mono hs (fun _ _ h => h.elim))) ?_
  clear hK K hNz
  repeat (any_goals (first | go_big_quiet_step (fail) | quiet_step (fail)))
  refine wpQuiet_nil ?_
  refine effStep_plain rfl fun K hK => ?_
  go_simp
  refine (HSM.out 10 A1 C1 Az Cz _ ((HQ1.out.same hs).own.sl ucell_len) (hoz.sl ucell_len)).mono ?_
  rintro e u ⟨rfl, hsz⟩
  have hs := hs.trans hsz (fun _ _ h => h)
  refine hK _ _ (Lat.mk_ (Frm.mono hs (fun _ _ h => h.elim))) ?_
  clear hK K hsz hoz
  repeat (any_goals (first | go_big_quiet_step (fail) | quiet_step (fail)))
  refine wpQuiet_nil ?_
  refine effStep_on (by rfl) fun K hK => ?_
  go_simp
  refine (small_any 8 _).mono ?_
  rintro e u ⟨Az, Cz, rfl, hNz⟩
  have hs := hs.trans hNz.2.2 (fun _ _ h => h)
  have hoz := hNz.1
  refine hK _ _ (Lat.mk_ (Frm.mono hs (fun _ _ h => h.elim))) ?_
  clear hK K hNz
  repeat (any_goals (first | go_big_quiet_step (fail) | quiet_step (fail)))
  refine wpQuiet_nil ?_
  refine effStep_on (by rfl) fun K hK => ?_
  go_simp
  refine (HSM.out 8 A3 C3 Az Cz _ ((HQ3.out.same hs).own.sl ucell_len) (hoz.sl ucell_len)).mono ?_
  rintro e u ⟨rfl, hsz⟩
  have hs := hs.trans hsz (fun _ _ h => h)
  refine hK _ _ (Lat.mk_ (Frm.mono hs (fun _ _ h => h.elim))) ?_
  clear hK K hsz hoz
  repeat (any_goals (first | go_big_quiet_step (fail) | quiet_step (fail)))
  refine wpQuiet_nil ?_
  refine effStep_on (by rfl) fun K hK => ?_
  go_simp
  refine (small_any 12 _).mono ?_
  rintro e u ⟨Az, Cz, rfl, hNz⟩
  have hs := hs.trans hNz.2.2 (fun _ _ h => h)
  have hoz := hNz.1
  refine hK _ _ (Lat.mk_ (Frm.mono hs (fun _ _ h => h.elim))) ?_
  clear hK K hNz
  repeat (any_goals (first | go_big_quiet_step (fail) | quiet_step (fail)))
  refine wpQuiet_nil ?_
  refine effStep_on (by rfl) fun K hK => ?_
  go_simp
  refine (HSM.out 12 A5 C5 Az Cz _ ((HQ5.out.same hs).own.sl ucell_len) (hoz.sl ucell_len)).mono ?_
  rintro e u ⟨rfl, hsz⟩
  have hs := hs.trans hsz (fun _ _ h => h)
  refine hK _ _ (Lat.mk_ (Frm.mono hs (fun _ _ h => h.elim))) ?_
  clear hK K hsz hoz
  repeat (any_goals (first | go_big_quiet_step (fail) | quiet_step (fail)))
  refine wpQuiet_nil ?_
  refine effStep_on (by rfl) fun K hK => ?_
  go_simp
  refine (small_any 15 _).mono ?_
  rintro e u ⟨Az, Cz, rfl, hNz⟩
  have hs := hs.trans hNz.2.2 (fun _ _ h => h)
  have hoz := hNz.1
  refine hK _ _ (Lat.mk_ (Frm.mono hs (fun _ _ h => h.elim))) ?_
  clear hK K hNz
  repeat (any_goals (first | go_big_quiet_step (fail) | quiet_step (fail)))
  refine wpQuiet_nil ?_
  refine effStep_on (by rfl) fun K hK => ?_
  go_simp
  refine (HF.out Az Cz _ (hoz.sl ucell_len) (ok_own hoz (by decide)).small).mono ?_
  rintro e u ⟨rfl, hsz⟩
  have hs := hs.trans hsz (fun _ _ h => h)
  refine hK _ _ (Lat.mk_ (Frm.mono hs (fun _ _ h => h.elim))) ?_
  clear hK K hsz hoz
  repeat (any_goals (first | go_big_quiet_step (fail) | quiet_step (fail)))
  refine wpQuiet_nil ?_
  refine effStep_on (by rfl) fun K hK => ?_
  go_simp
  refine (small_any 16 _).mono ?_
  rintro e u ⟨Az, Cz, rfl, hNz⟩
  have hs := hs.trans hNz.2.2 (fun _ _ h => h)
  have hoz := hNz.1
  refine hK _ _ (Lat.mk_ (Frm.mono hs (fun _ _ h => h.elim))) ?_
  clear hK K hNz
  repeat (any_goals (first | go_big_quiet_step (fail) | quiet_step (fail)))
  refine wpQuiet_nil ?_
  refine effStep_on (by rfl) fun K hK => ?_
  go_simp
  refine (HG.out Az Cz _ (hoz.sl ucell_len) (ok_own hoz (by decide)).small).mono ?_
  rintro e u ⟨rfl, hsz⟩
  have hs := hs.trans hsz (fun _ _ h => h)
  refine hK _ _ (Lat.mk_ (Frm.mono hs (fun _ _ h => h.elim))) ?_
  clear hK K hsz hoz
  repeat (any_goals (first | go_big_quiet_step (fail) | quiet_step (fail)))
  refine wpQuiet_nil ?_
  go_wp2
  go_ret
  exact ⟨rfl, HS.out.trans hs (fun _ _ h => h)⟩
end Go.Proofs.Ytlggmoghgoeiiaa
