/- Truth tables: the reference's Of. -/
import Derived.Test.YtlggmoghgoeiiaaTrVals
namespace Go.Proofs.Ytlggmoghgoeiiaa
open Go.RowKit Go.Tk

set_option maxRecDepth 100000 in
set_option maxHeartbeats 4000000 in
theorem rof_any (n C : Nat) (A : Option Addr) (F : Nat → Bool) (w : World) (hn : n ≤ 16) (h : BL w A (2 ^ n) (vals (2 ^ n) F)) :
    Calls Try.prog 56 #[.int .i64 n, .slice A (2 ^ n) C] w (RetT w n (tab n F)) := by
  have hmk := fun w => run_make_n (P := Try.prog) Try.underlying22 info_u64 .i64 .i64 (nw n) (show 8 * nw n ≤ 281474976710656 by have := nw_le hn; omega) (show nw n ≤ 9223372036854775807 by have := nw_le hn; omega) w
  have hnl := nw_le hn
  have hwd := fun w => rwords_any n w hn
  have hp16 := pow_le16 hn
  have hfull := part_full n F
  have hdl : ∀ i, i < 2 ^ n → i / 64 < nw n := fun i hi => div_lt_nw hi
  have hput : ∀ k, k < 2 ^ n → F k = true → ∃ x, (Tk.part n F k)[k / 64]? = some x ∧ x + 2 ^ (k % 64) < 18446744073709551616 ∧ (Tk.part n F k).set (k / 64) (x + 2 ^ (k % 64)) = Tk.part n F (k + 1) := fun k hk hF =>
    ⟨_, part_get (div_lt_nw hk), by rw [word_put hk hF]; exact word_lt _ _ _, part_put hk hF⟩
  have hsame : ∀ k, F k = false → Tk.part n F (k + 1) = Tk.part n F k := fun k hF => part_same hF
  have hz := part_zero n F
  have hll := part_len n F
  obtain ⟨W, hW⟩ : ∃ W, tab n F = W := ⟨_, rfl⟩
  rw [hW] at hfull ⊢
  have hWl : W.length = nw n := by rw [← hW]; exact tab_len n F
  obtain ⟨K, hK⟩ : ∃ K, nw n = K := ⟨_, rfl⟩
  rw [hK] at hmk hnl hwd hdl hz hll hWl
  obtain ⟨M, hM⟩ : ∃ M, 2 ^ n = M := ⟨_, rfl⟩
  rw [hM] at hp16 hfull hdl hput h ⊢
  have HFULL := Lib.hid hfull
  have HDL := Lib.hid hdl
  have HPUT := Lib.hid hput
  have HSAME := Lib.hid hsame
  have HZ := Lib.hid hz
  have HLL := Lib.hid hll
  have HWL := Lib.hid hWl
  have HWD := Lib.hid hwd
  have H := Lib.hid h
  clear hM hK hW hfull hdl hput hsame hz hll hWl hwd h
  go_enter Try.func56, Try.ntmps56
  go_wp2_with (fail)
  refine call_world fun w1 hw1 => ?_
  refine (HWD.out w1).mono ?_
  rintro e w2 ⟨rfl, rfl⟩
  go_upto_region 2 with fail
  refine wp_world fun wb hwb => ?_
  subst hw1
  have hsb : Same w wb := by rw [hwb]; exact (((Frm.refl _ _).alloc _).alloc _).alloc _
  have hBR : Blk wb w.heap.size 24 #[.int .i64 0, .slice none 0 0] := by rw [hwb]; exact ((Blk.new w _ _).alloc _).alloc _
  have hBT : Blk wb (w.heap.size + 1 + 1) 24 #[.int .i64 n, .slice (some ⟨w.heap.size + 1, 0, none⟩) K K] := by
    rw [hwb]
    have := Blk.new ((w.alloc (.cells #[.int .i64 0, .slice none 0 0] 24)).alloc (.cells (madeCells #[.int .u64 0] K) 38)) 24 #[.int .i64 n, .slice (some ⟨w.heap.size + 1, 0, none⟩) K K]
    simpa using this
  have hOD : OwnW wb (some ⟨w.heap.size + 1, 0, none⟩) K K (Tk.part n F 0) := by
    rw [hwb, HZ.out]
    have := Own.ofMade (m := 1) (w.alloc (.cells #[.int .i64 0, .slice none 0 0] 24)) 38 ucell (fun _ => rfl) (by decide) 0 K (show K ≤ 9223372036854775807 by omega) rfl
    have h2 := Own.frm this ((Frm.refl (fun _ => False) _).alloc (.cells #[.int .i64 n, .slice (some ⟨w.heap.size + 1, 0, none⟩) K K] 24)) (fun _ _ => id)
    simpa [ucell] using h2
  clear hwb hmk
  obtain ⟨T, hT⟩ : ∃ T, w.heap.size + 1 + 1 = T := ⟨_, rfl⟩
  rw [hT] at hBT ⊢
  obtain ⟨D, hD⟩ : ∃ D, w.heap.size + 1 = D := ⟨_, rfl⟩
  rw [hD] at hBT hOD ⊢
  have hnDT : D ≠ T := by omega
  have hnRT : w.heap.size ≠ T := by omega
  have hnRD : w.heap.size ≠ D := by omega
  have hwD : w.heap.size ≤ D := by omega
  have hwT : w.heap.size ≤ T := by omega
  clear hD hT
  have HBR := Lib.hid hBR
  have HBT := Lib.hid hBT
  have HOD := Lib.hid hOD
  have HSB := Lib.hid hsb
  clear hBR hBT hOD hsb
  go_wp2
  go_loopw [15] (fun i wr => ∃ k : Nat, k ≤ M ∧ i = .int .i64 k ∧ Same w wr ∧ Blk wr w.heap.size 24 #[.int .i64 0, .slice none 0 0] ∧ Blk wr T 24 #[.int .i64 n, .slice (some ⟨D, 0, none⟩) K K] ∧ OwnW wr (some ⟨D, 0, none⟩) K K (Tk.part n F k)) (fun i _ => M - (intOf i).toNat)
  case atStart => exact ⟨0, by omega, rfl, HSB.out, HBR.out, HBT.out, HOD.out⟩
  case round =>
    clear HBR HBT HOD HSB
    obtain ⟨k, hk, rfl, hs, hBR, hBT, hOD⟩ := hrel
    by_cases hlt : k < M
    · have hk1 : (k : Int) < M := by omega
      have hk0 : (0 : Int) ≤ k := by omega
      obtain ⟨v, hv⟩ : ∃ v, F k = v := ⟨_, rfl⟩
      obtain ⟨bq, offq, hA, hbl, hcq⟩ := BL.at1 (Sl.same H.out hs) (show (vals M F)[k]? = some v by rw [vals_get hlt, hv])
      subst hA
      cases v with
      | true =>
        obtain ⟨x, hx, hxl, hxs⟩ := HPUT.out k hlt hv
        have hdk := HDL.out k hlt
        have hst := fun (w' : World) (hs' : Same wr w') => Own.put1 (c := fun x : Nat => .int .u64 (x : Int)) (Own.frm hOD hs' (fun _ _ => id)) (i := k / 64) (by rw [HLL.out]; exact hdk) (x + 2 ^ (k % 64))
        rw [hxs] at hst
        obtain ⟨sb, hsb, hDl, hcD⟩ := hOD.at1 (c := fun x : Nat => .int .u64 (x : Int)) hx
        injection hsb with hsb
        injection hsb with hsb
        subst hsb
        have hm64 : min (k % 64) 64 = k % 64 := by omega
        have hkk : k % 64 < 64 := by omega
        have hn1 : (k : Int) / 64 = ((k / 64 : Nat) : Int) := by omega
        have hn2 : (k : Int) % 64 = ((k % 64 : Nat) : Int) := by omega
        have h2p : (2 : Int) ^ (k % 64) = ((2 ^ (k % 64) : Nat) : Int) := pow_int _
        have HS := Lib.hid hs
        have HBRw := Lib.hid hBR
        have HBTw := Lib.hid hBT
        have HOD := Lib.hid hOD
        have HST := Lib.hid hst
        have hcT : wr.cell? ⟨T, 1, none⟩ = some (.slice (some ⟨D, 0, none⟩) K K) := hBT.cell 1
        have hTl := hBT.lt
        clear hs hBR hBT hOD hst hx hxs hv
        generalize k % 64 = r at *
        generalize k / 64 = qq at *
        generalize 2 ^ r = p at *
        have hsw : wrap64 ((2 : Int) ^ r) = wrap64 (p : Int) := by rw [h2p]
        have hsw2 : IntKind.u64.wrap ((2 : Int) ^ r) = (p : Int) := by rw [h2p]; exact IntWalk.u64_in _ (by omega)
        have hsum : IntKind.u64.wrap ((x : Int) + p) = ((x + p : Nat) : Int) := by rw [IntWalk.u64_in _ (by omega)]; simp
        have hqk : (qq : Int) < K := by omega
        have hq0 : (0 : Int) ≤ qq := by omega
        clear h2p
        go_upto_region 6 with fail
        refine wp_quiet_tail 11 (by kernel_rfl) (by kernel_rfl) ?_
        simp only [List.take_succ_cons, List.take_zero, List.drop_succ_cons, List.drop_zero]
        repeat (any_goals (first | go_big_quiet_step (fail) | quiet_step (fail)))
        refine wpQuiet_nil ?_
        rintro wz ⟨q, hq⟩
        have hsz : Same wr wz := by rw [hq]; exact more_same _ q
        have hfz := Own.free (Own.frm HOD.out hsz (fun _ _ => id)) qq
        have hcz := (hsz.cell (p := ⟨D, qq, none⟩) hDl id).trans hcD
        have HSZ := Lib.hid ((HS.out.trans hsz (fun _ _ h => h)).setNew (g := D) qq (.int .u64 ((x + p : Nat) : Int)) hwD)
        have HBRz := Lib.hid ((HBRw.out.frm hsz id).far (p := ⟨D, qq, none⟩) hnRD (.int .u64 ((x + p : Nat) : Int)))
        have HBTz := Lib.hid ((HBTw.out.frm hsz id).far (p := ⟨D, qq, none⟩) (Ne.symm hnDT) (.int .u64 ((x + p : Nat) : Int)))
        have HOZ := Lib.hid (HST.out wz hsz)
        have hDz : D < wz.heap.size := by have := hsz.size; omega
        clear hq hsz hcD hDl hcT hTl hcq hbl hm64 hn1 hn2 hsw hsw2
        go_wp2
        go_roundw
        case rel => exact ⟨k + 1, by omega, by go_num, HSZ.out, HBRz.out, HBTz.out, HOZ.out⟩
        case measure => simp [intOf]; omega
      | false =>
        have hsm := HSAME.out k hv
        have HS := Lib.hid hs
        have HBRw := Lib.hid hBR
        have HBTw := Lib.hid hBT
        rw [← hsm] at hOD
        have HOD := Lib.hid hOD
        clear hs hBR hBT hOD hv hsm
        go_wp2
        go_roundw
        case rel => exact ⟨k + 1, by omega, by go_num, HS.out, HBRw.out, HBTw.out, HOD.out⟩
        case measure => simp [intOf]; omega
    · obtain rfl : k = M := by omega
      rw [HFULL.out] at hOD
      have HS := Lib.hid hs
      have HBR := Lib.hid hBR
      have HBT := Lib.hid hBT
      have HOD := Lib.hid hOD
      have hcT0 : wr.cell? ⟨T, 0, none⟩ = some (.int .i64 n) := hBT.cell 0
      have hcT : wr.cell? ⟨T, 1, none⟩ = some (.slice (some ⟨D, 0, none⟩) K K) := hBT.cell 1
      have hTl := hBT.lt
      have hRl := hBR.lt
      have hfR0 := hBR.free 0
      have hfR1 := hBR.free 1
      have hcR0 : wr.cell? ⟨w.heap.size, 0, none⟩ = some (.int .i64 0) := hBR.cell 0
      have hcR1 : wr.cell? ⟨w.heap.size, 1, none⟩ = some (.slice none 0 0) := hBR.cell 1
      clear hs hBR hBT hOD
      go_wp2
      refine wp_post fun we hwe => ?_
      have hBE : Blk we w.heap.size 24 #[.int .i64 n, .slice (some ⟨D, 0, none⟩) K K] := by
        rw [hwe]
        have := (HBR.out.set 0 (.int .i64 n)).set 1 (.slice (some ⟨D, 0, none⟩) K K)
        simpa using this
      have hOE : OwnW we (some ⟨D, 0, none⟩) K K W := by
        rw [hwe]
        exact (Own.far (p := ⟨w.heap.size, 0, none⟩) HOD.out (fun a ha h => by injection ha with ha; subst ha; exact hnRD h.symm) _).far (p := ⟨w.heap.size, 1, none⟩) (fun a ha h => by injection ha with ha; subst ha; exact hnRD h.symm) _
      have hSE : Same w we := by rw [hwe]; exact (HS.out.setNew 0 _ (Nat.le_refl _)).setNew 1 _ (Nat.le_refl _)
      have hc0 : we.cell? ⟨w.heap.size, 0, none⟩ = some (.int .i64 n) := hBE.cell 0
      have hc1 : we.cell? ⟨w.heap.size, 1, none⟩ = some (.slice (some ⟨D, 0, none⟩) K K) := hBE.cell 1
      clear hwe hBE
      refine bodyPost_ret (v := .agg #[.int .i64 n, .slice (some ⟨D, 0, none⟩) K K]) (by simp [results, Try.results56, go_sem, hc0, hc1]) rfl ?_
      refine ⟨some ⟨D, 0, none⟩, K, by rw [HWL.out], ?_, fresh_some hwD, hSE⟩
      rw [HWL.out]
      exact hOE
end Go.Proofs.Ytlggmoghgoeiiaa
