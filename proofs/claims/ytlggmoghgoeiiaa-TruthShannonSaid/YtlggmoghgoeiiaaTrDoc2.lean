/- Truth tables: the reference's DocConst, DocVar. -/
import Derived.Test.YtlggmoghgoeiiaaTrPoints
namespace Go.Proofs.Ytlggmoghgoeiiaa
open Go.RowKit Go.Tk

set_option maxRecDepth 100000 in
set_option maxHeartbeats 8000000 in
theorem docConst_any (N : Int) (b : Bool) (w : World) : Calls Try.prog 26 #[.int .i64 N, .bool b] w (RetA w N (tab N.toNat (fun _ => b)) (cntE N)) := by
  have hct := fun w => rcount_any N w
  obtain ⟨c, hc⟩ : ∃ c, cntE N = c := ⟨_, rfl⟩
  rw [hc] at hct ⊢
  have HCT := Lib.hid hct
  clear hct
  by_cases h0 : ¬ c = 0
  · have h0' : (c != 0) = true := by simpa using h0
    unfold RetA
    rw [show ansN N c = 0 by unfold ansN; rw [if_neg h0], show ansL (tab N.toNat (fun _ => b)) c = [] by unfold ansL; rw [if_neg h0]]
    clear hc h0
    go_enter Try.func26, Try.ntmps26
    go_upto_region 1 with fail
    refine wp_world fun w1 hw1 => ?_
    have hs1 : Same w w1 := by rw [hw1]; exact (Frm.refl _ _).alloc _
    have hBR : Blk w1 w.heap.size 24 #[.int .i64 0, .slice none 0 0] := by rw [hw1]; exact Blk.new _ _ _
    clear hw1
    obtain ⟨R, hR⟩ : ∃ b, w.heap.size = b := ⟨_, rfl⟩
    rw [hR] at hBR ⊢
    have leR : w.heap.size ≤ R := by omega
    clear hR
    have cR0 : w1.cell? ⟨R, 0, none⟩ = some (.int .i64 0) := hBR.cell 0
    have cR1 : w1.cell? ⟨R, 1, none⟩ = some (.slice none 0 0) := hBR.cell 1
    have lR := hBR.lt
    have fR0 := hBR.free 0
    have fR1 := hBR.free 1
    have HBR := Lib.hid hBR
    have HS1 := Lib.hid hs1
    clear hs1 hBR
    go_wp2_with (fail)
    refine (HCT.out w1).mono ?_
    rintro e w2 ⟨rfl, rfl⟩
    go_wp2
    refine wp_post fun we hwe => ?_
    have hBE : Blk we R 24 #[.int .i64 0, .slice none 0 0] := by
      rw [hwe]
      have := (HBR.out.set 0 (.int .i64 0)).set 1 (.slice none 0 0)
      simpa using this
    have hSE : Same w we := by rw [hwe]; exact (HS1.out.setNew 0 _ leR).setNew 1 _ leR
    have hr0 : we.cell? ⟨R, 0, none⟩ = some (.int .i64 0) := hBE.cell 0
    have hr1 : we.cell? ⟨R, 1, none⟩ = some (.slice none 0 0) := hBE.cell 1
    clear hwe hBE
    refine bodyPost_ret (v := .tuple #[.agg #[.int .i64 0, .slice none 0 0], .int .i64 c]) (by simp [results, Try.results26, go_sem, hr0, hr1]) rfl ?_
    exact ⟨none, 0, rfl, NewT.nil hSE⟩
  replace h0 : c = 0 := by omega
  subst h0
  obtain ⟨hn0, hn16⟩ := cntE_ok hc
  obtain ⟨n, rfl⟩ := Int.eq_ofNat_of_zero_le hn0
  have hn : n ≤ 16 := by omega
  unfold RetA
  rw [show ansN n 0 = n from rfl, show ansL (tab (n : Int).toNat (fun _ => b)) 0 = tab n (fun _ => b) from rfl]
  clear hc hn0 hn16
  have hp16 := pow_le16 hn
  have hMp0 : 0 < 2 ^ n := Nat.pow_pos (by omega)
  have hsw := pow_lt_shift hn
  have hsw2 := pow_lt_shift2 hn
  have hn0 : (0 : Int) ≤ n := by omega
  have hmn : min n 64 = n := by omega
  obtain ⟨M, hM⟩ : ∃ M, 2 ^ n = M := ⟨_, rfl⟩
  have hMp : 0 < M := by omega
  rw [hM] at hp16 hsw hsw2
  have HM := Lib.hid hM
  clear hM hMp0
  obtain ⟨G, hG⟩ : ∃ G, (fun _ : Nat => b) = G := ⟨_, rfl⟩
  rw [hG]
  have HG := Lib.hid hG
  clear hG
  go_enter Try.func26, Try.ntmps26
  go_upto_region 1 with fail
  refine wp_world fun w1 hw1 => ?_
  have hs1 : Same w w1 := by rw [hw1]; exact (Frm.refl _ _).alloc _
  have hBR : Blk w1 w.heap.size 24 #[.int .i64 0, .slice none 0 0] := by rw [hw1]; exact Blk.new _ _ _
  clear hw1
  obtain ⟨R, hR⟩ : ∃ b, w.heap.size = b := ⟨_, rfl⟩
  rw [hR] at hBR ⊢
  have leR : w.heap.size ≤ R := by omega
  clear hR
  have cR0 : w1.cell? ⟨R, 0, none⟩ = some (.int .i64 0) := hBR.cell 0
  have cR1 : w1.cell? ⟨R, 1, none⟩ = some (.slice none 0 0) := hBR.cell 1
  have lR := hBR.lt
  have fR0 := hBR.free 0
  have fR1 := hBR.free 1
  have HBR := Lib.hid hBR
  have HS1 := Lib.hid hs1
  clear hs1 hBR
  go_wp2_with (fail)
  refine (HCT.out w1).mono ?_
  rintro e w2 ⟨rfl, rfl⟩
  have hmk := fun w => run_make_n (P := Try.prog) Try.underlying26 info_bool .i64 .i64 M (show 1 * M ≤ 281474976710656 by omega) (show M ≤ 9223372036854775807 by omega) w
  go_upto_region 5 with fail
  refine wp_world fun w5 hw5 => ?_
  have hsv : Same w1 w5 := by rw [hw5]; exact (Frm.refl _ _).alloc _
  have hOD : OwnB w5 (some ⟨w1.heap.size, 0, none⟩) M M (vals M (mixF G (fun _ => false) 0)) := by
    rw [vals_zero, vals_false, hw5]
    have := Own.ofMade (m := 1) w1 4 (fun b : Bool => [.bool b]) (fun _ => rfl) (by decide) false M (show M ≤ 9223372036854775807 by omega) rfl
    simpa using this
  clear hw5 hmk
  obtain ⟨D, hD⟩ : ∃ D, w1.heap.size = D := ⟨_, rfl⟩
  rw [hD] at hOD ⊢
  have hneRD : R ≠ D := by have := HBR.out.lt; omega
  have hDn : w.heap.size ≤ D := by have := HS1.out.size; omega
  have HOD := Lib.hid hOD
  have hDl5 : D < w5.heap.size := by
    obtain ⟨h, _⟩ := OwnB.cell hOD hMp
    exact h
  clear hD hOD
  replace HBR := Lib.hid (HBR.out.frm hsv id)
  replace cR0 : w5.cell? ⟨R, 0, none⟩ = some (.int .i64 0) := HBR.out.cell 0
  replace cR1 : w5.cell? ⟨R, 1, none⟩ = some (.slice none 0 0) := HBR.out.cell 1
  replace lR := HBR.out.lt
  replace fR0 := HBR.out.free 0
  replace fR1 := HBR.out.free 1
  replace HS1 := Lib.hid (HS1.out.trans hsv (fun _ _ h => h))
  clear hsv
  go_wp2
  go_loopw [20] (fun i wr => ∃ k : Nat, k ≤ M ∧ i = .int .i64 k ∧ Same w wr ∧ Blk wr R 24 #[.int .i64 0, .slice none 0 0] ∧ OwnB wr (some ⟨D, 0, none⟩) M M (vals M (mixF G (fun _ => false) k))) (fun i _ => M - (intOf i).toNat)
  case atStart => exact ⟨0, by omega, rfl, HS1.out, HBR.out, HOD.out⟩
  case round =>
    obtain ⟨k, hk, rfl, hs, hBR, hOD⟩ := hrel
    have HSr := Lib.hid hs
    have HBrR := Lib.hid hBR
    by_cases hlt : k < M
    · have hk0 : (0 : Int) ≤ k := by omega
      have hk1 : (k : Int) < M := by omega
      have HST := Lib.hid (OwnB.put hOD hlt)
      obtain ⟨hDl, hDc⟩ := OwnB.cell hOD hlt
      have hDf := Own.free hOD k
      have hGk : b = G k := by rw [← HG.out]
      rw [← hGk] at HST
      clear hs hBR hOD hGk
      go_wp2
      go_roundw
      case rel => exact ⟨k + 1, by omega, by go_num, HSr.out.setNew k _ hDn, HBrR.out.far (p := ⟨D, k, none⟩) hneRD _, HST.out⟩
      case measure => simp [intOf]; omega
    · obtain rfl : k = M := by omega
      rw [vals_full] at hOD
      have HODr := Lib.hid hOD
      have cR0 : wr.cell? ⟨R, 0, none⟩ = some (.int .i64 0) := hBR.cell 0
      have fR0 := hBR.free 0
      have cR1 : wr.cell? ⟨R, 1, none⟩ = some (.slice none 0 0) := hBR.cell 1
      have fR1 := hBR.free 1
      have lR := hBR.lt
      clear hs  hBR  hOD
      go_wp2_with (fail)
      rw [← HM.out] at HODr ⊢
      refine (rof_any n _ (some ⟨D, 0, none⟩) G wr hn (Own.sl (fun _ => rfl) HODr.out)).mono ?_
      rintro e w8 ⟨Aq, Cq, rfl, hNT⟩
      have hoq := hNT.1
      have hfq := hNT.2.1
      have hsq := hNT.2.2
      have hRq : ∀ a, Aq = some a → a.block ≠ R := fun a ha h => by
        have := hfq a.block ⟨a, ha, rfl⟩
        omega
      have HBRq := Lib.hid (HBrR.out.frm hsq id)
      have HSq := Lib.hid (HSr.out.trans hsq (fun _ _ h => h))
      have hfq' : Fresh w.heap.size Aq := fun b hb => by have := hfq b hb; have := HSr.out.size; omega
      have HOQ := Lib.hid hoq
      have HFQ := Lib.hid hfq'
      have hcR0 : w8.cell? ⟨R, 0, none⟩ = some (.int .i64 0) := HBRq.out.cell 0
      have hcR1 : w8.cell? ⟨R, 1, none⟩ = some (.slice none 0 0) := HBRq.out.cell 1
      have hfR0 := HBRq.out.free 0
      have hfR1 := HBRq.out.free 1
      have hlR := HBRq.out.lt
      clear hNT hoq hfq hsq hfq'
      go_wp2
      refine wp_post fun we hwe => ?_
      have hBE : Blk we R 24 #[.int .i64 n, .slice Aq (tab n G).length Cq] := by
        rw [hwe]
        have := (HBRq.out.set 0 (.int .i64 n)).set 1 (.slice Aq (tab n G).length Cq)
        simpa using this
      have hSE : Same w we := by rw [hwe]; exact (HSq.out.setNew 0 _ leR).setNew 1 _ leR
      have hOE : OwnW we Aq (tab n G).length Cq (tab n G) := by
        rw [hwe]
        exact (Own.far (p := ⟨R, 0, none⟩) HOQ.out hRq _).far (p := ⟨R, 1, none⟩) hRq _
      have hr0 : we.cell? ⟨R, 0, none⟩ = some (.int .i64 n) := hBE.cell 0
      have hr1 : we.cell? ⟨R, 1, none⟩ = some (.slice Aq (tab n G).length Cq) := hBE.cell 1
      clear hwe hBE
      refine bodyPost_ret (v := .tuple #[.agg #[.int .i64 n, .slice Aq (tab n G).length Cq], .int .i64 0]) (by simp [results, Try.results26, go_sem, hr0, hr1]) rfl ?_
      exact ⟨Aq, Cq, rfl, hOE, HFQ.out, hSE⟩
set_option maxRecDepth 100000 in
set_option maxHeartbeats 8000000 in
theorem docVar_any (N v : Int) (w : World) : Calls Try.prog 28 #[.int .i64 N, .int .i64 v] w (RetA w N (tab N.toNat (varF v.toNat)) (varE N v)) := by
  have hct := fun w => rcount_any N w
  obtain ⟨c, hc⟩ : ∃ c, cntE N = c := ⟨_, rfl⟩
  rw [hc] at hct
  have HCT := Lib.hid hct
  clear hct
  by_cases h0 : ¬ c = 0
  · have he : varE N v = c := by unfold varE; rw [hc, if_pos h0]
    have h0' : (c != 0) = true := by simpa using h0
    unfold RetA
    rw [he, show ansN N c = 0 by unfold ansN; rw [if_neg h0], show ansL (tab N.toNat (varF v.toNat)) c = [] by unfold ansL; rw [if_neg h0]]
    clear he hc h0
    go_enter Try.func28, Try.ntmps28
    go_upto_region 1 with fail
    refine wp_world fun w1 hw1 => ?_
    have hs1 : Same w w1 := by rw [hw1]; exact (Frm.refl _ _).alloc _
    have hBR : Blk w1 w.heap.size 24 #[.int .i64 0, .slice none 0 0] := by rw [hw1]; exact Blk.new _ _ _
    clear hw1
    obtain ⟨R, hR⟩ : ∃ b, w.heap.size = b := ⟨_, rfl⟩
    rw [hR] at hBR ⊢
    have leR : w.heap.size ≤ R := by omega
    clear hR
    have cR0 : w1.cell? ⟨R, 0, none⟩ = some (.int .i64 0) := hBR.cell 0
    have cR1 : w1.cell? ⟨R, 1, none⟩ = some (.slice none 0 0) := hBR.cell 1
    have lR := hBR.lt
    have fR0 := hBR.free 0
    have fR1 := hBR.free 1
    have HBR := Lib.hid hBR
    have HS1 := Lib.hid hs1
    clear hs1 hBR
    go_wp2_with (fail)
    refine (HCT.out w1).mono ?_
    rintro e w2 ⟨rfl, rfl⟩
    go_wp2
    refine wp_post fun we hwe => ?_
    have hBE : Blk we R 24 #[.int .i64 0, .slice none 0 0] := by
      rw [hwe]
      have := (HBR.out.set 0 (.int .i64 0)).set 1 (.slice none 0 0)
      simpa using this
    have hSE : Same w we := by rw [hwe]; exact (HS1.out.setNew 0 _ leR).setNew 1 _ leR
    have hr0 : we.cell? ⟨R, 0, none⟩ = some (.int .i64 0) := hBE.cell 0
    have hr1 : we.cell? ⟨R, 1, none⟩ = some (.slice none 0 0) := hBE.cell 1
    clear hwe hBE
    refine bodyPost_ret (v := .tuple #[.agg #[.int .i64 0, .slice none 0 0], .int .i64 c]) (by simp [results, Try.results28, go_sem, hr0, hr1]) rfl ?_
    exact ⟨none, 0, rfl, NewT.nil hSE⟩
  replace h0 : c = 0 := by omega
  subst h0
  obtain ⟨hn0, hn16⟩ := cntE_ok hc
  obtain ⟨n, rfl⟩ := Int.eq_ofNat_of_zero_le hn0
  have hn : n ≤ 16 := by omega
  clear hn0 hn16
  by_cases h1 : v < 0 ∨ (n : Int) ≤ v
  · have he : varE n v = 2 := by unfold varE; rw [hc, if_neg (by simp), if_pos h1]
    unfold RetA
    rw [he, show ansN n 2 = 0 from rfl, show ansL (tab (n : Int).toNat (varF v.toNat)) 2 = [] from rfl]
    clear he hc
    by_cases h2 : v < 0
    · clear h1
      go_enter Try.func28, Try.ntmps28
      go_upto_region 1 with fail
      refine wp_world fun w1 hw1 => ?_
      have hs1 : Same w w1 := by rw [hw1]; exact (Frm.refl _ _).alloc _
      have hBR : Blk w1 w.heap.size 24 #[.int .i64 0, .slice none 0 0] := by rw [hw1]; exact Blk.new _ _ _
      clear hw1
      obtain ⟨R, hR⟩ : ∃ b, w.heap.size = b := ⟨_, rfl⟩
      rw [hR] at hBR ⊢
      have leR : w.heap.size ≤ R := by omega
      clear hR
      have cR0 : w1.cell? ⟨R, 0, none⟩ = some (.int .i64 0) := hBR.cell 0
      have cR1 : w1.cell? ⟨R, 1, none⟩ = some (.slice none 0 0) := hBR.cell 1
      have lR := hBR.lt
      have fR0 := hBR.free 0
      have fR1 := hBR.free 1
      have HBR := Lib.hid hBR
      have HS1 := Lib.hid hs1
      clear hs1 hBR
      go_wp2_with (fail)
      refine (HCT.out w1).mono ?_
      rintro e w2 ⟨rfl, rfl⟩
      go_wp2
      refine wp_post fun we hwe => ?_
      have hBE : Blk we R 24 #[.int .i64 0, .slice none 0 0] := by
        rw [hwe]
        have := (HBR.out.set 0 (.int .i64 0)).set 1 (.slice none 0 0)
        simpa using this
      have hSE : Same w we := by rw [hwe]; exact (HS1.out.setNew 0 _ leR).setNew 1 _ leR
      have hr0 : we.cell? ⟨R, 0, none⟩ = some (.int .i64 0) := hBE.cell 0
      have hr1 : we.cell? ⟨R, 1, none⟩ = some (.slice none 0 0) := hBE.cell 1
      clear hwe hBE
      refine bodyPost_ret (v := .tuple #[.agg #[.int .i64 0, .slice none 0 0], .int .i64 2]) (by simp [results, Try.results28, go_sem, hr0, hr1]) rfl ?_
      exact ⟨none, 0, rfl, NewT.nil hSE⟩
    · have h3 : v ≥ (n : Int) := by omega
      clear h1
      go_enter Try.func28, Try.ntmps28
      go_upto_region 1 with fail
      refine wp_world fun w1 hw1 => ?_
      have hs1 : Same w w1 := by rw [hw1]; exact (Frm.refl _ _).alloc _
      have hBR : Blk w1 w.heap.size 24 #[.int .i64 0, .slice none 0 0] := by rw [hw1]; exact Blk.new _ _ _
      clear hw1
      obtain ⟨R, hR⟩ : ∃ b, w.heap.size = b := ⟨_, rfl⟩
      rw [hR] at hBR ⊢
      have leR : w.heap.size ≤ R := by omega
      clear hR
      have cR0 : w1.cell? ⟨R, 0, none⟩ = some (.int .i64 0) := hBR.cell 0
      have cR1 : w1.cell? ⟨R, 1, none⟩ = some (.slice none 0 0) := hBR.cell 1
      have lR := hBR.lt
      have fR0 := hBR.free 0
      have fR1 := hBR.free 1
      have HBR := Lib.hid hBR
      have HS1 := Lib.hid hs1
      clear hs1 hBR
      go_wp2_with (fail)
      refine (HCT.out w1).mono ?_
      rintro e w2 ⟨rfl, rfl⟩
      go_wp2
      refine wp_post fun we hwe => ?_
      have hBE : Blk we R 24 #[.int .i64 0, .slice none 0 0] := by
        rw [hwe]
        have := (HBR.out.set 0 (.int .i64 0)).set 1 (.slice none 0 0)
        simpa using this
      have hSE : Same w we := by rw [hwe]; exact (HS1.out.setNew 0 _ leR).setNew 1 _ leR
      have hr0 : we.cell? ⟨R, 0, none⟩ = some (.int .i64 0) := hBE.cell 0
      have hr1 : we.cell? ⟨R, 1, none⟩ = some (.slice none 0 0) := hBE.cell 1
      clear hwe hBE
      refine bodyPost_ret (v := .tuple #[.agg #[.int .i64 0, .slice none 0 0], .int .i64 2]) (by simp [results, Try.results28, go_sem, hr0, hr1]) rfl ?_
      exact ⟨none, 0, rfl, NewT.nil hSE⟩
  · obtain ⟨V, rfl⟩ : ∃ V : Nat, v = V := ⟨v.toNat, by omega⟩
    have hV : V < n := by omega
    have h2 : ¬ (V : Int) < 0 := by omega
    have h3 : ¬ (V : Int) ≥ n := by omega
    have h3n : ¬ n ≤ V := by omega
    have he : varE n V = 0 := by unfold varE; rw [hc, if_neg (by simp), if_neg h1]
    unfold RetA
    rw [he, show ansN n 0 = n from rfl, show ansL (tab (n : Int).toNat (varF (V : Int).toNat)) 0 = tab n (varF V) from rfl]
    clear he hc h1
    have hp16 := pow_le16 hn
    have hMp0 : 0 < 2 ^ n := Nat.pow_pos (by omega)
    have hsw := pow_lt_shift hn
    have hsw2 := pow_lt_shift2 hn
    have hn0 : (0 : Int) ≤ n := by omega
    have hmn : min n 64 = n := by omega
    obtain ⟨M, hM⟩ : ∃ M, 2 ^ n = M := ⟨_, rfl⟩
    have hMp : 0 < M := by omega
    rw [hM] at hp16 hsw hsw2
    have HM := Lib.hid hM
    clear hM hMp0
    obtain ⟨G, hG⟩ : ∃ G, varF V = G := ⟨_, rfl⟩
    rw [hG]
    have HG := Lib.hid hG
    clear hG
    go_enter Try.func28, Try.ntmps28
    go_upto_region 1 with fail
    refine wp_world fun w1 hw1 => ?_
    have hs1 : Same w w1 := by rw [hw1]; exact (Frm.refl _ _).alloc _
    have hBR : Blk w1 w.heap.size 24 #[.int .i64 0, .slice none 0 0] := by rw [hw1]; exact Blk.new _ _ _
    clear hw1
    obtain ⟨R, hR⟩ : ∃ b, w.heap.size = b := ⟨_, rfl⟩
    rw [hR] at hBR ⊢
    have leR : w.heap.size ≤ R := by omega
    clear hR
    have cR0 : w1.cell? ⟨R, 0, none⟩ = some (.int .i64 0) := hBR.cell 0
    have cR1 : w1.cell? ⟨R, 1, none⟩ = some (.slice none 0 0) := hBR.cell 1
    have lR := hBR.lt
    have fR0 := hBR.free 0
    have fR1 := hBR.free 1
    have HBR := Lib.hid hBR
    have HS1 := Lib.hid hs1
    clear hs1 hBR
    go_wp2_with (fail)
    refine (HCT.out w1).mono ?_
    rintro e w2 ⟨rfl, rfl⟩
    have hmk := fun w => run_make_n (P := Try.prog) Try.underlying26 info_bool .i64 .i64 M (show 1 * M ≤ 281474976710656 by omega) (show M ≤ 9223372036854775807 by omega) w
    go_upto_region 7 with fail
    refine wp_world fun w5 hw5 => ?_
    have hsv : Same w1 w5 := by rw [hw5]; exact (Frm.refl _ _).alloc _
    have hOD : OwnB w5 (some ⟨w1.heap.size, 0, none⟩) M M (vals M (mixF G (fun _ => false) 0)) := by
      rw [vals_zero, vals_false, hw5]
      have := Own.ofMade (m := 1) w1 4 (fun b : Bool => [.bool b]) (fun _ => rfl) (by decide) false M (show M ≤ 9223372036854775807 by omega) rfl
      simpa using this
    clear hw5 hmk
    obtain ⟨D, hD⟩ : ∃ D, w1.heap.size = D := ⟨_, rfl⟩
    rw [hD] at hOD ⊢
    have hneRD : R ≠ D := by have := HBR.out.lt; omega
    have hDn : w.heap.size ≤ D := by have := HS1.out.size; omega
    have HOD := Lib.hid hOD
    have hDl5 : D < w5.heap.size := by
      obtain ⟨h, _⟩ := OwnB.cell hOD hMp
      exact h
    clear hD hOD
    replace HBR := Lib.hid (HBR.out.frm hsv id)
    replace cR0 : w5.cell? ⟨R, 0, none⟩ = some (.int .i64 0) := HBR.out.cell 0
    replace cR1 : w5.cell? ⟨R, 1, none⟩ = some (.slice none 0 0) := HBR.out.cell 1
    replace lR := HBR.out.lt
    replace fR0 := HBR.out.free 0
    replace fR1 := HBR.out.free 1
    replace HS1 := Lib.hid (HS1.out.trans hsv (fun _ _ h => h))
    clear hsv
    go_wp2
    go_loopw [28] (fun i wr => ∃ k : Nat, k ≤ M ∧ i = .int .i64 k ∧ Same w wr ∧ Blk wr R 24 #[.int .i64 0, .slice none 0 0] ∧ OwnB wr (some ⟨D, 0, none⟩) M M (vals M (mixF G (fun _ => false) k))) (fun i _ => M - (intOf i).toNat)
    case atStart => exact ⟨0, by omega, rfl, HS1.out, HBR.out, HOD.out⟩
    case round =>
      obtain ⟨k, hk, rfl, hs, hBR, hOD⟩ := hrel
      have HSr := Lib.hid hs
      have HBrR := Lib.hid hBR
      by_cases hlt : k < M
      · have hk0 : (0 : Int) ≤ k := by omega
        have hk1 : (k : Int) < M := by omega
        have HST := Lib.hid (OwnB.put hOD hlt)
        obtain ⟨hDl, hDc⟩ := OwnB.cell hOD hlt
        have hDf := Own.free hOD k
        have hbi : ∀ w', Calls Try.prog 68 #[.int .i64 k, .int .i64 V] w' fun e w'' => e = .returned (.bool (G k)) ∧ w' = w'' := fun w' => by
          rw [← HG.out]
          exact bit_any k V w' (by omega)
        have HBI := Lib.hid hbi
        clear hs hBR hOD hbi
        generalize G k = g at *
        go_wp2_with (fail)
        refine (HBI.out wr).mono ?_
        rintro e w6 ⟨rfl, rfl⟩
        go_wp2
        go_roundw
        case rel => exact ⟨k + 1, by omega, by go_num, HSr.out.setNew k _ hDn, HBrR.out.far (p := ⟨D, k, none⟩) hneRD _, HST.out⟩
        case measure => simp [intOf]; omega
      · obtain rfl : k = M := by omega
        rw [vals_full] at hOD
        have HODr := Lib.hid hOD
        have cR0 : wr.cell? ⟨R, 0, none⟩ = some (.int .i64 0) := hBR.cell 0
        have fR0 := hBR.free 0
        have cR1 : wr.cell? ⟨R, 1, none⟩ = some (.slice none 0 0) := hBR.cell 1
        have fR1 := hBR.free 1
        have lR := hBR.lt
        clear hs  hBR  hOD
        go_wp2_with (fail)
        rw [← HM.out] at HODr ⊢
        refine (rof_any n _ (some ⟨D, 0, none⟩) G wr hn (Own.sl (fun _ => rfl) HODr.out)).mono ?_
        rintro e w8 ⟨Aq, Cq, rfl, hNT⟩
        have hoq := hNT.1
        have hfq := hNT.2.1
        have hsq := hNT.2.2
        have hRq : ∀ a, Aq = some a → a.block ≠ R := fun a ha h => by
          have := hfq a.block ⟨a, ha, rfl⟩
          omega
        have HBRq := Lib.hid (HBrR.out.frm hsq id)
        have HSq := Lib.hid (HSr.out.trans hsq (fun _ _ h => h))
        have hfq' : Fresh w.heap.size Aq := fun b hb => by have := hfq b hb; have := HSr.out.size; omega
        have HOQ := Lib.hid hoq
        have HFQ := Lib.hid hfq'
        have hcR0 : w8.cell? ⟨R, 0, none⟩ = some (.int .i64 0) := HBRq.out.cell 0
        have hcR1 : w8.cell? ⟨R, 1, none⟩ = some (.slice none 0 0) := HBRq.out.cell 1
        have hfR0 := HBRq.out.free 0
        have hfR1 := HBRq.out.free 1
        have hlR := HBRq.out.lt
        clear hNT hoq hfq hsq hfq'
        go_wp2
        refine wp_post fun we hwe => ?_
        have hBE : Blk we R 24 #[.int .i64 n, .slice Aq (tab n G).length Cq] := by
          rw [hwe]
          have := (HBRq.out.set 0 (.int .i64 n)).set 1 (.slice Aq (tab n G).length Cq)
          simpa using this
        have hSE : Same w we := by rw [hwe]; exact (HSq.out.setNew 0 _ leR).setNew 1 _ leR
        have hOE : OwnW we Aq (tab n G).length Cq (tab n G) := by
          rw [hwe]
          exact (Own.far (p := ⟨R, 0, none⟩) HOQ.out hRq _).far (p := ⟨R, 1, none⟩) hRq _
        have hr0 : we.cell? ⟨R, 0, none⟩ = some (.int .i64 n) := hBE.cell 0
        have hr1 : we.cell? ⟨R, 1, none⟩ = some (.slice Aq (tab n G).length Cq) := hBE.cell 1
        clear hwe hBE
        refine bodyPost_ret (v := .tuple #[.agg #[.int .i64 n, .slice Aq (tab n G).length Cq], .int .i64 0]) (by simp [results, Try.results28, go_sem, hr0, hr1]) rfl ?_
        exact ⟨Aq, Cq, rfl, hOE, HFQ.out, hSE⟩
end Go.Proofs.Ytlggmoghgoeiiaa
