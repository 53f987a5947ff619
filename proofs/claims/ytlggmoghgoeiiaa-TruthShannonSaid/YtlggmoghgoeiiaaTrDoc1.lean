/- Truth tables: the reference's DocCofactor, DocExists. -/
import Derived.Test.YtlggmoghgoeiiaaTrSame
namespace Go.Proofs.Ytlggmoghgoeiiaa
open Go.RowKit Go.Tk

theorem OwnB.cell {w : World} {sb N C M i : Nat} {F : Nat → Bool} (h : OwnB w (some ⟨sb, 0, none⟩) N C (vals M F)) (hi : i < M) : sb < w.heap.size ∧ w.cell? ⟨sb, i, none⟩ = some (.bool (F i)) := by
  obtain ⟨sb', h1, h2, h3⟩ := Own.at1 (c := fun b : Bool => .bool b) h (vals_get hi)
  injection h1 with h1
  injection h1 with h1
  subst h1
  exact ⟨h2, h3⟩
theorem OwnB.put {w : World} {sb N C M k : Nat} {G Z : Nat → Bool} (h : OwnB w (some ⟨sb, 0, none⟩) N C (vals M (mixF G Z k))) (hk : k < M) : OwnB (w.setCell ⟨sb, k, none⟩ (.bool (G k))) (some ⟨sb, 0, none⟩) N C (vals M (mixF G Z (k + 1))) := by
  rw [← vals_set hk]
  exact Own.put1 (c := fun b : Bool => .bool b) h (by rw [vals_len]; exact hk) (G k)
set_option maxRecDepth 100000 in
set_option maxHeartbeats 8000000 in
theorem docCofactor_any (Na : Int) (Aa : Option Addr) (Ca : Nat) (wsa : List Nat) (v : Int) (b : Bool) (w : World) (h : TbOk w ⟨Na, Aa, Ca, wsa⟩) : Calls Try.prog 16 #[.agg #[.int .i64 Na, .slice Aa wsa.length Ca], .int .i64 v, .bool b] w (RetA w Na (tab Na.toNat (hfF v.toNat b wsa)) (ofE Na v wsa)) := by
  have H := Lib.hid h
  clear h
  have hof := fun (w : World) (h : TbOk w ⟨Na, Aa, Ca, wsa⟩) => variable_any Na Aa Ca wsa v w h
  obtain ⟨c, hc⟩ : ∃ c, ofE Na v wsa = c := ⟨_, rfl⟩
  rw [hc] at hof ⊢
  have HOF := Lib.hid hof
  clear hof
  by_cases h0 : ¬ c = 0
  · have h0' : (c != 0) = true := by simpa using h0
    unfold RetA
    rw [show ansN Na c = 0 by unfold ansN; rw [if_neg h0], show ansL (tab Na.toNat (hfF v.toNat b wsa)) c = [] by unfold ansL; rw [if_neg h0]]
    clear hc h0
    go_enter Try.func16, Try.ntmps16
    go_upto_region 1 with fail
    refine wp_world fun w1 hw1 => ?_
    have hs1 : Same w w1 := by rw [hw1]; exact ((Frm.refl _ _).alloc _).alloc _
    have hBXa : Blk w1 (w.heap.size) 24 #[.int .i64 Na, .slice Aa wsa.length Ca] := by
      rw [hw1]
      have := ((Blk.new w 24 #[.int .i64 Na, .slice Aa wsa.length Ca]).alloc (.cells #[.int .i64 0, .slice none 0 0] 24))
      simpa using this
    have hBR : Blk w1 (w.heap.size + 1) 24 #[.int .i64 0, .slice none 0 0] := by
      rw [hw1]
      have := (Blk.new (w.alloc (.cells #[.int .i64 Na, .slice Aa wsa.length Ca] 24)) 24 #[.int .i64 0, .slice none 0 0])
      simpa using this
    clear hw1
    obtain ⟨R, hR⟩ : ∃ b, w.heap.size + 1 = b := ⟨_, rfl⟩
    rw [hR] at hBR ⊢
    have leR : w.heap.size ≤ R := by omega
    have neXaR : w.heap.size ≠ R := by omega
    clear hR
    have cXa0 : w1.cell? ⟨w.heap.size, 0, none⟩ = some (.int .i64 Na) := hBXa.cell 0
    have cXa1 : w1.cell? ⟨w.heap.size, 1, none⟩ = some (.slice Aa wsa.length Ca) := hBXa.cell 1
    have lXa := hBXa.lt
    have fXa0 := hBXa.free 0
    have fXa1 := hBXa.free 1
    have HBXa := Lib.hid hBXa
    have cR0 : w1.cell? ⟨R, 0, none⟩ = some (.int .i64 0) := hBR.cell 0
    have cR1 : w1.cell? ⟨R, 1, none⟩ = some (.slice none 0 0) := hBR.cell 1
    have lR := hBR.lt
    have fR0 := hBR.free 0
    have fR1 := hBR.free 1
    have HBR := Lib.hid hBR
    have HS1 := Lib.hid hs1
    clear hs1 hBXa hBR
    go_wp2_with (fail)
    refine (HOF.out w1 (H.out.same HS1.out)).mono ?_
    rintro e w3 ⟨rfl, hs13⟩
    replace HBXa := Lib.hid (HBXa.out.frm hs13 id)
    replace cXa0 : w3.cell? ⟨w.heap.size, 0, none⟩ = some (.int .i64 Na) := HBXa.out.cell 0
    replace cXa1 : w3.cell? ⟨w.heap.size, 1, none⟩ = some (.slice Aa wsa.length Ca) := HBXa.out.cell 1
    replace lXa := HBXa.out.lt
    replace fXa0 := HBXa.out.free 0
    replace fXa1 := HBXa.out.free 1
    replace HBR := Lib.hid (HBR.out.frm hs13 id)
    replace cR0 : w3.cell? ⟨R, 0, none⟩ = some (.int .i64 0) := HBR.out.cell 0
    replace cR1 : w3.cell? ⟨R, 1, none⟩ = some (.slice none 0 0) := HBR.out.cell 1
    replace lR := HBR.out.lt
    replace fR0 := HBR.out.free 0
    replace fR1 := HBR.out.free 1
    replace HS1 := Lib.hid (HS1.out.trans hs13 (fun _ _ h => h))
    clear hs13
    go_wp2
    refine wp_post fun we hwe => ?_
    have hBE : Blk we R 24 #[.int .i64 0, .slice none 0 0] := by
      rw [hwe]
      have := (HBR.out.set 0 (.int .i64 0)).set 1 (.slice none 0 0)
      simpa using this
    have hSE : Same w we := by rw [hwe]; exact (HS1.out.setNew 0 _ leR).setNew 1 _ leR
    have hr0 : we.cell? ⟨R, 0, none⟩ = some (.int .i64 0) := hBE.cell 0
    have hr1 : we.cell? ⟨R, 1, none⟩ = some (.slice none 0 0) := hBE.cell 1
    clear hwe hBE
    refine bodyPost_ret (v := .tuple #[.agg #[.int .i64 0, .slice none 0 0], .int .i64 c]) (by simp [results, Try.results16, go_sem, hr0, hr1]) rfl ?_
    exact ⟨none, 0, rfl, NewT.nil hSE⟩
  replace h0 : c = 0 := by omega
  subst h0
  obtain ⟨n, V, rfl, rfl, hf, hv⟩ := ofE_ok hc
  have hn := hf.n16
  unfold RetA
  rw [show ansN n 0 = n from rfl, show ansL (tab (n : Int).toNat (hfF (V : Int).toNat b wsa)) 0 = tab n (hfF V b wsa) from rfl]
  have HFa := Lib.hid hf
  have HV := Lib.hid hv
  have hp16 := pow_le16 hn
  have hMp0 : 0 < 2 ^ n := Nat.pow_pos (by omega)
  obtain ⟨M, hM⟩ : ∃ M, 2 ^ n = M := ⟨_, rfl⟩
  have hMp : 0 < M := by omega
  have hwl := fun (k : Nat) (b : Bool) (hk : k < 2 ^ n) => wth_lt (b := b) hk hv
  rw [hM] at hwl hp16
  have HWL := Lib.hid hwl
  have HM := Lib.hid hM
  have Ha := Lib.hid H.out
  have hV16 : V < 16 := by omega
  clear hc hf hv hwl hM hMp0
  obtain ⟨G, hG⟩ : ∃ G, hfF V b wsa = G := ⟨_, rfl⟩
  rw [hG]
  have HG := Lib.hid hG
  clear hG
  go_enter Try.func16, Try.ntmps16
  go_upto_region 1 with fail
  refine wp_world fun w1 hw1 => ?_
  have hs1 : Same w w1 := by rw [hw1]; exact ((Frm.refl _ _).alloc _).alloc _
  have hBXa : Blk w1 (w.heap.size) 24 #[.int .i64 n, .slice Aa wsa.length Ca] := by
    rw [hw1]
    have := ((Blk.new w 24 #[.int .i64 n, .slice Aa wsa.length Ca]).alloc (.cells #[.int .i64 0, .slice none 0 0] 24))
    simpa using this
  have hBR : Blk w1 (w.heap.size + 1) 24 #[.int .i64 0, .slice none 0 0] := by
    rw [hw1]
    have := (Blk.new (w.alloc (.cells #[.int .i64 n, .slice Aa wsa.length Ca] 24)) 24 #[.int .i64 0, .slice none 0 0])
    simpa using this
  clear hw1
  obtain ⟨R, hR⟩ : ∃ b, w.heap.size + 1 = b := ⟨_, rfl⟩
  rw [hR] at hBR ⊢
  have leR : w.heap.size ≤ R := by omega
  have neXaR : w.heap.size ≠ R := by omega
  clear hR
  have cXa0 : w1.cell? ⟨w.heap.size, 0, none⟩ = some (.int .i64 n) := hBXa.cell 0
  have cXa1 : w1.cell? ⟨w.heap.size, 1, none⟩ = some (.slice Aa wsa.length Ca) := hBXa.cell 1
  have lXa := hBXa.lt
  have fXa0 := hBXa.free 0
  have fXa1 := hBXa.free 1
  have HBXa := Lib.hid hBXa
  have cR0 : w1.cell? ⟨R, 0, none⟩ = some (.int .i64 0) := hBR.cell 0
  have cR1 : w1.cell? ⟨R, 1, none⟩ = some (.slice none 0 0) := hBR.cell 1
  have lR := hBR.lt
  have fR0 := hBR.free 0
  have fR1 := hBR.free 1
  have HBR := Lib.hid hBR
  have HS1 := Lib.hid hs1
  clear hs1 hBXa hBR
  go_wp2_with (fail)
  refine (HOF.out w1 (H.out.same HS1.out)).mono ?_
  rintro e w3 ⟨rfl, hs13⟩
  replace HBXa := Lib.hid (HBXa.out.frm hs13 id)
  replace cXa0 : w3.cell? ⟨w.heap.size, 0, none⟩ = some (.int .i64 n) := HBXa.out.cell 0
  replace cXa1 : w3.cell? ⟨w.heap.size, 1, none⟩ = some (.slice Aa wsa.length Ca) := HBXa.out.cell 1
  replace lXa := HBXa.out.lt
  replace fXa0 := HBXa.out.free 0
  replace fXa1 := HBXa.out.free 1
  replace HBR := Lib.hid (HBR.out.frm hs13 id)
  replace cR0 : w3.cell? ⟨R, 0, none⟩ = some (.int .i64 0) := HBR.out.cell 0
  replace cR1 : w3.cell? ⟨R, 1, none⟩ = some (.slice none 0 0) := HBR.out.cell 1
  replace lR := HBR.out.lt
  replace fR0 := HBR.out.free 0
  replace fR1 := HBR.out.free 1
  replace HS1 := Lib.hid (HS1.out.trans hs13 (fun _ _ h => h))
  clear hs13
  go_wp2_with (fail)
  refine (values_any n Ca Aa wsa w3 (Ha.out.same HS1.out) HFa.out).mono ?_
  rintro e w4 ⟨Al, CL, rfl, hNB⟩
  rw [HM.out] at hNB ⊢
  obtain ⟨L, rfl, hLl⟩ := Own.form1 hNB.1 (by rw [vals_len]; exact hMp)
  have hLn : w3.heap.size ≤ L := hNB.2.1 L ⟨_, rfl, rfl⟩
  have hsv := hNB.2.2
  have hOL := hNB.1
  rw [vals_len] at hOL
  have HOL := Lib.hid hOL
  clear hNB hOL
  have hneXL : w.heap.size ≠ L := by have := HBXa.out.lt; omega
  have hneRL : R ≠ L := by have := HBR.out.lt; omega
  replace HBXa := Lib.hid (HBXa.out.frm hsv id)
  replace cXa0 : w4.cell? ⟨w.heap.size, 0, none⟩ = some (.int .i64 n) := HBXa.out.cell 0
  replace cXa1 : w4.cell? ⟨w.heap.size, 1, none⟩ = some (.slice Aa wsa.length Ca) := HBXa.out.cell 1
  replace lXa := HBXa.out.lt
  replace fXa0 := HBXa.out.free 0
  replace fXa1 := HBXa.out.free 1
  replace HBR := Lib.hid (HBR.out.frm hsv id)
  replace cR0 : w4.cell? ⟨R, 0, none⟩ = some (.int .i64 0) := HBR.out.cell 0
  replace cR1 : w4.cell? ⟨R, 1, none⟩ = some (.slice none 0 0) := HBR.out.cell 1
  replace lR := HBR.out.lt
  replace fR0 := HBR.out.free 0
  replace fR1 := HBR.out.free 1
  replace HS1 := Lib.hid (HS1.out.trans hsv (fun _ _ h => h))
  clear hsv
  have hmk := fun w => run_make_n (P := Try.prog) Try.underlying26 info_bool .i64 .i64 M (show 1 * M ≤ 281474976710656 by omega) (show M ≤ 9223372036854775807 by omega) w
  go_upto_region 6 with fail
  refine wp_world fun w5 hw5 => ?_
  have hsv : Same w4 w5 := by rw [hw5]; exact (Frm.refl _ _).alloc _
  have hOD : OwnB w5 (some ⟨w4.heap.size, 0, none⟩) M M (vals M (mixF G (fun _ => false) 0)) := by
    rw [vals_zero, vals_false, hw5]
    have := Own.ofMade (m := 1) w4 4 (fun b : Bool => [.bool b]) (fun _ => rfl) (by decide) false M (show M ≤ 9223372036854775807 by omega) rfl
    simpa using this
  clear hw5 hmk
  obtain ⟨D, hD⟩ : ∃ D, w4.heap.size = D := ⟨_, rfl⟩
  rw [hD] at hOD ⊢
  have hneLD : L ≠ D := by omega
  have hneXaD : w.heap.size ≠ D := by have := HBXa.out.lt; omega
  have hneRD : R ≠ D := by have := HBR.out.lt; omega
  have hDn : w.heap.size ≤ D := by have := HS1.out.size; omega
  replace HOL := Lib.hid (Own.frm HOL.out hsv (fun _ _ => id))
  have HOD := Lib.hid hOD
  have hDl5 : D < w5.heap.size := by
    obtain ⟨h, _⟩ := OwnB.cell hOD hMp
    exact h
  clear hD hOD hLl hLn
  replace HBXa := Lib.hid (HBXa.out.frm hsv id)
  replace cXa0 : w5.cell? ⟨w.heap.size, 0, none⟩ = some (.int .i64 n) := HBXa.out.cell 0
  replace cXa1 : w5.cell? ⟨w.heap.size, 1, none⟩ = some (.slice Aa wsa.length Ca) := HBXa.out.cell 1
  replace lXa := HBXa.out.lt
  replace fXa0 := HBXa.out.free 0
  replace fXa1 := HBXa.out.free 1
  replace HBR := Lib.hid (HBR.out.frm hsv id)
  replace cR0 : w5.cell? ⟨R, 0, none⟩ = some (.int .i64 0) := HBR.out.cell 0
  replace cR1 : w5.cell? ⟨R, 1, none⟩ = some (.slice none 0 0) := HBR.out.cell 1
  replace lR := HBR.out.lt
  replace fR0 := HBR.out.free 0
  replace fR1 := HBR.out.free 1
  replace HS1 := Lib.hid (HS1.out.trans hsv (fun _ _ h => h))
  clear hsv
  go_wp2
  go_loopw [26] (fun i wr => ∃ k : Nat, k ≤ M ∧ i = .int .i64 k ∧ Same w wr ∧ Blk wr w.heap.size 24 #[.int .i64 n, .slice Aa wsa.length Ca] ∧ Blk wr R 24 #[.int .i64 0, .slice none 0 0] ∧ OwnB wr (some ⟨L, 0, none⟩) M CL (vals M (vb wsa)) ∧ OwnB wr (some ⟨D, 0, none⟩) M M (vals M (mixF G (fun _ => false) k))) (fun i _ => M - (intOf i).toNat)
  case atStart => exact ⟨0, by omega, rfl, HS1.out, HBXa.out, HBR.out, HOL.out, HOD.out⟩
  case round =>
    obtain ⟨k, hk, rfl, hs, hBXa, hBR, hOL, hOD⟩ := hrel
    have HSr := Lib.hid hs
    have HBrXa := Lib.hid hBXa
    have HBrR := Lib.hid hBR
    have HOrL := Lib.hid hOL
    by_cases hlt : k < M
    · have hk0 : (0 : Int) ≤ k := by omega
      have hk1 : (k : Int) < M := by omega
      have HST := Lib.hid (OwnB.put hOD hlt)
      obtain ⟨hDl, hDc⟩ := OwnB.cell hOD hlt
      have hDf := Own.free hOD k
      have hw := HWL.out k b hlt
      obtain ⟨ix, hix⟩ : ∃ ix, wth k V b = ix := ⟨_, rfl⟩
      have hGk : vb wsa (wth k V b) = G k := by rw [← HG.out]; rfl
      rw [hix] at hw hGk
      have hwi : ∀ w', Calls Try.prog 55 #[.int .i64 k, .int .i64 V, .bool b] w' fun e w'' => e = .returned (.int .i64 (ix : Nat)) ∧ w' = w'' := fun w' => by
        rw [← hix]
        exact with_any k V b w' (by omega) (by omega)
      obtain ⟨hLl, hLc⟩ := OwnB.cell hOL hw
      rw [hGk] at hLc
      have hix0 : (0 : Int) ≤ ix := by omega
      have hix1 : (ix : Int) < M := by omega
      have HWI := Lib.hid hwi
      clear hs hBXa hBR hOL hOD hwi hix hGk
      generalize G k = g at *
      go_wp2_with (fail)
      refine (HWI.out wr).mono ?_
      rintro e w6 ⟨rfl, rfl⟩
      go_wp2
      go_roundw
      case rel => exact ⟨k + 1, by omega, by go_num, HSr.out.setNew k _ hDn, HBrXa.out.far (p := ⟨D, k, none⟩) hneXaD _, HBrR.out.far (p := ⟨D, k, none⟩) hneRD _, Own.far (p := ⟨D, k, none⟩) HOrL.out (fun a ha h => by injection ha with ha; subst ha; exact hneLD h) _, HST.out⟩
      case measure => simp [intOf]; omega
    · obtain rfl : k = M := by omega
      rw [vals_full] at hOD
      have HODr := Lib.hid hOD
      have cXa0 : wr.cell? ⟨w.heap.size, 0, none⟩ = some (.int .i64 n) := hBXa.cell 0
      have fXa0 := hBXa.free 0
      have cXa1 : wr.cell? ⟨w.heap.size, 1, none⟩ = some (.slice Aa wsa.length Ca) := hBXa.cell 1
      have fXa1 := hBXa.free 1
      have lXa := hBXa.lt
      have cR0 : wr.cell? ⟨R, 0, none⟩ = some (.int .i64 0) := hBR.cell 0
      have fR0 := hBR.free 0
      have cR1 : wr.cell? ⟨R, 1, none⟩ = some (.slice none 0 0) := hBR.cell 1
      have fR1 := hBR.free 1
      have lR := hBR.lt
      clear hs  hBXa  hBR  hOL  hOD
      go_wp2_with (fail)
      rw [← HM.out] at HODr ⊢
      refine (rof_any n _ (some ⟨D, 0, none⟩) G wr hn (Own.sl (fun _ => rfl) HODr.out)).mono ?_
      rintro e w8 ⟨Aq, Cq, rfl, hNT⟩
      have hoq := hNT.1
      have hfq := hNT.2.1
      have hsq := hNT.2.2
      have hRq : ∀ a, Aq = some a → a.block ≠ R := fun a ha h => by
        have := hfq a.block ⟨a, ha, rfl⟩
        omega
      have HBRq := Lib.hid (HBrR.out.frm hsq id)
      have HSq := Lib.hid (HSr.out.trans hsq (fun _ _ h => h))
      have hfq' : Fresh w.heap.size Aq := fun b hb => by have := hfq b hb; have := HSr.out.size; omega
      have HOQ := Lib.hid hoq
      have HFQ := Lib.hid hfq'
      have hcR0 : w8.cell? ⟨R, 0, none⟩ = some (.int .i64 0) := HBRq.out.cell 0
      have hcR1 : w8.cell? ⟨R, 1, none⟩ = some (.slice none 0 0) := HBRq.out.cell 1
      have hfR0 := HBRq.out.free 0
      have hfR1 := HBRq.out.free 1
      have hlR := HBRq.out.lt
      clear hNT hoq hfq hsq hfq'
      go_wp2
      refine wp_post fun we hwe => ?_
      have hBE : Blk we R 24 #[.int .i64 n, .slice Aq (tab n G).length Cq] := by
        rw [hwe]
        have := (HBRq.out.set 0 (.int .i64 n)).set 1 (.slice Aq (tab n G).length Cq)
        simpa using this
      have hSE : Same w we := by rw [hwe]; exact (HSq.out.setNew 0 _ leR).setNew 1 _ leR
      have hOE : OwnW we Aq (tab n G).length Cq (tab n G) := by
        rw [hwe]
        exact (Own.far (p := ⟨R, 0, none⟩) HOQ.out hRq _).far (p := ⟨R, 1, none⟩) hRq _
      have hr0 : we.cell? ⟨R, 0, none⟩ = some (.int .i64 n) := hBE.cell 0
      have hr1 : we.cell? ⟨R, 1, none⟩ = some (.slice Aq (tab n G).length Cq) := hBE.cell 1
      clear hwe hBE
      refine bodyPost_ret (v := .tuple #[.agg #[.int .i64 n, .slice Aq (tab n G).length Cq], .int .i64 0]) (by simp [results, Try.results16, go_sem, hr0, hr1]) rfl ?_
      exact ⟨Aq, Cq, rfl, hOE, HFQ.out, hSE⟩
set_option maxRecDepth 100000 in
set_option maxHeartbeats 8000000 in
theorem docExists_any (Na : Int) (Aa : Option Addr) (Ca : Nat) (wsa : List Nat) (v : Int) (w : World) (h : TbOk w ⟨Na, Aa, Ca, wsa⟩) : Calls Try.prog 19 #[.agg #[.int .i64 Na, .slice Aa wsa.length Ca], .int .i64 v] w (RetA w Na (tab Na.toNat (exF v.toNat wsa)) (ofE Na v wsa)) := by
  have H := Lib.hid h
  clear h
  have hof := fun (w : World) (h : TbOk w ⟨Na, Aa, Ca, wsa⟩) => variable_any Na Aa Ca wsa v w h
  obtain ⟨c, hc⟩ : ∃ c, ofE Na v wsa = c := ⟨_, rfl⟩
  rw [hc] at hof ⊢
  have HOF := Lib.hid hof
  clear hof
  by_cases h0 : ¬ c = 0
  · have h0' : (c != 0) = true := by simpa using h0
    unfold RetA
    rw [show ansN Na c = 0 by unfold ansN; rw [if_neg h0], show ansL (tab Na.toNat (exF v.toNat wsa)) c = [] by unfold ansL; rw [if_neg h0]]
    clear hc h0
    go_enter Try.func19, Try.ntmps19
    go_upto_region 1 with fail
    refine wp_world fun w1 hw1 => ?_
    have hs1 : Same w w1 := by rw [hw1]; exact ((Frm.refl _ _).alloc _).alloc _
    have hBXa : Blk w1 (w.heap.size) 24 #[.int .i64 Na, .slice Aa wsa.length Ca] := by
      rw [hw1]
      have := ((Blk.new w 24 #[.int .i64 Na, .slice Aa wsa.length Ca]).alloc (.cells #[.int .i64 0, .slice none 0 0] 24))
      simpa using this
    have hBR : Blk w1 (w.heap.size + 1) 24 #[.int .i64 0, .slice none 0 0] := by
      rw [hw1]
      have := (Blk.new (w.alloc (.cells #[.int .i64 Na, .slice Aa wsa.length Ca] 24)) 24 #[.int .i64 0, .slice none 0 0])
      simpa using this
    clear hw1
    obtain ⟨R, hR⟩ : ∃ b, w.heap.size + 1 = b := ⟨_, rfl⟩
    rw [hR] at hBR ⊢
    have leR : w.heap.size ≤ R := by omega
    have neXaR : w.heap.size ≠ R := by omega
    clear hR
    have cXa0 : w1.cell? ⟨w.heap.size, 0, none⟩ = some (.int .i64 Na) := hBXa.cell 0
    have cXa1 : w1.cell? ⟨w.heap.size, 1, none⟩ = some (.slice Aa wsa.length Ca) := hBXa.cell 1
    have lXa := hBXa.lt
    have fXa0 := hBXa.free 0
    have fXa1 := hBXa.free 1
    have HBXa := Lib.hid hBXa
    have cR0 : w1.cell? ⟨R, 0, none⟩ = some (.int .i64 0) := hBR.cell 0
    have cR1 : w1.cell? ⟨R, 1, none⟩ = some (.slice none 0 0) := hBR.cell 1
    have lR := hBR.lt
    have fR0 := hBR.free 0
    have fR1 := hBR.free 1
    have HBR := Lib.hid hBR
    have HS1 := Lib.hid hs1
    clear hs1 hBXa hBR
    go_wp2_with (fail)
    refine (HOF.out w1 (H.out.same HS1.out)).mono ?_
    rintro e w3 ⟨rfl, hs13⟩
    replace HBXa := Lib.hid (HBXa.out.frm hs13 id)
    replace cXa0 : w3.cell? ⟨w.heap.size, 0, none⟩ = some (.int .i64 Na) := HBXa.out.cell 0
    replace cXa1 : w3.cell? ⟨w.heap.size, 1, none⟩ = some (.slice Aa wsa.length Ca) := HBXa.out.cell 1
    replace lXa := HBXa.out.lt
    replace fXa0 := HBXa.out.free 0
    replace fXa1 := HBXa.out.free 1
    replace HBR := Lib.hid (HBR.out.frm hs13 id)
    replace cR0 : w3.cell? ⟨R, 0, none⟩ = some (.int .i64 0) := HBR.out.cell 0
    replace cR1 : w3.cell? ⟨R, 1, none⟩ = some (.slice none 0 0) := HBR.out.cell 1
    replace lR := HBR.out.lt
    replace fR0 := HBR.out.free 0
    replace fR1 := HBR.out.free 1
    replace HS1 := Lib.hid (HS1.out.trans hs13 (fun _ _ h => h))
    clear hs13
    go_wp2
    refine wp_post fun we hwe => ?_
    have hBE : Blk we R 24 #[.int .i64 0, .slice none 0 0] := by
      rw [hwe]
      have := (HBR.out.set 0 (.int .i64 0)).set 1 (.slice none 0 0)
      simpa using this
    have hSE : Same w we := by rw [hwe]; exact (HS1.out.setNew 0 _ leR).setNew 1 _ leR
    have hr0 : we.cell? ⟨R, 0, none⟩ = some (.int .i64 0) := hBE.cell 0
    have hr1 : we.cell? ⟨R, 1, none⟩ = some (.slice none 0 0) := hBE.cell 1
    clear hwe hBE
    refine bodyPost_ret (v := .tuple #[.agg #[.int .i64 0, .slice none 0 0], .int .i64 c]) (by simp [results, Try.results19, go_sem, hr0, hr1]) rfl ?_
    exact ⟨none, 0, rfl, NewT.nil hSE⟩
  replace h0 : c = 0 := by omega
  subst h0
  obtain ⟨n, V, rfl, rfl, hf, hv⟩ := ofE_ok hc
  have hn := hf.n16
  unfold RetA
  rw [show ansN n 0 = n from rfl, show ansL (tab (n : Int).toNat (exF (V : Int).toNat wsa)) 0 = tab n (exF V wsa) from rfl]
  have HFa := Lib.hid hf
  have HV := Lib.hid hv
  have hp16 := pow_le16 hn
  have hMp0 : 0 < 2 ^ n := Nat.pow_pos (by omega)
  obtain ⟨M, hM⟩ : ∃ M, 2 ^ n = M := ⟨_, rfl⟩
  have hMp : 0 < M := by omega
  have hwl := fun (k : Nat) (b : Bool) (hk : k < 2 ^ n) => wth_lt (b := b) hk hv
  rw [hM] at hwl hp16
  have HWL := Lib.hid hwl
  have HM := Lib.hid hM
  have Ha := Lib.hid H.out
  have hV16 : V < 16 := by omega
  clear hc hf hv hwl hM hMp0
  obtain ⟨G, hG⟩ : ∃ G, exF V wsa = G := ⟨_, rfl⟩
  rw [hG]
  have HG := Lib.hid hG
  clear hG
  go_enter Try.func19, Try.ntmps19
  go_upto_region 1 with fail
  refine wp_world fun w1 hw1 => ?_
  have hs1 : Same w w1 := by rw [hw1]; exact ((Frm.refl _ _).alloc _).alloc _
  have hBXa : Blk w1 (w.heap.size) 24 #[.int .i64 n, .slice Aa wsa.length Ca] := by
    rw [hw1]
    have := ((Blk.new w 24 #[.int .i64 n, .slice Aa wsa.length Ca]).alloc (.cells #[.int .i64 0, .slice none 0 0] 24))
    simpa using this
  have hBR : Blk w1 (w.heap.size + 1) 24 #[.int .i64 0, .slice none 0 0] := by
    rw [hw1]
    have := (Blk.new (w.alloc (.cells #[.int .i64 n, .slice Aa wsa.length Ca] 24)) 24 #[.int .i64 0, .slice none 0 0])
    simpa using this
  clear hw1
  obtain ⟨R, hR⟩ : ∃ b, w.heap.size + 1 = b := ⟨_, rfl⟩
  rw [hR] at hBR ⊢
  have leR : w.heap.size ≤ R := by omega
  have neXaR : w.heap.size ≠ R := by omega
  clear hR
  have cXa0 : w1.cell? ⟨w.heap.size, 0, none⟩ = some (.int .i64 n) := hBXa.cell 0
  have cXa1 : w1.cell? ⟨w.heap.size, 1, none⟩ = some (.slice Aa wsa.length Ca) := hBXa.cell 1
  have lXa := hBXa.lt
  have fXa0 := hBXa.free 0
  have fXa1 := hBXa.free 1
  have HBXa := Lib.hid hBXa
  have cR0 : w1.cell? ⟨R, 0, none⟩ = some (.int .i64 0) := hBR.cell 0
  have cR1 : w1.cell? ⟨R, 1, none⟩ = some (.slice none 0 0) := hBR.cell 1
  have lR := hBR.lt
  have fR0 := hBR.free 0
  have fR1 := hBR.free 1
  have HBR := Lib.hid hBR
  have HS1 := Lib.hid hs1
  clear hs1 hBXa hBR
  go_wp2_with (fail)
  refine (HOF.out w1 (H.out.same HS1.out)).mono ?_
  rintro e w3 ⟨rfl, hs13⟩
  replace HBXa := Lib.hid (HBXa.out.frm hs13 id)
  replace cXa0 : w3.cell? ⟨w.heap.size, 0, none⟩ = some (.int .i64 n) := HBXa.out.cell 0
  replace cXa1 : w3.cell? ⟨w.heap.size, 1, none⟩ = some (.slice Aa wsa.length Ca) := HBXa.out.cell 1
  replace lXa := HBXa.out.lt
  replace fXa0 := HBXa.out.free 0
  replace fXa1 := HBXa.out.free 1
  replace HBR := Lib.hid (HBR.out.frm hs13 id)
  replace cR0 : w3.cell? ⟨R, 0, none⟩ = some (.int .i64 0) := HBR.out.cell 0
  replace cR1 : w3.cell? ⟨R, 1, none⟩ = some (.slice none 0 0) := HBR.out.cell 1
  replace lR := HBR.out.lt
  replace fR0 := HBR.out.free 0
  replace fR1 := HBR.out.free 1
  replace HS1 := Lib.hid (HS1.out.trans hs13 (fun _ _ h => h))
  clear hs13
  go_wp2_with (fail)
  refine (values_any n Ca Aa wsa w3 (Ha.out.same HS1.out) HFa.out).mono ?_
  rintro e w4 ⟨Al, CL, rfl, hNB⟩
  rw [HM.out] at hNB ⊢
  obtain ⟨L, rfl, hLl⟩ := Own.form1 hNB.1 (by rw [vals_len]; exact hMp)
  have hLn : w3.heap.size ≤ L := hNB.2.1 L ⟨_, rfl, rfl⟩
  have hsv := hNB.2.2
  have hOL := hNB.1
  rw [vals_len] at hOL
  have HOL := Lib.hid hOL
  clear hNB hOL
  have hneXL : w.heap.size ≠ L := by have := HBXa.out.lt; omega
  have hneRL : R ≠ L := by have := HBR.out.lt; omega
  replace HBXa := Lib.hid (HBXa.out.frm hsv id)
  replace cXa0 : w4.cell? ⟨w.heap.size, 0, none⟩ = some (.int .i64 n) := HBXa.out.cell 0
  replace cXa1 : w4.cell? ⟨w.heap.size, 1, none⟩ = some (.slice Aa wsa.length Ca) := HBXa.out.cell 1
  replace lXa := HBXa.out.lt
  replace fXa0 := HBXa.out.free 0
  replace fXa1 := HBXa.out.free 1
  replace HBR := Lib.hid (HBR.out.frm hsv id)
  replace cR0 : w4.cell? ⟨R, 0, none⟩ = some (.int .i64 0) := HBR.out.cell 0
  replace cR1 : w4.cell? ⟨R, 1, none⟩ = some (.slice none 0 0) := HBR.out.cell 1
  replace lR := HBR.out.lt
  replace fR0 := HBR.out.free 0
  replace fR1 := HBR.out.free 1
  replace HS1 := Lib.hid (HS1.out.trans hsv (fun _ _ h => h))
  clear hsv
  have hmk := fun w => run_make_n (P := Try.prog) Try.underlying26 info_bool .i64 .i64 M (show 1 * M ≤ 281474976710656 by omega) (show M ≤ 9223372036854775807 by omega) w
  go_upto_region 6 with fail
  refine wp_world fun w5 hw5 => ?_
  have hsv : Same w4 w5 := by rw [hw5]; exact (Frm.refl _ _).alloc _
  have hOD : OwnB w5 (some ⟨w4.heap.size, 0, none⟩) M M (vals M (mixF G (fun _ => false) 0)) := by
    rw [vals_zero, vals_false, hw5]
    have := Own.ofMade (m := 1) w4 4 (fun b : Bool => [.bool b]) (fun _ => rfl) (by decide) false M (show M ≤ 9223372036854775807 by omega) rfl
    simpa using this
  clear hw5 hmk
  obtain ⟨D, hD⟩ : ∃ D, w4.heap.size = D := ⟨_, rfl⟩
  rw [hD] at hOD ⊢
  have hneLD : L ≠ D := by omega
  have hneXaD : w.heap.size ≠ D := by have := HBXa.out.lt; omega
  have hneRD : R ≠ D := by have := HBR.out.lt; omega
  have hDn : w.heap.size ≤ D := by have := HS1.out.size; omega
  replace HOL := Lib.hid (Own.frm HOL.out hsv (fun _ _ => id))
  have HOD := Lib.hid hOD
  have hDl5 : D < w5.heap.size := by
    obtain ⟨h, _⟩ := OwnB.cell hOD hMp
    exact h
  clear hD hOD hLl hLn
  replace HBXa := Lib.hid (HBXa.out.frm hsv id)
  replace cXa0 : w5.cell? ⟨w.heap.size, 0, none⟩ = some (.int .i64 n) := HBXa.out.cell 0
  replace cXa1 : w5.cell? ⟨w.heap.size, 1, none⟩ = some (.slice Aa wsa.length Ca) := HBXa.out.cell 1
  replace lXa := HBXa.out.lt
  replace fXa0 := HBXa.out.free 0
  replace fXa1 := HBXa.out.free 1
  replace HBR := Lib.hid (HBR.out.frm hsv id)
  replace cR0 : w5.cell? ⟨R, 0, none⟩ = some (.int .i64 0) := HBR.out.cell 0
  replace cR1 : w5.cell? ⟨R, 1, none⟩ = some (.slice none 0 0) := HBR.out.cell 1
  replace lR := HBR.out.lt
  replace fR0 := HBR.out.free 0
  replace fR1 := HBR.out.free 1
  replace HS1 := Lib.hid (HS1.out.trans hsv (fun _ _ h => h))
  clear hsv
  go_wp2
  go_loopw [24] (fun i wr => ∃ k : Nat, k ≤ M ∧ i = .int .i64 k ∧ Same w wr ∧ Blk wr w.heap.size 24 #[.int .i64 n, .slice Aa wsa.length Ca] ∧ Blk wr R 24 #[.int .i64 0, .slice none 0 0] ∧ OwnB wr (some ⟨L, 0, none⟩) M CL (vals M (vb wsa)) ∧ OwnB wr (some ⟨D, 0, none⟩) M M (vals M (mixF G (fun _ => false) k))) (fun i _ => M - (intOf i).toNat)
  case atStart => exact ⟨0, by omega, rfl, HS1.out, HBXa.out, HBR.out, HOL.out, HOD.out⟩
  case round =>
    obtain ⟨k, hk, rfl, hs, hBXa, hBR, hOL, hOD⟩ := hrel
    have HSr := Lib.hid hs
    have HBrXa := Lib.hid hBXa
    have HBrR := Lib.hid hBR
    have HOrL := Lib.hid hOL
    by_cases hlt : k < M
    · have hk0 : (0 : Int) ≤ k := by omega
      have hk1 : (k : Int) < M := by omega
      have HST := Lib.hid (OwnB.put hOD hlt)
      obtain ⟨hDl, hDc⟩ := OwnB.cell hOD hlt
      have hDf := Own.free hOD k
      have hw0 := HWL.out k false hlt
      have hw1 := HWL.out k true hlt
      obtain ⟨ix, hix⟩ : ∃ ix, wth k V false = ix := ⟨_, rfl⟩
      obtain ⟨iy, hiy⟩ : ∃ ix, wth k V true = ix := ⟨_, rfl⟩
      have hGk : (vb wsa (wth k V false) || vb wsa (wth k V true)) = G k := by rw [← HG.out]; rfl
      rw [hix] at hw0
      rw [hiy] at hw1
      rw [hix, hiy] at hGk
      have hwi : ∀ w', Calls Try.prog 55 #[.int .i64 k, .int .i64 V, .bool false] w' fun e w'' => e = .returned (.int .i64 (ix : Nat)) ∧ w' = w'' := fun w' => by
        rw [← hix]
        exact with_any k V false w' (by omega) (by omega)
      have hwj : ∀ w', Calls Try.prog 55 #[.int .i64 k, .int .i64 V, .bool true] w' fun e w'' => e = .returned (.int .i64 (iy : Nat)) ∧ w' = w'' := fun w' => by
        rw [← hiy]
        exact with_any k V true w' (by omega) (by omega)
      obtain ⟨hLl, hLc⟩ := OwnB.cell hOL hw0
      obtain ⟨_, hLd⟩ := OwnB.cell hOL hw1
      have hix0 : (0 : Int) ≤ ix := by omega
      have hix1 : (ix : Int) < M := by omega
      have hiy0 : (0 : Int) ≤ iy := by omega
      have hiy1 : (iy : Int) < M := by omega
      have HWI := Lib.hid hwi
      have HWJ := Lib.hid hwj
      clear hs hBXa hBR hOL hOD hwi hwj hix hiy
      generalize G k = g at *
      generalize vb wsa ix = g0 at *
      generalize vb wsa iy = g1 at *
      go_wp2_with (fail)
      refine (HWI.out wr).mono ?_
      rintro e w6 ⟨rfl, rfl⟩
      subst hGk
      cases g0
      · go_wp2_with (fail)
        refine (HWJ.out wr).mono ?_
        rintro e w6 ⟨rfl, rfl⟩
        rw [Bool.false_or] at HST
        go_wp2
        go_roundw
        case rel => exact ⟨k + 1, by omega, by go_num, HSr.out.setNew k _ hDn, HBrXa.out.far (p := ⟨D, k, none⟩) hneXaD _, HBrR.out.far (p := ⟨D, k, none⟩) hneRD _, Own.far (p := ⟨D, k, none⟩) HOrL.out (fun a ha h => by injection ha with ha; subst ha; exact hneLD h) _, HST.out⟩
        case measure => simp [intOf]; omega
      · rw [Bool.true_or] at HST
        go_wp2
        go_roundw
        case rel => exact ⟨k + 1, by omega, by go_num, HSr.out.setNew k _ hDn, HBrXa.out.far (p := ⟨D, k, none⟩) hneXaD _, HBrR.out.far (p := ⟨D, k, none⟩) hneRD _, Own.far (p := ⟨D, k, none⟩) HOrL.out (fun a ha h => by injection ha with ha; subst ha; exact hneLD h) _, HST.out⟩
        case measure => simp [intOf]; omega
    · obtain rfl : k = M := by omega
      rw [vals_full] at hOD
      have HODr := Lib.hid hOD
      have cXa0 : wr.cell? ⟨w.heap.size, 0, none⟩ = some (.int .i64 n) := hBXa.cell 0
      have fXa0 := hBXa.free 0
      have cXa1 : wr.cell? ⟨w.heap.size, 1, none⟩ = some (.slice Aa wsa.length Ca) := hBXa.cell 1
      have fXa1 := hBXa.free 1
      have lXa := hBXa.lt
      have cR0 : wr.cell? ⟨R, 0, none⟩ = some (.int .i64 0) := hBR.cell 0
      have fR0 := hBR.free 0
      have cR1 : wr.cell? ⟨R, 1, none⟩ = some (.slice none 0 0) := hBR.cell 1
      have fR1 := hBR.free 1
      have lR := hBR.lt
      clear hs  hBXa  hBR  hOL  hOD
      go_wp2_with (fail)
      rw [← HM.out] at HODr ⊢
      refine (rof_any n _ (some ⟨D, 0, none⟩) G wr hn (Own.sl (fun _ => rfl) HODr.out)).mono ?_
      rintro e w8 ⟨Aq, Cq, rfl, hNT⟩
      have hoq := hNT.1
      have hfq := hNT.2.1
      have hsq := hNT.2.2
      have hRq : ∀ a, Aq = some a → a.block ≠ R := fun a ha h => by
        have := hfq a.block ⟨a, ha, rfl⟩
        omega
      have HBRq := Lib.hid (HBrR.out.frm hsq id)
      have HSq := Lib.hid (HSr.out.trans hsq (fun _ _ h => h))
      have hfq' : Fresh w.heap.size Aq := fun b hb => by have := hfq b hb; have := HSr.out.size; omega
      have HOQ := Lib.hid hoq
      have HFQ := Lib.hid hfq'
      have hcR0 : w8.cell? ⟨R, 0, none⟩ = some (.int .i64 0) := HBRq.out.cell 0
      have hcR1 : w8.cell? ⟨R, 1, none⟩ = some (.slice none 0 0) := HBRq.out.cell 1
      have hfR0 := HBRq.out.free 0
      have hfR1 := HBRq.out.free 1
      have hlR := HBRq.out.lt
      clear hNT hoq hfq hsq hfq'
      go_wp2
      refine wp_post fun we hwe => ?_
      have hBE : Blk we R 24 #[.int .i64 n, .slice Aq (tab n G).length Cq] := by
        rw [hwe]
        have := (HBRq.out.set 0 (.int .i64 n)).set 1 (.slice Aq (tab n G).length Cq)
        simpa using this
      have hSE : Same w we := by rw [hwe]; exact (HSq.out.setNew 0 _ leR).setNew 1 _ leR
      have hOE : OwnW we Aq (tab n G).length Cq (tab n G) := by
        rw [hwe]
        exact (Own.far (p := ⟨R, 0, none⟩) HOQ.out hRq _).far (p := ⟨R, 1, none⟩) hRq _
      have hr0 : we.cell? ⟨R, 0, none⟩ = some (.int .i64 n) := hBE.cell 0
      have hr1 : we.cell? ⟨R, 1, none⟩ = some (.slice Aq (tab n G).length Cq) := hBE.cell 1
      clear hwe hBE
      refine bodyPost_ret (v := .tuple #[.agg #[.int .i64 n, .slice Aq (tab n G).length Cq], .int .i64 0]) (by simp [results, Try.results19, go_sem, hr0, hr1]) rfl ?_
      exact ⟨Aq, Cq, rfl, hOE, HFQ.out, hSE⟩
end Go.Proofs.Ytlggmoghgoeiiaa
