/- Truth tables: the reference's DocNot, DocBinary, DocIte. -/
import Derived.Test.YtlggmoghgoeiiaaTrIte
namespace Go.Proofs.Ytlggmoghgoeiiaa
open Go.RowKit Go.Tk

set_option maxRecDepth 100000 in
set_option maxHeartbeats 8000000 in
theorem docNot_any (Na : Int) (Aa : Option Addr) (Ca : Nat) (wsa : List Nat) (w : World) (h : TbOk w ⟨Na, Aa, Ca, wsa⟩) : Calls Try.prog 30 #[.agg #[.int .i64 Na, .slice Aa wsa.length Ca]] w (RetA w Na (tab Na.toNat (notF wsa)) (fmE (frm Na wsa))) := by
  have Ha := Lib.hid h
  clear h
  cases hfr : frm Na wsa with
  | false =>
    unfold RetA
    rw [show fmE false = 5 from rfl, show ansN Na 5 = 0 from rfl, show ansL (tab Na.toNat (notF wsa)) 5 = [] from rfl]
    have HFM := Lib.hid ((frm_one Na Aa Ca wsa).trans hfr)
    clear hfr
    go_enter Try.func30, Try.ntmps30
    go_upto_region 1 with fail
    refine wp_world fun w1 hw1 => ?_
    have hs1 : Same w w1 := by rw [hw1]; exact ((Frm.refl _ _).alloc _).alloc _
    have hBXa : Blk w1 (w.heap.size) 24 #[.int .i64 Na, .slice Aa wsa.length Ca] := by
      rw [hw1]
      have := ((Blk.new w 24 #[.int .i64 Na, .slice Aa wsa.length Ca]).alloc (.cells #[.int .i64 0, .slice none 0 0] 24))
      simpa using this
    have hBR : Blk w1 (w.heap.size + 1) 24 #[.int .i64 0, .slice none 0 0] := by
      rw [hw1]
      have := (Blk.new (w.alloc (.cells #[.int .i64 Na, .slice Aa wsa.length Ca] 24)) 24 #[.int .i64 0, .slice none 0 0])
      simpa using this
    clear hw1
    obtain ⟨R, hR⟩ : ∃ b, w.heap.size + 1 = b := ⟨_, rfl⟩
    rw [hR] at hBR ⊢
    have leR : w.heap.size ≤ R := by omega
    have neXaR : w.heap.size ≠ R := by omega
    clear hR
    have cXa0 : w1.cell? ⟨w.heap.size, 0, none⟩ = some (.int .i64 Na) := hBXa.cell 0
    have cXa1 : w1.cell? ⟨w.heap.size, 1, none⟩ = some (.slice Aa wsa.length Ca) := hBXa.cell 1
    have lXa := hBXa.lt
    have fXa0 := hBXa.free 0
    have fXa1 := hBXa.free 1
    have HBXa := Lib.hid hBXa
    have cR0 : w1.cell? ⟨R, 0, none⟩ = some (.int .i64 0) := hBR.cell 0
    have cR1 : w1.cell? ⟨R, 1, none⟩ = some (.slice none 0 0) := hBR.cell 1
    have lR := hBR.lt
    have fR0 := hBR.free 0
    have fR1 := hBR.free 1
    have HBR := Lib.hid hBR
    have HS1 := Lib.hid hs1
    clear hs1 hBXa hBR
    have HOKa := Lib.hid (Ha.out.same HS1.out)
    go_wp2_with (fail)
    refine call_world fun w2 hw2 => ?_
    have hs2 : Same w1 w2 := by rw [hw2]; exact (Frm.refl _ _).alloc _
    have hBL : Blk w2 w1.heap.size 24 #[.int .i64 Na, .slice Aa wsa.length Ca] := by rw [hw2]; exact Blk.new _ _ _
    have htbs : Tbs w2 w1.heap.size [⟨Na, Aa, Ca, wsa⟩] := by
      intro i t hi
      match i, hi with
      | 0, hi =>
        simp only [List.getElem?_cons_zero, Option.some.injEq] at hi
        subst hi
        exact ⟨hBL.lt, hBL.cell 0, hBL.cell 1⟩
      | i + 1, hi => simp at hi
    have hfc := formed_any w1.heap.size 1 1 [⟨Na, Aa, Ca, wsa⟩] w2 rfl (by decide) htbs (fun t ht => by
      simp only [List.mem_cons, List.not_mem_nil, or_false] at ht
      rcases ht with rfl
      · exact (HOKa.out).same hs2)
    rw [HFM.out, show fmE false = 5 from rfl] at hfc
    refine hfc.mono ?_
    clear hfc htbs hBL hw2
    rintro e w3 ⟨rfl, hs3⟩
    have hs13 : Same w1 w3 := hs2.trans hs3 (fun _ _ h => h)
    clear hs2 hs3
    replace HBXa := Lib.hid (HBXa.out.frm hs13 id)
    replace cXa0 : w3.cell? ⟨w.heap.size, 0, none⟩ = some (.int .i64 Na) := HBXa.out.cell 0
    replace cXa1 : w3.cell? ⟨w.heap.size, 1, none⟩ = some (.slice Aa wsa.length Ca) := HBXa.out.cell 1
    replace lXa := HBXa.out.lt
    replace fXa0 := HBXa.out.free 0
    replace fXa1 := HBXa.out.free 1
    replace HBR := Lib.hid (HBR.out.frm hs13 id)
    replace cR0 : w3.cell? ⟨R, 0, none⟩ = some (.int .i64 0) := HBR.out.cell 0
    replace cR1 : w3.cell? ⟨R, 1, none⟩ = some (.slice none 0 0) := HBR.out.cell 1
    replace lR := HBR.out.lt
    replace fR0 := HBR.out.free 0
    replace fR1 := HBR.out.free 1
    replace HS1 := Lib.hid (HS1.out.trans hs13 (fun _ _ h => h))
    clear hs13
    go_wp2
    refine wp_post fun we hwe => ?_
    have hBE : Blk we R 24 #[.int .i64 0, .slice none 0 0] := by
      rw [hwe]
      have := (HBR.out.set 0 (.int .i64 0)).set 1 (.slice none 0 0)
      simpa using this
    have hSE : Same w we := by rw [hwe]; exact (HS1.out.setNew 0 _ leR).setNew 1 _ leR
    have hr0 : we.cell? ⟨R, 0, none⟩ = some (.int .i64 0) := hBE.cell 0
    have hr1 : we.cell? ⟨R, 1, none⟩ = some (.slice none 0 0) := hBE.cell 1
    clear hwe hBE
    refine bodyPost_ret (v := .tuple #[.agg #[.int .i64 0, .slice none 0 0], .int .i64 5]) (by simp [results, Try.results30, go_sem, hr0, hr1]) rfl ?_
    exact ⟨none, 0, rfl, NewT.nil hSE⟩
  | true =>
    obtain ⟨n, rfl, hform⟩ := frm_true hfr
    unfold RetA
    rw [show fmE true = 0 from rfl, show ansN n 0 = n from rfl, show ansL (tab (n : Int).toNat (notF wsa)) 0 = tab n (notF wsa) from rfl]
    have HFM := Lib.hid ((frm_one n Aa Ca wsa).trans hfr)
    have hn := hform.n16
    have HFa := Lib.hid hform
    clear hfr hform
    have hp16 := pow_le16 hn
    have hMp0 : 0 < 2 ^ n := Nat.pow_pos (by omega)
    obtain ⟨M, hM⟩ : ∃ M, 2 ^ n = M := ⟨_, rfl⟩
    have hMp : 0 < M := by omega
    rw [hM] at hp16
    have HM := Lib.hid hM
    clear hM hMp0
    obtain ⟨G, hG⟩ : ∃ G, notF wsa = G := ⟨_, rfl⟩
    rw [hG]
    have HG := Lib.hid hG
    clear hG
    go_enter Try.func30, Try.ntmps30
    go_upto_region 1 with fail
    refine wp_world fun w1 hw1 => ?_
    have hs1 : Same w w1 := by rw [hw1]; exact ((Frm.refl _ _).alloc _).alloc _
    have hBXa : Blk w1 (w.heap.size) 24 #[.int .i64 n, .slice Aa wsa.length Ca] := by
      rw [hw1]
      have := ((Blk.new w 24 #[.int .i64 n, .slice Aa wsa.length Ca]).alloc (.cells #[.int .i64 0, .slice none 0 0] 24))
      simpa using this
    have hBR : Blk w1 (w.heap.size + 1) 24 #[.int .i64 0, .slice none 0 0] := by
      rw [hw1]
      have := (Blk.new (w.alloc (.cells #[.int .i64 n, .slice Aa wsa.length Ca] 24)) 24 #[.int .i64 0, .slice none 0 0])
      simpa using this
    clear hw1
    obtain ⟨R, hR⟩ : ∃ b, w.heap.size + 1 = b := ⟨_, rfl⟩
    rw [hR] at hBR ⊢
    have leR : w.heap.size ≤ R := by omega
    have neXaR : w.heap.size ≠ R := by omega
    clear hR
    have cXa0 : w1.cell? ⟨w.heap.size, 0, none⟩ = some (.int .i64 n) := hBXa.cell 0
    have cXa1 : w1.cell? ⟨w.heap.size, 1, none⟩ = some (.slice Aa wsa.length Ca) := hBXa.cell 1
    have lXa := hBXa.lt
    have fXa0 := hBXa.free 0
    have fXa1 := hBXa.free 1
    have HBXa := Lib.hid hBXa
    have cR0 : w1.cell? ⟨R, 0, none⟩ = some (.int .i64 0) := hBR.cell 0
    have cR1 : w1.cell? ⟨R, 1, none⟩ = some (.slice none 0 0) := hBR.cell 1
    have lR := hBR.lt
    have fR0 := hBR.free 0
    have fR1 := hBR.free 1
    have HBR := Lib.hid hBR
    have HS1 := Lib.hid hs1
    clear hs1 hBXa hBR
    have HOKa := Lib.hid (Ha.out.same HS1.out)
    go_wp2_with (fail)
    refine call_world fun w2 hw2 => ?_
    have hs2 : Same w1 w2 := by rw [hw2]; exact (Frm.refl _ _).alloc _
    have hBL : Blk w2 w1.heap.size 24 #[.int .i64 n, .slice Aa wsa.length Ca] := by rw [hw2]; exact Blk.new _ _ _
    have htbs : Tbs w2 w1.heap.size [⟨n, Aa, Ca, wsa⟩] := by
      intro i t hi
      match i, hi with
      | 0, hi =>
        simp only [List.getElem?_cons_zero, Option.some.injEq] at hi
        subst hi
        exact ⟨hBL.lt, hBL.cell 0, hBL.cell 1⟩
      | i + 1, hi => simp at hi
    have hfc := formed_any w1.heap.size 1 1 [⟨n, Aa, Ca, wsa⟩] w2 rfl (by decide) htbs (fun t ht => by
      simp only [List.mem_cons, List.not_mem_nil, or_false] at ht
      rcases ht with rfl
      · exact (HOKa.out).same hs2)
    rw [HFM.out, show fmE true = 0 from rfl] at hfc
    refine hfc.mono ?_
    clear hfc htbs hBL hw2
    rintro e w3 ⟨rfl, hs3⟩
    have hs13 : Same w1 w3 := hs2.trans hs3 (fun _ _ h => h)
    clear hs2 hs3
    replace HBXa := Lib.hid (HBXa.out.frm hs13 id)
    replace cXa0 : w3.cell? ⟨w.heap.size, 0, none⟩ = some (.int .i64 n) := HBXa.out.cell 0
    replace cXa1 : w3.cell? ⟨w.heap.size, 1, none⟩ = some (.slice Aa wsa.length Ca) := HBXa.out.cell 1
    replace lXa := HBXa.out.lt
    replace fXa0 := HBXa.out.free 0
    replace fXa1 := HBXa.out.free 1
    replace HBR := Lib.hid (HBR.out.frm hs13 id)
    replace cR0 : w3.cell? ⟨R, 0, none⟩ = some (.int .i64 0) := HBR.out.cell 0
    replace cR1 : w3.cell? ⟨R, 1, none⟩ = some (.slice none 0 0) := HBR.out.cell 1
    replace lR := HBR.out.lt
    replace fR0 := HBR.out.free 0
    replace fR1 := HBR.out.free 1
    replace HS1 := Lib.hid (HS1.out.trans hs13 (fun _ _ h => h))
    clear hs13
    go_wp2_with (fail)
    refine (values_any n Ca Aa wsa w3 (Ha.out.same HS1.out) HFa.out).mono ?_
    rintro e w4 ⟨Al, CL, rfl, hNB⟩
    rw [HM.out] at hNB ⊢
    obtain ⟨L, rfl, hLl⟩ := Own.form1 hNB.1 (by rw [vals_len]; exact hMp)
    have hLn : w3.heap.size ≤ L := hNB.2.1 L ⟨_, rfl, rfl⟩
    have hsv := hNB.2.2
    have hOL := hNB.1
    rw [vals_len] at hOL
    have HOL := Lib.hid hOL
    clear hNB hOL
    have hneXaL : w.heap.size ≠ L := by have := HBXa.out.lt; omega
    have hneRL : R ≠ L := by have := HBR.out.lt; omega
    have hDn : w.heap.size ≤ L := by have := HS1.out.size; omega
    have hOL := HOL.out
    rw [← vals_zero M G (vb wsa)] at hOL
    have HOD := Lib.hid hOL
    clear hOL HOL
    replace HBXa := Lib.hid (HBXa.out.frm hsv id)
    replace cXa0 : w4.cell? ⟨w.heap.size, 0, none⟩ = some (.int .i64 n) := HBXa.out.cell 0
    replace cXa1 : w4.cell? ⟨w.heap.size, 1, none⟩ = some (.slice Aa wsa.length Ca) := HBXa.out.cell 1
    replace lXa := HBXa.out.lt
    replace fXa0 := HBXa.out.free 0
    replace fXa1 := HBXa.out.free 1
    replace HBR := Lib.hid (HBR.out.frm hsv id)
    replace cR0 : w4.cell? ⟨R, 0, none⟩ = some (.int .i64 0) := HBR.out.cell 0
    replace cR1 : w4.cell? ⟨R, 1, none⟩ = some (.slice none 0 0) := HBR.out.cell 1
    replace lR := HBR.out.lt
    replace fR0 := HBR.out.free 0
    replace fR1 := HBR.out.free 1
    replace HS1 := Lib.hid (HS1.out.trans hsv (fun _ _ h => h))
    clear hsv
    go_wp2
    go_loopw [18] (fun i wr => ∃ k : Nat, k ≤ M ∧ i = .int .i64 k ∧ Same w wr ∧ Blk wr w.heap.size 24 #[.int .i64 n, .slice Aa wsa.length Ca] ∧ Blk wr R 24 #[.int .i64 0, .slice none 0 0] ∧ OwnB wr (some ⟨L, 0, none⟩) M CL (vals M (mixF G (vb wsa) k))) (fun i _ => M - (intOf i).toNat)
    case atStart => exact ⟨0, by omega, rfl, HS1.out, HBXa.out, HBR.out, HOD.out⟩
    case round =>
      obtain ⟨k, hk, rfl, hs, hBXa, hBR, hOD⟩ := hrel
      have HSr := Lib.hid hs
      have HBrXa := Lib.hid hBXa
      have HBrR := Lib.hid hBR
      by_cases hlt : k < M
      · have hk0 : (0 : Int) ≤ k := by omega
        have hk1 : (k : Int) < M := by omega
        have HST := Lib.hid (OwnB.put hOD hlt)
        obtain ⟨hDl, hDc⟩ := OwnB.cell hOD hlt
        have hDf := Own.free hOD k
        rw [mix_at] at hDc
        have hGk : G k = !vb wsa k := by rw [← HG.out]; rfl
        rw [hGk] at HST
        clear hs hBXa hBR hOD hGk
        generalize vb wsa k = z at *
        go_wp2
        go_roundw
        case rel => exact ⟨k + 1, by omega, by go_num, HSr.out.setNew k _ hDn, HBrXa.out.far (p := ⟨L, k, none⟩) hneXaL _, HBrR.out.far (p := ⟨L, k, none⟩) hneRL _, HST.out⟩
        case measure => simp [intOf]; omega
      · obtain rfl : k = M := by omega
        rw [vals_full] at hOD
        have HODr := Lib.hid hOD
        have cXa0 : wr.cell? ⟨w.heap.size, 0, none⟩ = some (.int .i64 n) := hBXa.cell 0
        have fXa0 := hBXa.free 0
        have cXa1 : wr.cell? ⟨w.heap.size, 1, none⟩ = some (.slice Aa wsa.length Ca) := hBXa.cell 1
        have fXa1 := hBXa.free 1
        have lXa := hBXa.lt
        have cR0 : wr.cell? ⟨R, 0, none⟩ = some (.int .i64 0) := hBR.cell 0
        have fR0 := hBR.free 0
        have cR1 : wr.cell? ⟨R, 1, none⟩ = some (.slice none 0 0) := hBR.cell 1
        have fR1 := hBR.free 1
        have lR := hBR.lt
        clear hs  hBXa  hBR  hOD
        go_wp2_with (fail)
        rw [← HM.out] at HODr ⊢
        refine (rof_any n _ (some ⟨L, 0, none⟩) G wr hn (Own.sl (fun _ => rfl) HODr.out)).mono ?_
        rintro e w8 ⟨Aq, Cq, rfl, hNT⟩
        have hoq := hNT.1
        have hfq := hNT.2.1
        have hsq := hNT.2.2
        have hRq : ∀ a, Aq = some a → a.block ≠ R := fun a ha h => by
          have := hfq a.block ⟨a, ha, rfl⟩
          omega
        have HBRq := Lib.hid (HBrR.out.frm hsq id)
        have HSq := Lib.hid (HSr.out.trans hsq (fun _ _ h => h))
        have hfq' : Fresh w.heap.size Aq := fun b hb => by have := hfq b hb; have := HSr.out.size; omega
        have HOQ := Lib.hid hoq
        have HFQ := Lib.hid hfq'
        have hcR0 : w8.cell? ⟨R, 0, none⟩ = some (.int .i64 0) := HBRq.out.cell 0
        have hcR1 : w8.cell? ⟨R, 1, none⟩ = some (.slice none 0 0) := HBRq.out.cell 1
        have hfR0 := HBRq.out.free 0
        have hfR1 := HBRq.out.free 1
        have hlR := HBRq.out.lt
        clear hNT hoq hfq hsq hfq'
        go_wp2
        refine wp_post fun we hwe => ?_
        have hBE : Blk we R 24 #[.int .i64 n, .slice Aq (tab n G).length Cq] := by
          rw [hwe]
          have := (HBRq.out.set 0 (.int .i64 n)).set 1 (.slice Aq (tab n G).length Cq)
          simpa using this
        have hSE : Same w we := by rw [hwe]; exact (HSq.out.setNew 0 _ leR).setNew 1 _ leR
        have hOE : OwnW we Aq (tab n G).length Cq (tab n G) := by
          rw [hwe]
          exact (Own.far (p := ⟨R, 0, none⟩) HOQ.out hRq _).far (p := ⟨R, 1, none⟩) hRq _
        have hr0 : we.cell? ⟨R, 0, none⟩ = some (.int .i64 n) := hBE.cell 0
        have hr1 : we.cell? ⟨R, 1, none⟩ = some (.slice Aq (tab n G).length Cq) := hBE.cell 1
        clear hwe hBE
        refine bodyPost_ret (v := .tuple #[.agg #[.int .i64 n, .slice Aq (tab n G).length Cq], .int .i64 0]) (by simp [results, Try.results30, go_sem, hr0, hr1]) rfl ?_
        exact ⟨Aq, Cq, rfl, hOE, HFQ.out, hSE⟩
set_option maxRecDepth 100000 in
set_option maxHeartbeats 8000000 in
theorem docBinary_any (op : Nat) (Na : Int) (Aa : Option Addr) (Ca : Nat) (wsa : List Nat) (Nb : Int) (Ab : Option Addr) (Cb : Nat) (wsb : List Nat) (w : World) (ha : TbOk w ⟨Na, Aa, Ca, wsa⟩) (hb : TbOk w ⟨Nb, Ab, Cb, wsb⟩) : Calls Try.prog 32 #[.int .u8 op, .agg #[.int .i64 Na, .slice Aa wsa.length Ca], .agg #[.int .i64 Nb, .slice Ab wsb.length Cb]] w (RetA w Na (tab Na.toNat (binF op wsa wsb)) (binE op (fm [⟨Na, Aa, Ca, wsa⟩, ⟨Nb, Ab, Cb, wsb⟩]))) := by
  have Ha := Lib.hid ha
  have Hb := Lib.hid hb
  clear ha hb
  by_cases h15 : 15 < op
  · have h15' : (op : Int) > 15 := by omega
    unfold RetA
    unfold binE
    rw [if_pos h15, show ansN Na 1 = 0 from rfl, show ansL (tab Na.toNat (binF op wsa wsb)) 1 = [] from rfl]
    clear h15
    go_enter Try.func32, Try.ntmps32
    go_upto_region 1 with fail
    refine wp_world fun w1 hw1 => ?_
    have hs1 : Same w w1 := by rw [hw1]; exact (((Frm.refl _ _).alloc _).alloc _).alloc _
    have hBXa : Blk w1 (w.heap.size) 24 #[.int .i64 Na, .slice Aa wsa.length Ca] := by
      rw [hw1]
      have := (((Blk.new w 24 #[.int .i64 Na, .slice Aa wsa.length Ca]).alloc (.cells #[.int .i64 Nb, .slice Ab wsb.length Cb] 24)).alloc (.cells #[.int .i64 0, .slice none 0 0] 24))
      simpa using this
    have hBXb : Blk w1 (w.heap.size + 1) 24 #[.int .i64 Nb, .slice Ab wsb.length Cb] := by
      rw [hw1]
      have := ((Blk.new (w.alloc (.cells #[.int .i64 Na, .slice Aa wsa.length Ca] 24)) 24 #[.int .i64 Nb, .slice Ab wsb.length Cb]).alloc (.cells #[.int .i64 0, .slice none 0 0] 24))
      simpa using this
    have hBR : Blk w1 (w.heap.size + 1 + 1) 24 #[.int .i64 0, .slice none 0 0] := by
      rw [hw1]
      have := (Blk.new ((w.alloc (.cells #[.int .i64 Na, .slice Aa wsa.length Ca] 24)).alloc (.cells #[.int .i64 Nb, .slice Ab wsb.length Cb] 24)) 24 #[.int .i64 0, .slice none 0 0])
      simpa using this
    clear hw1
    obtain ⟨R, hR⟩ : ∃ b, w.heap.size + 1 + 1 = b := ⟨_, rfl⟩
    rw [hR] at hBR ⊢
    obtain ⟨Xb, hXb⟩ : ∃ b, w.heap.size + 1 = b := ⟨_, rfl⟩
    rw [hXb] at hBXb ⊢
    have leXb : w.heap.size ≤ Xb := by omega
    have leR : w.heap.size ≤ R := by omega
    have neXaXb : w.heap.size ≠ Xb := by omega
    have neXaR : w.heap.size ≠ R := by omega
    have neXbR : Xb ≠ R := by omega
    clear hXb hR
    have cXa0 : w1.cell? ⟨w.heap.size, 0, none⟩ = some (.int .i64 Na) := hBXa.cell 0
    have cXa1 : w1.cell? ⟨w.heap.size, 1, none⟩ = some (.slice Aa wsa.length Ca) := hBXa.cell 1
    have lXa := hBXa.lt
    have fXa0 := hBXa.free 0
    have fXa1 := hBXa.free 1
    have HBXa := Lib.hid hBXa
    have cXb0 : w1.cell? ⟨Xb, 0, none⟩ = some (.int .i64 Nb) := hBXb.cell 0
    have cXb1 : w1.cell? ⟨Xb, 1, none⟩ = some (.slice Ab wsb.length Cb) := hBXb.cell 1
    have lXb := hBXb.lt
    have fXb0 := hBXb.free 0
    have fXb1 := hBXb.free 1
    have HBXb := Lib.hid hBXb
    have cR0 : w1.cell? ⟨R, 0, none⟩ = some (.int .i64 0) := hBR.cell 0
    have cR1 : w1.cell? ⟨R, 1, none⟩ = some (.slice none 0 0) := hBR.cell 1
    have lR := hBR.lt
    have fR0 := hBR.free 0
    have fR1 := hBR.free 1
    have HBR := Lib.hid hBR
    have HS1 := Lib.hid hs1
    clear hs1 hBXa hBXb hBR
    go_wp2
    refine wp_post fun we hwe => ?_
    have hBE : Blk we R 24 #[.int .i64 0, .slice none 0 0] := by
      rw [hwe]
      have := (HBR.out.set 0 (.int .i64 0)).set 1 (.slice none 0 0)
      simpa using this
    have hSE : Same w we := by rw [hwe]; exact (HS1.out.setNew 0 _ leR).setNew 1 _ leR
    have hr0 : we.cell? ⟨R, 0, none⟩ = some (.int .i64 0) := hBE.cell 0
    have hr1 : we.cell? ⟨R, 1, none⟩ = some (.slice none 0 0) := hBE.cell 1
    clear hwe hBE
    refine bodyPost_ret (v := .tuple #[.agg #[.int .i64 0, .slice none 0 0], .int .i64 1]) (by simp [results, Try.results32, go_sem, hr0, hr1]) rfl ?_
    exact ⟨none, 0, rfl, NewT.nil hSE⟩
  have h15' : ¬ (op : Int) > 15 := by omega
  unfold binE
  rw [if_neg h15]
  cases hfr : fm [⟨Na, Aa, Ca, wsa⟩, ⟨Nb, Ab, Cb, wsb⟩] with
  | false =>
    clear h15
    unfold RetA
    rw [show fmE false = 5 from rfl, show ansN Na 5 = 0 from rfl, show ansL (tab Na.toNat (binF op wsa wsb)) 5 = [] from rfl]
    have HFM := Lib.hid hfr
    clear hfr
    go_enter Try.func32, Try.ntmps32
    go_upto_region 1 with fail
    refine wp_world fun w1 hw1 => ?_
    have hs1 : Same w w1 := by rw [hw1]; exact (((Frm.refl _ _).alloc _).alloc _).alloc _
    have hBXa : Blk w1 (w.heap.size) 24 #[.int .i64 Na, .slice Aa wsa.length Ca] := by
      rw [hw1]
      have := (((Blk.new w 24 #[.int .i64 Na, .slice Aa wsa.length Ca]).alloc (.cells #[.int .i64 Nb, .slice Ab wsb.length Cb] 24)).alloc (.cells #[.int .i64 0, .slice none 0 0] 24))
      simpa using this
    have hBXb : Blk w1 (w.heap.size + 1) 24 #[.int .i64 Nb, .slice Ab wsb.length Cb] := by
      rw [hw1]
      have := ((Blk.new (w.alloc (.cells #[.int .i64 Na, .slice Aa wsa.length Ca] 24)) 24 #[.int .i64 Nb, .slice Ab wsb.length Cb]).alloc (.cells #[.int .i64 0, .slice none 0 0] 24))
      simpa using this
    have hBR : Blk w1 (w.heap.size + 1 + 1) 24 #[.int .i64 0, .slice none 0 0] := by
      rw [hw1]
      have := (Blk.new ((w.alloc (.cells #[.int .i64 Na, .slice Aa wsa.length Ca] 24)).alloc (.cells #[.int .i64 Nb, .slice Ab wsb.length Cb] 24)) 24 #[.int .i64 0, .slice none 0 0])
      simpa using this
    clear hw1
    obtain ⟨R, hR⟩ : ∃ b, w.heap.size + 1 + 1 = b := ⟨_, rfl⟩
    rw [hR] at hBR ⊢
    obtain ⟨Xb, hXb⟩ : ∃ b, w.heap.size + 1 = b := ⟨_, rfl⟩
    rw [hXb] at hBXb ⊢
    have leXb : w.heap.size ≤ Xb := by omega
    have leR : w.heap.size ≤ R := by omega
    have neXaXb : w.heap.size ≠ Xb := by omega
    have neXaR : w.heap.size ≠ R := by omega
    have neXbR : Xb ≠ R := by omega
    clear hXb hR
    have cXa0 : w1.cell? ⟨w.heap.size, 0, none⟩ = some (.int .i64 Na) := hBXa.cell 0
    have cXa1 : w1.cell? ⟨w.heap.size, 1, none⟩ = some (.slice Aa wsa.length Ca) := hBXa.cell 1
    have lXa := hBXa.lt
    have fXa0 := hBXa.free 0
    have fXa1 := hBXa.free 1
    have HBXa := Lib.hid hBXa
    have cXb0 : w1.cell? ⟨Xb, 0, none⟩ = some (.int .i64 Nb) := hBXb.cell 0
    have cXb1 : w1.cell? ⟨Xb, 1, none⟩ = some (.slice Ab wsb.length Cb) := hBXb.cell 1
    have lXb := hBXb.lt
    have fXb0 := hBXb.free 0
    have fXb1 := hBXb.free 1
    have HBXb := Lib.hid hBXb
    have cR0 : w1.cell? ⟨R, 0, none⟩ = some (.int .i64 0) := hBR.cell 0
    have cR1 : w1.cell? ⟨R, 1, none⟩ = some (.slice none 0 0) := hBR.cell 1
    have lR := hBR.lt
    have fR0 := hBR.free 0
    have fR1 := hBR.free 1
    have HBR := Lib.hid hBR
    have HS1 := Lib.hid hs1
    clear hs1 hBXa hBXb hBR
    have HOKa := Lib.hid (Ha.out.same HS1.out)
    have HOKb := Lib.hid (Hb.out.same HS1.out)
    go_wp2_with (fail)
    refine call_world fun w2 hw2 => ?_
    have hs2 : Same w1 w2 := by rw [hw2]; exact (Frm.refl _ _).alloc _
    have hBL : Blk w2 w1.heap.size 24 #[.int .i64 Na, .slice Aa wsa.length Ca, .int .i64 Nb, .slice Ab wsb.length Cb] := by rw [hw2]; exact Blk.new _ _ _
    have htbs : Tbs w2 w1.heap.size [⟨Na, Aa, Ca, wsa⟩, ⟨Nb, Ab, Cb, wsb⟩] := by
      intro i t hi
      match i, hi with
      | 0, hi =>
        simp only [List.getElem?_cons_zero, Option.some.injEq] at hi
        subst hi
        exact ⟨hBL.lt, hBL.cell 0, hBL.cell 1⟩
      | 1, hi =>
        simp only [List.getElem?_cons_zero, List.getElem?_cons_succ, Option.some.injEq] at hi
        subst hi
        exact ⟨hBL.lt, hBL.cell 2, hBL.cell 3⟩
      | i + 2, hi => simp at hi
    have hfc := formed_any w1.heap.size 2 2 [⟨Na, Aa, Ca, wsa⟩, ⟨Nb, Ab, Cb, wsb⟩] w2 rfl (by decide) htbs (fun t ht => by
      simp only [List.mem_cons, List.not_mem_nil, or_false] at ht
      rcases ht with rfl | rfl
      · exact (HOKa.out).same hs2
      · exact (HOKb.out).same hs2)
    rw [HFM.out, show fmE false = 5 from rfl] at hfc
    refine hfc.mono ?_
    clear hfc htbs hBL hw2
    rintro e w3 ⟨rfl, hs3⟩
    have hs13 : Same w1 w3 := hs2.trans hs3 (fun _ _ h => h)
    clear hs2 hs3
    replace HBXa := Lib.hid (HBXa.out.frm hs13 id)
    replace cXa0 : w3.cell? ⟨w.heap.size, 0, none⟩ = some (.int .i64 Na) := HBXa.out.cell 0
    replace cXa1 : w3.cell? ⟨w.heap.size, 1, none⟩ = some (.slice Aa wsa.length Ca) := HBXa.out.cell 1
    replace lXa := HBXa.out.lt
    replace fXa0 := HBXa.out.free 0
    replace fXa1 := HBXa.out.free 1
    replace HBXb := Lib.hid (HBXb.out.frm hs13 id)
    replace cXb0 : w3.cell? ⟨Xb, 0, none⟩ = some (.int .i64 Nb) := HBXb.out.cell 0
    replace cXb1 : w3.cell? ⟨Xb, 1, none⟩ = some (.slice Ab wsb.length Cb) := HBXb.out.cell 1
    replace lXb := HBXb.out.lt
    replace fXb0 := HBXb.out.free 0
    replace fXb1 := HBXb.out.free 1
    replace HBR := Lib.hid (HBR.out.frm hs13 id)
    replace cR0 : w3.cell? ⟨R, 0, none⟩ = some (.int .i64 0) := HBR.out.cell 0
    replace cR1 : w3.cell? ⟨R, 1, none⟩ = some (.slice none 0 0) := HBR.out.cell 1
    replace lR := HBR.out.lt
    replace fR0 := HBR.out.free 0
    replace fR1 := HBR.out.free 1
    replace HS1 := Lib.hid (HS1.out.trans hs13 (fun _ _ h => h))
    clear hs13
    go_wp2
    refine wp_post fun we hwe => ?_
    have hBE : Blk we R 24 #[.int .i64 0, .slice none 0 0] := by
      rw [hwe]
      have := (HBR.out.set 0 (.int .i64 0)).set 1 (.slice none 0 0)
      simpa using this
    have hSE : Same w we := by rw [hwe]; exact (HS1.out.setNew 0 _ leR).setNew 1 _ leR
    have hr0 : we.cell? ⟨R, 0, none⟩ = some (.int .i64 0) := hBE.cell 0
    have hr1 : we.cell? ⟨R, 1, none⟩ = some (.slice none 0 0) := hBE.cell 1
    clear hwe hBE
    refine bodyPost_ret (v := .tuple #[.agg #[.int .i64 0, .slice none 0 0], .int .i64 5]) (by simp [results, Try.results32, go_sem, hr0, hr1]) rfl ?_
    exact ⟨none, 0, rfl, NewT.nil hSE⟩
  | true =>
    obtain ⟨n, rfl, rfl, hfa, hfb⟩ := fm_two hfr
    unfold RetA
    rw [show fmE true = 0 from rfl, show ansN n 0 = n from rfl, show ansL (tab (n : Int).toNat (binF op wsa wsb)) 0 = tab n (binF op wsa wsb) from rfl]
    have HFM := Lib.hid hfr
    have hn := hfa.n16
    have HFa := Lib.hid hfa
    have HFb := Lib.hid hfb
    clear hfr hfa hfb h15
    have hp16 := pow_le16 hn
    have hMp0 : 0 < 2 ^ n := Nat.pow_pos (by omega)
    obtain ⟨M, hM⟩ : ∃ M, 2 ^ n = M := ⟨_, rfl⟩
    have hMp : 0 < M := by omega
    rw [hM] at hp16
    have HM := Lib.hid hM
    clear hM hMp0
    obtain ⟨G, hG⟩ : ∃ G, binF op wsa wsb = G := ⟨_, rfl⟩
    rw [hG]
    have HG := Lib.hid hG
    clear hG
    go_enter Try.func32, Try.ntmps32
    go_upto_region 1 with fail
    refine wp_world fun w1 hw1 => ?_
    have hs1 : Same w w1 := by rw [hw1]; exact (((Frm.refl _ _).alloc _).alloc _).alloc _
    have hBXa : Blk w1 (w.heap.size) 24 #[.int .i64 n, .slice Aa wsa.length Ca] := by
      rw [hw1]
      have := (((Blk.new w 24 #[.int .i64 n, .slice Aa wsa.length Ca]).alloc (.cells #[.int .i64 n, .slice Ab wsb.length Cb] 24)).alloc (.cells #[.int .i64 0, .slice none 0 0] 24))
      simpa using this
    have hBXb : Blk w1 (w.heap.size + 1) 24 #[.int .i64 n, .slice Ab wsb.length Cb] := by
      rw [hw1]
      have := ((Blk.new (w.alloc (.cells #[.int .i64 n, .slice Aa wsa.length Ca] 24)) 24 #[.int .i64 n, .slice Ab wsb.length Cb]).alloc (.cells #[.int .i64 0, .slice none 0 0] 24))
      simpa using this
    have hBR : Blk w1 (w.heap.size + 1 + 1) 24 #[.int .i64 0, .slice none 0 0] := by
      rw [hw1]
      have := (Blk.new ((w.alloc (.cells #[.int .i64 n, .slice Aa wsa.length Ca] 24)).alloc (.cells #[.int .i64 n, .slice Ab wsb.length Cb] 24)) 24 #[.int .i64 0, .slice none 0 0])
      simpa using this
    clear hw1
    obtain ⟨R, hR⟩ : ∃ b, w.heap.size + 1 + 1 = b := ⟨_, rfl⟩
    rw [hR] at hBR ⊢
    obtain ⟨Xb, hXb⟩ : ∃ b, w.heap.size + 1 = b := ⟨_, rfl⟩
    rw [hXb] at hBXb ⊢
    have leXb : w.heap.size ≤ Xb := by omega
    have leR : w.heap.size ≤ R := by omega
    have neXaXb : w.heap.size ≠ Xb := by omega
    have neXaR : w.heap.size ≠ R := by omega
    have neXbR : Xb ≠ R := by omega
    clear hXb hR
    have cXa0 : w1.cell? ⟨w.heap.size, 0, none⟩ = some (.int .i64 n) := hBXa.cell 0
    have cXa1 : w1.cell? ⟨w.heap.size, 1, none⟩ = some (.slice Aa wsa.length Ca) := hBXa.cell 1
    have lXa := hBXa.lt
    have fXa0 := hBXa.free 0
    have fXa1 := hBXa.free 1
    have HBXa := Lib.hid hBXa
    have cXb0 : w1.cell? ⟨Xb, 0, none⟩ = some (.int .i64 n) := hBXb.cell 0
    have cXb1 : w1.cell? ⟨Xb, 1, none⟩ = some (.slice Ab wsb.length Cb) := hBXb.cell 1
    have lXb := hBXb.lt
    have fXb0 := hBXb.free 0
    have fXb1 := hBXb.free 1
    have HBXb := Lib.hid hBXb
    have cR0 : w1.cell? ⟨R, 0, none⟩ = some (.int .i64 0) := hBR.cell 0
    have cR1 : w1.cell? ⟨R, 1, none⟩ = some (.slice none 0 0) := hBR.cell 1
    have lR := hBR.lt
    have fR0 := hBR.free 0
    have fR1 := hBR.free 1
    have HBR := Lib.hid hBR
    have HS1 := Lib.hid hs1
    clear hs1 hBXa hBXb hBR
    have HOKa := Lib.hid (Ha.out.same HS1.out)
    have HOKb := Lib.hid (Hb.out.same HS1.out)
    go_wp2_with (fail)
    refine call_world fun w2 hw2 => ?_
    have hs2 : Same w1 w2 := by rw [hw2]; exact (Frm.refl _ _).alloc _
    have hBL : Blk w2 w1.heap.size 24 #[.int .i64 n, .slice Aa wsa.length Ca, .int .i64 n, .slice Ab wsb.length Cb] := by rw [hw2]; exact Blk.new _ _ _
    have htbs : Tbs w2 w1.heap.size [⟨n, Aa, Ca, wsa⟩, ⟨n, Ab, Cb, wsb⟩] := by
      intro i t hi
      match i, hi with
      | 0, hi =>
        simp only [List.getElem?_cons_zero, Option.some.injEq] at hi
        subst hi
        exact ⟨hBL.lt, hBL.cell 0, hBL.cell 1⟩
      | 1, hi =>
        simp only [List.getElem?_cons_zero, List.getElem?_cons_succ, Option.some.injEq] at hi
        subst hi
        exact ⟨hBL.lt, hBL.cell 2, hBL.cell 3⟩
      | i + 2, hi => simp at hi
    have hfc := formed_any w1.heap.size 2 2 [⟨n, Aa, Ca, wsa⟩, ⟨n, Ab, Cb, wsb⟩] w2 rfl (by decide) htbs (fun t ht => by
      simp only [List.mem_cons, List.not_mem_nil, or_false] at ht
      rcases ht with rfl | rfl
      · exact (HOKa.out).same hs2
      · exact (HOKb.out).same hs2)
    rw [HFM.out, show fmE true = 0 from rfl] at hfc
    refine hfc.mono ?_
    clear hfc htbs hBL hw2
    rintro e w3 ⟨rfl, hs3⟩
    have hs13 : Same w1 w3 := hs2.trans hs3 (fun _ _ h => h)
    clear hs2 hs3
    replace HBXa := Lib.hid (HBXa.out.frm hs13 id)
    replace cXa0 : w3.cell? ⟨w.heap.size, 0, none⟩ = some (.int .i64 n) := HBXa.out.cell 0
    replace cXa1 : w3.cell? ⟨w.heap.size, 1, none⟩ = some (.slice Aa wsa.length Ca) := HBXa.out.cell 1
    replace lXa := HBXa.out.lt
    replace fXa0 := HBXa.out.free 0
    replace fXa1 := HBXa.out.free 1
    replace HBXb := Lib.hid (HBXb.out.frm hs13 id)
    replace cXb0 : w3.cell? ⟨Xb, 0, none⟩ = some (.int .i64 n) := HBXb.out.cell 0
    replace cXb1 : w3.cell? ⟨Xb, 1, none⟩ = some (.slice Ab wsb.length Cb) := HBXb.out.cell 1
    replace lXb := HBXb.out.lt
    replace fXb0 := HBXb.out.free 0
    replace fXb1 := HBXb.out.free 1
    replace HBR := Lib.hid (HBR.out.frm hs13 id)
    replace cR0 : w3.cell? ⟨R, 0, none⟩ = some (.int .i64 0) := HBR.out.cell 0
    replace cR1 : w3.cell? ⟨R, 1, none⟩ = some (.slice none 0 0) := HBR.out.cell 1
    replace lR := HBR.out.lt
    replace fR0 := HBR.out.free 0
    replace fR1 := HBR.out.free 1
    replace HS1 := Lib.hid (HS1.out.trans hs13 (fun _ _ h => h))
    clear hs13
    go_upto_region 6 with fail
    refine wp_phS (fun _ => False) [([0, 2], 1), ([], 3), ([4], 5)] (by kernel_rfl) (by kernel_rfl) ?_
    simp only [wpPh, pick, List.map_cons, List.map_nil, List.getD_cons_zero, List.getD_cons_succ]
    have hs : Same w3 w3.drew := (Frm.refl _ _).drew
    repeat (any_goals (first | go_big_quiet_step (fail) | quiet_step (fail)))
    refine wpQuiet_nil ?_
    refine effStep_plain rfl fun K hK => ?_
    go_simp
    refine (values_any n Ca Aa wsa _ (Ha.out.same (HS1.out.trans hs (fun _ _ h => h))) HFa.out).mono ?_
    rintro e w4 ⟨Al, CL, rfl, hNB⟩
    rw [HM.out] at hNB
    obtain ⟨L, rfl, hLl⟩ := Own.form1 hNB.1 (by rw [vals_len]; exact hMp)
    have hLn := hNB.2.1 L ⟨_, rfl, rfl⟩
    have hOL := hNB.1
    rw [vals_len] at hOL
    have hs := hs.trans hNB.2.2 (fun _ _ h => h)
    rw [HM.out]
    refine hK _ _ (Lat.mk_ (Frm.mono hs (fun _ _ h => h.elim))) ?_
    clear hK K hNB
    repeat (any_goals (first | go_big_quiet_step (fail) | quiet_step (fail)))
    refine wpQuiet_nil ?_
    refine effStep_plain rfl fun K hK => ?_
    go_simp
    refine (values_any n Cb Ab wsb _ (Hb.out.same (HS1.out.trans hs (fun _ _ h => h))) HFb.out).mono ?_
    rintro e w5 ⟨Al, CP, rfl, hNB⟩
    rw [HM.out] at hNB
    obtain ⟨P, rfl, hPl⟩ := Own.form1 hNB.1 (by rw [vals_len]; exact hMp)
    have hPn := hNB.2.1 P ⟨_, rfl, rfl⟩
    have hOL := Own.frm hOL hNB.2.2 (fun _ _ => id)
    have hnePL : P ≠ L := by have := hLl; have := hNB.2.2.size; omega
    have hLl := Nat.lt_of_lt_of_le hLl hNB.2.2.size
    have hOP := hNB.1
    rw [vals_len] at hOP
    have hs := hs.trans hNB.2.2 (fun _ _ h => h)
    rw [HM.out]
    refine hK _ _ (Lat.mk_ (Frm.mono hs (fun _ _ h => h.elim))) ?_
    clear hK K hNB
    repeat (any_goals (first | go_big_quiet_step (fail) | quiet_step (fail)))
    refine wpQuiet_nil ?_
    have hneXaL : w.heap.size ≠ L := by have := HBXa.out.lt; have h1 : w3.heap.size ≤ L := hLn; omega
    have hneXbL : Xb ≠ L := by have := HBXb.out.lt; have h1 : w3.heap.size ≤ L := hLn; omega
    have hneRL : R ≠ L := by have := HBR.out.lt; have h1 : w3.heap.size ≤ L := hLn; omega
    have hDn : w.heap.size ≤ L := by have := HS1.out.size; have h1 : w3.heap.size ≤ L := hLn; omega
    rw [← vals_zero M G (vb wsa)] at hOL
    have HOD := Lib.hid hOL
    have HOP := Lib.hid hOP
    clear hOL hOP hLn hPn
    have hsv := hs
    clear hs
    replace HBXa := Lib.hid (HBXa.out.frm hsv id)
    replace cXa0 : w5.cell? ⟨w.heap.size, 0, none⟩ = some (.int .i64 n) := HBXa.out.cell 0
    replace cXa1 : w5.cell? ⟨w.heap.size, 1, none⟩ = some (.slice Aa wsa.length Ca) := HBXa.out.cell 1
    replace lXa := HBXa.out.lt
    replace fXa0 := HBXa.out.free 0
    replace fXa1 := HBXa.out.free 1
    replace HBXb := Lib.hid (HBXb.out.frm hsv id)
    replace cXb0 : w5.cell? ⟨Xb, 0, none⟩ = some (.int .i64 n) := HBXb.out.cell 0
    replace cXb1 : w5.cell? ⟨Xb, 1, none⟩ = some (.slice Ab wsb.length Cb) := HBXb.out.cell 1
    replace lXb := HBXb.out.lt
    replace fXb0 := HBXb.out.free 0
    replace fXb1 := HBXb.out.free 1
    replace HBR := Lib.hid (HBR.out.frm hsv id)
    replace cR0 : w5.cell? ⟨R, 0, none⟩ = some (.int .i64 0) := HBR.out.cell 0
    replace cR1 : w5.cell? ⟨R, 1, none⟩ = some (.slice none 0 0) := HBR.out.cell 1
    replace lR := HBR.out.lt
    replace fR0 := HBR.out.free 0
    replace fR1 := HBR.out.free 1
    replace HS1 := Lib.hid (HS1.out.trans hsv (fun _ _ h => h))
    clear hsv
    go_wp2
    go_loopw [30] (fun i wr => ∃ k : Nat, k ≤ M ∧ i = .int .i64 k ∧ Same w wr ∧ Blk wr w.heap.size 24 #[.int .i64 n, .slice Aa wsa.length Ca] ∧ Blk wr Xb 24 #[.int .i64 n, .slice Ab wsb.length Cb] ∧ Blk wr R 24 #[.int .i64 0, .slice none 0 0] ∧ OwnB wr (some ⟨P, 0, none⟩) M CP (vals M (vb wsb)) ∧ OwnB wr (some ⟨L, 0, none⟩) M CL (vals M (mixF G (vb wsa) k))) (fun i _ => M - (intOf i).toNat)
    case atStart => exact ⟨0, by omega, rfl, HS1.out, HBXa.out, HBXb.out, HBR.out, HOP.out, HOD.out⟩
    case round =>
      obtain ⟨k, hk, rfl, hs, hBXa, hBXb, hBR, hOP, hOD⟩ := hrel
      have HSr := Lib.hid hs
      have HBrXa := Lib.hid hBXa
      have HBrXb := Lib.hid hBXb
      have HBrR := Lib.hid hBR
      have HOrP := Lib.hid hOP
      by_cases hlt : k < M
      · have hk0 : (0 : Int) ≤ k := by omega
        have hk1 : (k : Int) < M := by omega
        have HST := Lib.hid (OwnB.put hOD hlt)
        obtain ⟨hDl, hDc⟩ := OwnB.cell hOD hlt
        have hDf := Own.free hOD k
        rw [mix_at] at hDc
        obtain ⟨hPl, hPc⟩ := OwnB.cell hOP hlt
        obtain ⟨mm, hmm⟩ : ∃ m, (if vb wsa k then 2 else 0) + (if vb wsb k then 1 else 0) = m := ⟨_, rfl⟩
        have hm3 : mm ≤ 63 := by rw [← hmm]; split <;> split <;> omega
        have hbt : ∀ (w' : World), Calls Try.prog 68 #[.int .i64 op, .int .i64 mm] w' fun e w'' => e = .returned (.bool (G k)) ∧ w' = w'' := fun w' => by
          have := bit_any op mm w' hm3
          rw [← hmm] at this ⊢
          rw [← HG.out]
          exact this
        have HBT := Lib.hid hbt
        clear hs hBXa hBXb hBR hOP hOD hbt hm3
        generalize vb wsa k = za at *
        generalize vb wsb k = zb at *
        generalize G k = g at *
        cases za <;> cases zb
        · obtain rfl : mm = 0 := hmm.symm
          clear hmm
          go_wp2_with (fail)
          refine (HBT.out wr).mono ?_
          rintro e w6 ⟨rfl, rfl⟩
          go_wp2
          go_roundw
          case rel => exact ⟨k + 1, by omega, by go_num, HSr.out.setNew k _ hDn, HBrXa.out.far (p := ⟨L, k, none⟩) hneXaL _, HBrXb.out.far (p := ⟨L, k, none⟩) hneXbL _, HBrR.out.far (p := ⟨L, k, none⟩) hneRL _, Own.far (p := ⟨L, k, none⟩) HOrP.out (fun a ha h => by injection ha with ha; subst ha; exact hnePL h) _, HST.out⟩
          case measure => simp [intOf]; omega
        · obtain rfl : mm = 1 := hmm.symm
          clear hmm
          go_wp2_with (fail)
          refine (HBT.out wr).mono ?_
          rintro e w6 ⟨rfl, rfl⟩
          go_wp2
          go_roundw
          case rel => exact ⟨k + 1, by omega, by go_num, HSr.out.setNew k _ hDn, HBrXa.out.far (p := ⟨L, k, none⟩) hneXaL _, HBrXb.out.far (p := ⟨L, k, none⟩) hneXbL _, HBrR.out.far (p := ⟨L, k, none⟩) hneRL _, Own.far (p := ⟨L, k, none⟩) HOrP.out (fun a ha h => by injection ha with ha; subst ha; exact hnePL h) _, HST.out⟩
          case measure => simp [intOf]; omega
        · obtain rfl : mm = 2 := hmm.symm
          clear hmm
          go_wp2_with (fail)
          refine (HBT.out wr).mono ?_
          rintro e w6 ⟨rfl, rfl⟩
          go_wp2
          go_roundw
          case rel => exact ⟨k + 1, by omega, by go_num, HSr.out.setNew k _ hDn, HBrXa.out.far (p := ⟨L, k, none⟩) hneXaL _, HBrXb.out.far (p := ⟨L, k, none⟩) hneXbL _, HBrR.out.far (p := ⟨L, k, none⟩) hneRL _, Own.far (p := ⟨L, k, none⟩) HOrP.out (fun a ha h => by injection ha with ha; subst ha; exact hnePL h) _, HST.out⟩
          case measure => simp [intOf]; omega
        · obtain rfl : mm = 3 := hmm.symm
          clear hmm
          go_wp2_with (fail)
          refine (HBT.out wr).mono ?_
          rintro e w6 ⟨rfl, rfl⟩
          go_wp2
          go_roundw
          case rel => exact ⟨k + 1, by omega, by go_num, HSr.out.setNew k _ hDn, HBrXa.out.far (p := ⟨L, k, none⟩) hneXaL _, HBrXb.out.far (p := ⟨L, k, none⟩) hneXbL _, HBrR.out.far (p := ⟨L, k, none⟩) hneRL _, Own.far (p := ⟨L, k, none⟩) HOrP.out (fun a ha h => by injection ha with ha; subst ha; exact hnePL h) _, HST.out⟩
          case measure => simp [intOf]; omega
      · obtain rfl : k = M := by omega
        rw [vals_full] at hOD
        have HODr := Lib.hid hOD
        have cXa0 : wr.cell? ⟨w.heap.size, 0, none⟩ = some (.int .i64 n) := hBXa.cell 0
        have fXa0 := hBXa.free 0
        have cXa1 : wr.cell? ⟨w.heap.size, 1, none⟩ = some (.slice Aa wsa.length Ca) := hBXa.cell 1
        have fXa1 := hBXa.free 1
        have lXa := hBXa.lt
        have cXb0 : wr.cell? ⟨Xb, 0, none⟩ = some (.int .i64 n) := hBXb.cell 0
        have fXb0 := hBXb.free 0
        have cXb1 : wr.cell? ⟨Xb, 1, none⟩ = some (.slice Ab wsb.length Cb) := hBXb.cell 1
        have fXb1 := hBXb.free 1
        have lXb := hBXb.lt
        have cR0 : wr.cell? ⟨R, 0, none⟩ = some (.int .i64 0) := hBR.cell 0
        have fR0 := hBR.free 0
        have cR1 : wr.cell? ⟨R, 1, none⟩ = some (.slice none 0 0) := hBR.cell 1
        have fR1 := hBR.free 1
        have lR := hBR.lt
        clear hs  hBXa  hBXb  hBR  hOP  hOD
        go_wp2_with (fail)
        rw [← HM.out] at HODr ⊢
        refine (rof_any n _ (some ⟨L, 0, none⟩) G wr hn (Own.sl (fun _ => rfl) HODr.out)).mono ?_
        rintro e w8 ⟨Aq, Cq, rfl, hNT⟩
        have hoq := hNT.1
        have hfq := hNT.2.1
        have hsq := hNT.2.2
        have hRq : ∀ a, Aq = some a → a.block ≠ R := fun a ha h => by
          have := hfq a.block ⟨a, ha, rfl⟩
          omega
        have HBRq := Lib.hid (HBrR.out.frm hsq id)
        have HSq := Lib.hid (HSr.out.trans hsq (fun _ _ h => h))
        have hfq' : Fresh w.heap.size Aq := fun b hb => by have := hfq b hb; have := HSr.out.size; omega
        have HOQ := Lib.hid hoq
        have HFQ := Lib.hid hfq'
        have hcR0 : w8.cell? ⟨R, 0, none⟩ = some (.int .i64 0) := HBRq.out.cell 0
        have hcR1 : w8.cell? ⟨R, 1, none⟩ = some (.slice none 0 0) := HBRq.out.cell 1
        have hfR0 := HBRq.out.free 0
        have hfR1 := HBRq.out.free 1
        have hlR := HBRq.out.lt
        clear hNT hoq hfq hsq hfq'
        go_wp2
        refine wp_post fun we hwe => ?_
        have hBE : Blk we R 24 #[.int .i64 n, .slice Aq (tab n G).length Cq] := by
          rw [hwe]
          have := (HBRq.out.set 0 (.int .i64 n)).set 1 (.slice Aq (tab n G).length Cq)
          simpa using this
        have hSE : Same w we := by rw [hwe]; exact (HSq.out.setNew 0 _ leR).setNew 1 _ leR
        have hOE : OwnW we Aq (tab n G).length Cq (tab n G) := by
          rw [hwe]
          exact (Own.far (p := ⟨R, 0, none⟩) HOQ.out hRq _).far (p := ⟨R, 1, none⟩) hRq _
        have hr0 : we.cell? ⟨R, 0, none⟩ = some (.int .i64 n) := hBE.cell 0
        have hr1 : we.cell? ⟨R, 1, none⟩ = some (.slice Aq (tab n G).length Cq) := hBE.cell 1
        clear hwe hBE
        refine bodyPost_ret (v := .tuple #[.agg #[.int .i64 n, .slice Aq (tab n G).length Cq], .int .i64 0]) (by simp [results, Try.results32, go_sem, hr0, hr1]) rfl ?_
        exact ⟨Aq, Cq, rfl, hOE, HFQ.out, hSE⟩
set_option maxRecDepth 100000 in
set_option maxHeartbeats 8000000 in
theorem docIte_any (Na : Int) (Aa : Option Addr) (Ca : Nat) (wsa : List Nat) (Nb : Int) (Ab : Option Addr) (Cb : Nat) (wsb : List Nat) (Nc : Int) (Ac : Option Addr) (Cc : Nat) (wsc : List Nat) (w : World) (ha : TbOk w ⟨Na, Aa, Ca, wsa⟩) (hb : TbOk w ⟨Nb, Ab, Cb, wsb⟩) (hc : TbOk w ⟨Nc, Ac, Cc, wsc⟩) : Calls Try.prog 34 #[.agg #[.int .i64 Na, .slice Aa wsa.length Ca], .agg #[.int .i64 Nb, .slice Ab wsb.length Cb], .agg #[.int .i64 Nc, .slice Ac wsc.length Cc]] w (RetA w Na (tab Na.toNat (iteF wsa wsb wsc)) (fmE (fm [⟨Na, Aa, Ca, wsa⟩, ⟨Nb, Ab, Cb, wsb⟩, ⟨Nc, Ac, Cc, wsc⟩]))) := by
  have Ha := Lib.hid ha
  have Hb := Lib.hid hb
  have Hc := Lib.hid hc
  clear ha hb hc
  cases hfr : fm [⟨Na, Aa, Ca, wsa⟩, ⟨Nb, Ab, Cb, wsb⟩, ⟨Nc, Ac, Cc, wsc⟩] with
  | false =>
    unfold RetA
    rw [show fmE false = 5 from rfl, show ansN Na 5 = 0 from rfl, show ansL (tab Na.toNat (iteF wsa wsb wsc)) 5 = [] from rfl]
    have HFM := Lib.hid hfr
    clear hfr
    go_enter Try.func34, Try.ntmps34
    go_upto_region 1 with fail
    refine wp_world fun w1 hw1 => ?_
    have hs1 : Same w w1 := by rw [hw1]; exact ((((Frm.refl _ _).alloc _).alloc _).alloc _).alloc _
    have hBXa : Blk w1 (w.heap.size) 24 #[.int .i64 Na, .slice Aa wsa.length Ca] := by
      rw [hw1]
      have := ((((Blk.new w 24 #[.int .i64 Na, .slice Aa wsa.length Ca]).alloc (.cells #[.int .i64 Nb, .slice Ab wsb.length Cb] 24)).alloc (.cells #[.int .i64 Nc, .slice Ac wsc.length Cc] 24)).alloc (.cells #[.int .i64 0, .slice none 0 0] 24))
      simpa using this
    have hBXb : Blk w1 (w.heap.size + 1) 24 #[.int .i64 Nb, .slice Ab wsb.length Cb] := by
      rw [hw1]
      have := (((Blk.new (w.alloc (.cells #[.int .i64 Na, .slice Aa wsa.length Ca] 24)) 24 #[.int .i64 Nb, .slice Ab wsb.length Cb]).alloc (.cells #[.int .i64 Nc, .slice Ac wsc.length Cc] 24)).alloc (.cells #[.int .i64 0, .slice none 0 0] 24))
      simpa using this
    have hBXc : Blk w1 (w.heap.size + 1 + 1) 24 #[.int .i64 Nc, .slice Ac wsc.length Cc] := by
      rw [hw1]
      have := ((Blk.new ((w.alloc (.cells #[.int .i64 Na, .slice Aa wsa.length Ca] 24)).alloc (.cells #[.int .i64 Nb, .slice Ab wsb.length Cb] 24)) 24 #[.int .i64 Nc, .slice Ac wsc.length Cc]).alloc (.cells #[.int .i64 0, .slice none 0 0] 24))
      simpa using this
    have hBR : Blk w1 (w.heap.size + 1 + 1 + 1) 24 #[.int .i64 0, .slice none 0 0] := by
      rw [hw1]
      have := (Blk.new (((w.alloc (.cells #[.int .i64 Na, .slice Aa wsa.length Ca] 24)).alloc (.cells #[.int .i64 Nb, .slice Ab wsb.length Cb] 24)).alloc (.cells #[.int .i64 Nc, .slice Ac wsc.length Cc] 24)) 24 #[.int .i64 0, .slice none 0 0])
      simpa using this
    clear hw1
    obtain ⟨R, hR⟩ : ∃ b, w.heap.size + 1 + 1 + 1 = b := ⟨_, rfl⟩
    rw [hR] at hBR ⊢
    obtain ⟨Xc, hXc⟩ : ∃ b, w.heap.size + 1 + 1 = b := ⟨_, rfl⟩
    rw [hXc] at hBXc ⊢
    obtain ⟨Xb, hXb⟩ : ∃ b, w.heap.size + 1 = b := ⟨_, rfl⟩
    rw [hXb] at hBXb ⊢
    have leXb : w.heap.size ≤ Xb := by omega
    have leXc : w.heap.size ≤ Xc := by omega
    have leR : w.heap.size ≤ R := by omega
    have neXaXb : w.heap.size ≠ Xb := by omega
    have neXaXc : w.heap.size ≠ Xc := by omega
    have neXaR : w.heap.size ≠ R := by omega
    have neXbXc : Xb ≠ Xc := by omega
    have neXbR : Xb ≠ R := by omega
    have neXcR : Xc ≠ R := by omega
    clear hXb hXc hR
    have cXa0 : w1.cell? ⟨w.heap.size, 0, none⟩ = some (.int .i64 Na) := hBXa.cell 0
    have cXa1 : w1.cell? ⟨w.heap.size, 1, none⟩ = some (.slice Aa wsa.length Ca) := hBXa.cell 1
    have lXa := hBXa.lt
    have fXa0 := hBXa.free 0
    have fXa1 := hBXa.free 1
    have HBXa := Lib.hid hBXa
    have cXb0 : w1.cell? ⟨Xb, 0, none⟩ = some (.int .i64 Nb) := hBXb.cell 0
    have cXb1 : w1.cell? ⟨Xb, 1, none⟩ = some (.slice Ab wsb.length Cb) := hBXb.cell 1
    have lXb := hBXb.lt
    have fXb0 := hBXb.free 0
    have fXb1 := hBXb.free 1
    have HBXb := Lib.hid hBXb
    have cXc0 : w1.cell? ⟨Xc, 0, none⟩ = some (.int .i64 Nc) := hBXc.cell 0
    have cXc1 : w1.cell? ⟨Xc, 1, none⟩ = some (.slice Ac wsc.length Cc) := hBXc.cell 1
    have lXc := hBXc.lt
    have fXc0 := hBXc.free 0
    have fXc1 := hBXc.free 1
    have HBXc := Lib.hid hBXc
    have cR0 : w1.cell? ⟨R, 0, none⟩ = some (.int .i64 0) := hBR.cell 0
    have cR1 : w1.cell? ⟨R, 1, none⟩ = some (.slice none 0 0) := hBR.cell 1
    have lR := hBR.lt
    have fR0 := hBR.free 0
    have fR1 := hBR.free 1
    have HBR := Lib.hid hBR
    have HS1 := Lib.hid hs1
    clear hs1 hBXa hBXb hBXc hBR
    have HOKa := Lib.hid (Ha.out.same HS1.out)
    have HOKb := Lib.hid (Hb.out.same HS1.out)
    have HOKc := Lib.hid (Hc.out.same HS1.out)
    go_wp2_with (fail)
    refine call_world fun w2 hw2 => ?_
    have hs2 : Same w1 w2 := by rw [hw2]; exact (Frm.refl _ _).alloc _
    have hBL : Blk w2 w1.heap.size 24 #[.int .i64 Na, .slice Aa wsa.length Ca, .int .i64 Nb, .slice Ab wsb.length Cb, .int .i64 Nc, .slice Ac wsc.length Cc] := by rw [hw2]; exact Blk.new _ _ _
    have htbs : Tbs w2 w1.heap.size [⟨Na, Aa, Ca, wsa⟩, ⟨Nb, Ab, Cb, wsb⟩, ⟨Nc, Ac, Cc, wsc⟩] := by
      intro i t hi
      match i, hi with
      | 0, hi =>
        simp only [List.getElem?_cons_zero, Option.some.injEq] at hi
        subst hi
        exact ⟨hBL.lt, hBL.cell 0, hBL.cell 1⟩
      | 1, hi =>
        simp only [List.getElem?_cons_zero, List.getElem?_cons_succ, Option.some.injEq] at hi
        subst hi
        exact ⟨hBL.lt, hBL.cell 2, hBL.cell 3⟩
      | 2, hi =>
        simp only [List.getElem?_cons_zero, List.getElem?_cons_succ, Option.some.injEq] at hi
        subst hi
        exact ⟨hBL.lt, hBL.cell 4, hBL.cell 5⟩
      | i + 3, hi => simp at hi
    have hfc := formed_any w1.heap.size 3 3 [⟨Na, Aa, Ca, wsa⟩, ⟨Nb, Ab, Cb, wsb⟩, ⟨Nc, Ac, Cc, wsc⟩] w2 rfl (by decide) htbs (fun t ht => by
      simp only [List.mem_cons, List.not_mem_nil, or_false] at ht
      rcases ht with rfl | rfl | rfl
      · exact (HOKa.out).same hs2
      · exact (HOKb.out).same hs2
      · exact (HOKc.out).same hs2)
    rw [HFM.out, show fmE false = 5 from rfl] at hfc
    refine hfc.mono ?_
    clear hfc htbs hBL hw2
    rintro e w3 ⟨rfl, hs3⟩
    have hs13 : Same w1 w3 := hs2.trans hs3 (fun _ _ h => h)
    clear hs2 hs3
    replace HBXa := Lib.hid (HBXa.out.frm hs13 id)
    replace cXa0 : w3.cell? ⟨w.heap.size, 0, none⟩ = some (.int .i64 Na) := HBXa.out.cell 0
    replace cXa1 : w3.cell? ⟨w.heap.size, 1, none⟩ = some (.slice Aa wsa.length Ca) := HBXa.out.cell 1
    replace lXa := HBXa.out.lt
    replace fXa0 := HBXa.out.free 0
    replace fXa1 := HBXa.out.free 1
    replace HBXb := Lib.hid (HBXb.out.frm hs13 id)
    replace cXb0 : w3.cell? ⟨Xb, 0, none⟩ = some (.int .i64 Nb) := HBXb.out.cell 0
    replace cXb1 : w3.cell? ⟨Xb, 1, none⟩ = some (.slice Ab wsb.length Cb) := HBXb.out.cell 1
    replace lXb := HBXb.out.lt
    replace fXb0 := HBXb.out.free 0
    replace fXb1 := HBXb.out.free 1
    replace HBXc := Lib.hid (HBXc.out.frm hs13 id)
    replace cXc0 : w3.cell? ⟨Xc, 0, none⟩ = some (.int .i64 Nc) := HBXc.out.cell 0
    replace cXc1 : w3.cell? ⟨Xc, 1, none⟩ = some (.slice Ac wsc.length Cc) := HBXc.out.cell 1
    replace lXc := HBXc.out.lt
    replace fXc0 := HBXc.out.free 0
    replace fXc1 := HBXc.out.free 1
    replace HBR := Lib.hid (HBR.out.frm hs13 id)
    replace cR0 : w3.cell? ⟨R, 0, none⟩ = some (.int .i64 0) := HBR.out.cell 0
    replace cR1 : w3.cell? ⟨R, 1, none⟩ = some (.slice none 0 0) := HBR.out.cell 1
    replace lR := HBR.out.lt
    replace fR0 := HBR.out.free 0
    replace fR1 := HBR.out.free 1
    replace HS1 := Lib.hid (HS1.out.trans hs13 (fun _ _ h => h))
    clear hs13
    go_wp2
    refine wp_post fun we hwe => ?_
    have hBE : Blk we R 24 #[.int .i64 0, .slice none 0 0] := by
      rw [hwe]
      have := (HBR.out.set 0 (.int .i64 0)).set 1 (.slice none 0 0)
      simpa using this
    have hSE : Same w we := by rw [hwe]; exact (HS1.out.setNew 0 _ leR).setNew 1 _ leR
    have hr0 : we.cell? ⟨R, 0, none⟩ = some (.int .i64 0) := hBE.cell 0
    have hr1 : we.cell? ⟨R, 1, none⟩ = some (.slice none 0 0) := hBE.cell 1
    clear hwe hBE
    refine bodyPost_ret (v := .tuple #[.agg #[.int .i64 0, .slice none 0 0], .int .i64 5]) (by simp [results, Try.results34, go_sem, hr0, hr1]) rfl ?_
    exact ⟨none, 0, rfl, NewT.nil hSE⟩
  | true =>
    obtain ⟨n, rfl, rfl, rfl, hfa, hfb, hfc⟩ := fm_three hfr
    unfold RetA
    rw [show fmE true = 0 from rfl, show ansN n 0 = n from rfl, show ansL (tab (n : Int).toNat (iteF wsa wsb wsc)) 0 = tab n (iteF wsa wsb wsc) from rfl]
    have HFM := Lib.hid hfr
    have hn := hfa.n16
    have HFa := Lib.hid hfa
    have HFb := Lib.hid hfb
    have HFc := Lib.hid hfc
    clear hfr hfa hfb hfc
    have hp16 := pow_le16 hn
    have hMp0 : 0 < 2 ^ n := Nat.pow_pos (by omega)
    obtain ⟨M, hM⟩ : ∃ M, 2 ^ n = M := ⟨_, rfl⟩
    have hMp : 0 < M := by omega
    rw [hM] at hp16
    have HM := Lib.hid hM
    clear hM hMp0
    obtain ⟨G, hG⟩ : ∃ G, iteF wsa wsb wsc = G := ⟨_, rfl⟩
    rw [hG]
    have HG := Lib.hid hG
    clear hG
    go_enter Try.func34, Try.ntmps34
    go_upto_region 1 with fail
    refine wp_world fun w1 hw1 => ?_
    have hs1 : Same w w1 := by rw [hw1]; exact ((((Frm.refl _ _).alloc _).alloc _).alloc _).alloc _
    have hBXa : Blk w1 (w.heap.size) 24 #[.int .i64 n, .slice Aa wsa.length Ca] := by
      rw [hw1]
      have := ((((Blk.new w 24 #[.int .i64 n, .slice Aa wsa.length Ca]).alloc (.cells #[.int .i64 n, .slice Ab wsb.length Cb] 24)).alloc (.cells #[.int .i64 n, .slice Ac wsc.length Cc] 24)).alloc (.cells #[.int .i64 0, .slice none 0 0] 24))
      simpa using this
    have hBXb : Blk w1 (w.heap.size + 1) 24 #[.int .i64 n, .slice Ab wsb.length Cb] := by
      rw [hw1]
      have := (((Blk.new (w.alloc (.cells #[.int .i64 n, .slice Aa wsa.length Ca] 24)) 24 #[.int .i64 n, .slice Ab wsb.length Cb]).alloc (.cells #[.int .i64 n, .slice Ac wsc.length Cc] 24)).alloc (.cells #[.int .i64 0, .slice none 0 0] 24))
      simpa using this
    have hBXc : Blk w1 (w.heap.size + 1 + 1) 24 #[.int .i64 n, .slice Ac wsc.length Cc] := by
      rw [hw1]
      have := ((Blk.new ((w.alloc (.cells #[.int .i64 n, .slice Aa wsa.length Ca] 24)).alloc (.cells #[.int .i64 n, .slice Ab wsb.length Cb] 24)) 24 #[.int .i64 n, .slice Ac wsc.length Cc]).alloc (.cells #[.int .i64 0, .slice none 0 0] 24))
      simpa using this
    have hBR : Blk w1 (w.heap.size + 1 + 1 + 1) 24 #[.int .i64 0, .slice none 0 0] := by
      rw [hw1]
      have := (Blk.new (((w.alloc (.cells #[.int .i64 n, .slice Aa wsa.length Ca] 24)).alloc (.cells #[.int .i64 n, .slice Ab wsb.length Cb] 24)).alloc (.cells #[.int .i64 n, .slice Ac wsc.length Cc] 24)) 24 #[.int .i64 0, .slice none 0 0])
      simpa using this
    clear hw1
    obtain ⟨R, hR⟩ : ∃ b, w.heap.size + 1 + 1 + 1 = b := ⟨_, rfl⟩
    rw [hR] at hBR ⊢
    obtain ⟨Xc, hXc⟩ : ∃ b, w.heap.size + 1 + 1 = b := ⟨_, rfl⟩
    rw [hXc] at hBXc ⊢
    obtain ⟨Xb, hXb⟩ : ∃ b, w.heap.size + 1 = b := ⟨_, rfl⟩
    rw [hXb] at hBXb ⊢
    have leXb : w.heap.size ≤ Xb := by omega
    have leXc : w.heap.size ≤ Xc := by omega
    have leR : w.heap.size ≤ R := by omega
    have neXaXb : w.heap.size ≠ Xb := by omega
    have neXaXc : w.heap.size ≠ Xc := by omega
    have neXaR : w.heap.size ≠ R := by omega
    have neXbXc : Xb ≠ Xc := by omega
    have neXbR : Xb ≠ R := by omega
    have neXcR : Xc ≠ R := by omega
    clear hXb hXc hR
    have cXa0 : w1.cell? ⟨w.heap.size, 0, none⟩ = some (.int .i64 n) := hBXa.cell 0
    have cXa1 : w1.cell? ⟨w.heap.size, 1, none⟩ = some (.slice Aa wsa.length Ca) := hBXa.cell 1
    have lXa := hBXa.lt
    have fXa0 := hBXa.free 0
    have fXa1 := hBXa.free 1
    have HBXa := Lib.hid hBXa
    have cXb0 : w1.cell? ⟨Xb, 0, none⟩ = some (.int .i64 n) := hBXb.cell 0
    have cXb1 : w1.cell? ⟨Xb, 1, none⟩ = some (.slice Ab wsb.length Cb) := hBXb.cell 1
    have lXb := hBXb.lt
    have fXb0 := hBXb.free 0
    have fXb1 := hBXb.free 1
    have HBXb := Lib.hid hBXb
    have cXc0 : w1.cell? ⟨Xc, 0, none⟩ = some (.int .i64 n) := hBXc.cell 0
    have cXc1 : w1.cell? ⟨Xc, 1, none⟩ = some (.slice Ac wsc.length Cc) := hBXc.cell 1
    have lXc := hBXc.lt
    have fXc0 := hBXc.free 0
    have fXc1 := hBXc.free 1
    have HBXc := Lib.hid hBXc
    have cR0 : w1.cell? ⟨R, 0, none⟩ = some (.int .i64 0) := hBR.cell 0
    have cR1 : w1.cell? ⟨R, 1, none⟩ = some (.slice none 0 0) := hBR.cell 1
    have lR := hBR.lt
    have fR0 := hBR.free 0
    have fR1 := hBR.free 1
    have HBR := Lib.hid hBR
    have HS1 := Lib.hid hs1
    clear hs1 hBXa hBXb hBXc hBR
    have HOKa := Lib.hid (Ha.out.same HS1.out)
    have HOKb := Lib.hid (Hb.out.same HS1.out)
    have HOKc := Lib.hid (Hc.out.same HS1.out)
    go_wp2_with (fail)
    refine call_world fun w2 hw2 => ?_
    have hs2 : Same w1 w2 := by rw [hw2]; exact (Frm.refl _ _).alloc _
    have hBL : Blk w2 w1.heap.size 24 #[.int .i64 n, .slice Aa wsa.length Ca, .int .i64 n, .slice Ab wsb.length Cb, .int .i64 n, .slice Ac wsc.length Cc] := by rw [hw2]; exact Blk.new _ _ _
    have htbs : Tbs w2 w1.heap.size [⟨n, Aa, Ca, wsa⟩, ⟨n, Ab, Cb, wsb⟩, ⟨n, Ac, Cc, wsc⟩] := by
      intro i t hi
      match i, hi with
      | 0, hi =>
        simp only [List.getElem?_cons_zero, Option.some.injEq] at hi
        subst hi
        exact ⟨hBL.lt, hBL.cell 0, hBL.cell 1⟩
      | 1, hi =>
        simp only [List.getElem?_cons_zero, List.getElem?_cons_succ, Option.some.injEq] at hi
        subst hi
        exact ⟨hBL.lt, hBL.cell 2, hBL.cell 3⟩
      | 2, hi =>
        simp only [List.getElem?_cons_zero, List.getElem?_cons_succ, Option.some.injEq] at hi
        subst hi
        exact ⟨hBL.lt, hBL.cell 4, hBL.cell 5⟩
      | i + 3, hi => simp at hi
    have hfc := formed_any w1.heap.size 3 3 [⟨n, Aa, Ca, wsa⟩, ⟨n, Ab, Cb, wsb⟩, ⟨n, Ac, Cc, wsc⟩] w2 rfl (by decide) htbs (fun t ht => by
      simp only [List.mem_cons, List.not_mem_nil, or_false] at ht
      rcases ht with rfl | rfl | rfl
      · exact (HOKa.out).same hs2
      · exact (HOKb.out).same hs2
      · exact (HOKc.out).same hs2)
    rw [HFM.out, show fmE true = 0 from rfl] at hfc
    refine hfc.mono ?_
    clear hfc htbs hBL hw2
    rintro e w3 ⟨rfl, hs3⟩
    have hs13 : Same w1 w3 := hs2.trans hs3 (fun _ _ h => h)
    clear hs2 hs3
    replace HBXa := Lib.hid (HBXa.out.frm hs13 id)
    replace cXa0 : w3.cell? ⟨w.heap.size, 0, none⟩ = some (.int .i64 n) := HBXa.out.cell 0
    replace cXa1 : w3.cell? ⟨w.heap.size, 1, none⟩ = some (.slice Aa wsa.length Ca) := HBXa.out.cell 1
    replace lXa := HBXa.out.lt
    replace fXa0 := HBXa.out.free 0
    replace fXa1 := HBXa.out.free 1
    replace HBXb := Lib.hid (HBXb.out.frm hs13 id)
    replace cXb0 : w3.cell? ⟨Xb, 0, none⟩ = some (.int .i64 n) := HBXb.out.cell 0
    replace cXb1 : w3.cell? ⟨Xb, 1, none⟩ = some (.slice Ab wsb.length Cb) := HBXb.out.cell 1
    replace lXb := HBXb.out.lt
    replace fXb0 := HBXb.out.free 0
    replace fXb1 := HBXb.out.free 1
    replace HBXc := Lib.hid (HBXc.out.frm hs13 id)
    replace cXc0 : w3.cell? ⟨Xc, 0, none⟩ = some (.int .i64 n) := HBXc.out.cell 0
    replace cXc1 : w3.cell? ⟨Xc, 1, none⟩ = some (.slice Ac wsc.length Cc) := HBXc.out.cell 1
    replace lXc := HBXc.out.lt
    replace fXc0 := HBXc.out.free 0
    replace fXc1 := HBXc.out.free 1
    replace HBR := Lib.hid (HBR.out.frm hs13 id)
    replace cR0 : w3.cell? ⟨R, 0, none⟩ = some (.int .i64 0) := HBR.out.cell 0
    replace cR1 : w3.cell? ⟨R, 1, none⟩ = some (.slice none 0 0) := HBR.out.cell 1
    replace lR := HBR.out.lt
    replace fR0 := HBR.out.free 0
    replace fR1 := HBR.out.free 1
    replace HS1 := Lib.hid (HS1.out.trans hs13 (fun _ _ h => h))
    clear hs13
    go_upto_region 4 with fail
    refine wp_phS (fun _ => False) [([0, 2, 4], 1), ([], 3), ([], 5), ([6, 7], 8)] (by kernel_rfl) (by kernel_rfl) ?_
    simp only [wpPh, pick, List.map_cons, List.map_nil, List.getD_cons_zero, List.getD_cons_succ]
    have hs : Same w3 w3.drew := (Frm.refl _ _).drew
    repeat (any_goals (first | go_big_quiet_step (fail) | quiet_step (fail)))
    refine wpQuiet_nil ?_
    refine effStep_plain rfl fun K hK => ?_
    go_simp
    refine (values_any n Ca Aa wsa _ (Ha.out.same (HS1.out.trans hs (fun _ _ h => h))) HFa.out).mono ?_
    rintro e w4 ⟨Al, CL, rfl, hNB⟩
    rw [HM.out] at hNB
    obtain ⟨L, rfl, hLl⟩ := Own.form1 hNB.1 (by rw [vals_len]; exact hMp)
    have hLn := hNB.2.1 L ⟨_, rfl, rfl⟩
    have hOL := hNB.1
    rw [vals_len] at hOL
    have hs := hs.trans hNB.2.2 (fun _ _ h => h)
    rw [HM.out]
    refine hK _ _ (Lat.mk_ (Frm.mono hs (fun _ _ h => h.elim))) ?_
    clear hK K hNB
    repeat (any_goals (first | go_big_quiet_step (fail) | quiet_step (fail)))
    refine wpQuiet_nil ?_
    refine effStep_plain rfl fun K hK => ?_
    go_simp
    refine (values_any n Cb Ab wsb _ (Hb.out.same (HS1.out.trans hs (fun _ _ h => h))) HFb.out).mono ?_
    rintro e w5 ⟨Al, CP, rfl, hNB⟩
    rw [HM.out] at hNB
    obtain ⟨P, rfl, hPl⟩ := Own.form1 hNB.1 (by rw [vals_len]; exact hMp)
    have hPn := hNB.2.1 P ⟨_, rfl, rfl⟩
    have hOL := Own.frm hOL hNB.2.2 (fun _ _ => id)
    have hnePL : P ≠ L := by have := hLl; have := hNB.2.2.size; omega
    have hLl := Nat.lt_of_lt_of_le hLl hNB.2.2.size
    have hOP := hNB.1
    rw [vals_len] at hOP
    have hs := hs.trans hNB.2.2 (fun _ _ h => h)
    rw [HM.out]
    refine hK _ _ (Lat.mk_ (Frm.mono hs (fun _ _ h => h.elim))) ?_
    clear hK K hNB
    repeat (any_goals (first | go_big_quiet_step (fail) | quiet_step (fail)))
    refine wpQuiet_nil ?_
    refine effStep_plain rfl fun K hK => ?_
    go_simp
    refine (values_any n Cc Ac wsc _ (Hc.out.same (HS1.out.trans hs (fun _ _ h => h))) HFc.out).mono ?_
    rintro e w6 ⟨Al, CQ, rfl, hNB⟩
    rw [HM.out] at hNB
    obtain ⟨Q, rfl, hQl⟩ := Own.form1 hNB.1 (by rw [vals_len]; exact hMp)
    have hQn := hNB.2.1 Q ⟨_, rfl, rfl⟩
    have hOP := Own.frm hOP hNB.2.2 (fun _ _ => id)
    have hOL := Own.frm hOL hNB.2.2 (fun _ _ => id)
    have hneQP : Q ≠ P := by have := hPl; have := hNB.2.2.size; omega
    have hPl := Nat.lt_of_lt_of_le hPl hNB.2.2.size
    have hneQL : Q ≠ L := by have := hLl; have := hNB.2.2.size; omega
    have hLl := Nat.lt_of_lt_of_le hLl hNB.2.2.size
    have hOQ := hNB.1
    rw [vals_len] at hOQ
    have hs := hs.trans hNB.2.2 (fun _ _ h => h)
    rw [HM.out]
    refine hK _ _ (Lat.mk_ (Frm.mono hs (fun _ _ h => h.elim))) ?_
    clear hK K hNB
    repeat (any_goals (first | go_big_quiet_step (fail) | quiet_step (fail)))
    refine wpQuiet_nil ?_
    have hneXaL : w.heap.size ≠ L := by have := HBXa.out.lt; have h1 : w3.heap.size ≤ L := hLn; omega
    have hneXbL : Xb ≠ L := by have := HBXb.out.lt; have h1 : w3.heap.size ≤ L := hLn; omega
    have hneXcL : Xc ≠ L := by have := HBXc.out.lt; have h1 : w3.heap.size ≤ L := hLn; omega
    have hneRL : R ≠ L := by have := HBR.out.lt; have h1 : w3.heap.size ≤ L := hLn; omega
    have hDn : w.heap.size ≤ L := by have := HS1.out.size; have h1 : w3.heap.size ≤ L := hLn; omega
    rw [← vals_zero M G (vb wsa)] at hOL
    have HOD := Lib.hid hOL
    have HOP := Lib.hid hOP
    have HOQ := Lib.hid hOQ
    clear hOL hOP hOQ hLn hPn hQn
    have hsv := hs
    clear hs
    replace HBXa := Lib.hid (HBXa.out.frm hsv id)
    replace cXa0 : w6.cell? ⟨w.heap.size, 0, none⟩ = some (.int .i64 n) := HBXa.out.cell 0
    replace cXa1 : w6.cell? ⟨w.heap.size, 1, none⟩ = some (.slice Aa wsa.length Ca) := HBXa.out.cell 1
    replace lXa := HBXa.out.lt
    replace fXa0 := HBXa.out.free 0
    replace fXa1 := HBXa.out.free 1
    replace HBXb := Lib.hid (HBXb.out.frm hsv id)
    replace cXb0 : w6.cell? ⟨Xb, 0, none⟩ = some (.int .i64 n) := HBXb.out.cell 0
    replace cXb1 : w6.cell? ⟨Xb, 1, none⟩ = some (.slice Ab wsb.length Cb) := HBXb.out.cell 1
    replace lXb := HBXb.out.lt
    replace fXb0 := HBXb.out.free 0
    replace fXb1 := HBXb.out.free 1
    replace HBXc := Lib.hid (HBXc.out.frm hsv id)
    replace cXc0 : w6.cell? ⟨Xc, 0, none⟩ = some (.int .i64 n) := HBXc.out.cell 0
    replace cXc1 : w6.cell? ⟨Xc, 1, none⟩ = some (.slice Ac wsc.length Cc) := HBXc.out.cell 1
    replace lXc := HBXc.out.lt
    replace fXc0 := HBXc.out.free 0
    replace fXc1 := HBXc.out.free 1
    replace HBR := Lib.hid (HBR.out.frm hsv id)
    replace cR0 : w6.cell? ⟨R, 0, none⟩ = some (.int .i64 0) := HBR.out.cell 0
    replace cR1 : w6.cell? ⟨R, 1, none⟩ = some (.slice none 0 0) := HBR.out.cell 1
    replace lR := HBR.out.lt
    replace fR0 := HBR.out.free 0
    replace fR1 := HBR.out.free 1
    replace HS1 := Lib.hid (HS1.out.trans hsv (fun _ _ h => h))
    clear hsv
    go_wp2
    go_loopw [30] (fun i wr => ∃ k : Nat, k ≤ M ∧ i = .int .i64 k ∧ Same w wr ∧ Blk wr w.heap.size 24 #[.int .i64 n, .slice Aa wsa.length Ca] ∧ Blk wr Xb 24 #[.int .i64 n, .slice Ab wsb.length Cb] ∧ Blk wr Xc 24 #[.int .i64 n, .slice Ac wsc.length Cc] ∧ Blk wr R 24 #[.int .i64 0, .slice none 0 0] ∧ OwnB wr (some ⟨P, 0, none⟩) M CP (vals M (vb wsb)) ∧ OwnB wr (some ⟨Q, 0, none⟩) M CQ (vals M (vb wsc)) ∧ OwnB wr (some ⟨L, 0, none⟩) M CL (vals M (mixF G (vb wsa) k))) (fun i _ => M - (intOf i).toNat)
    case atStart => exact ⟨0, by omega, rfl, HS1.out, HBXa.out, HBXb.out, HBXc.out, HBR.out, HOP.out, HOQ.out, HOD.out⟩
    case round =>
      obtain ⟨k, hk, rfl, hs, hBXa, hBXb, hBXc, hBR, hOP, hOQ, hOD⟩ := hrel
      have HSr := Lib.hid hs
      have HBrXa := Lib.hid hBXa
      have HBrXb := Lib.hid hBXb
      have HBrXc := Lib.hid hBXc
      have HBrR := Lib.hid hBR
      have HOrP := Lib.hid hOP
      have HOrQ := Lib.hid hOQ
      by_cases hlt : k < M
      · have hk0 : (0 : Int) ≤ k := by omega
        have hk1 : (k : Int) < M := by omega
        have HST := Lib.hid (OwnB.put hOD hlt)
        obtain ⟨hDl, hDc⟩ := OwnB.cell hOD hlt
        have hDf := Own.free hOD k
        rw [mix_at] at hDc
        obtain ⟨hPl, hPc⟩ := OwnB.cell hOP hlt
        obtain ⟨hQl, hQc⟩ := OwnB.cell hOQ hlt
        have hGk : G k = if vb wsa k then vb wsb k else vb wsc k := by rw [← HG.out]; rfl
        rw [hGk] at HST
        clear hs hBXa hBXb hBXc hBR hOP hOQ hOD hGk
        generalize vb wsa k = za at *
        generalize vb wsb k = zb at *
        generalize vb wsc k = zc at *
        cases za
        · rw [if_neg (by decide)] at HST
          go_wp2
          go_roundw
          case rel => exact ⟨k + 1, by omega, by go_num, HSr.out.setNew k _ hDn, HBrXa.out.far (p := ⟨L, k, none⟩) hneXaL _, HBrXb.out.far (p := ⟨L, k, none⟩) hneXbL _, HBrXc.out.far (p := ⟨L, k, none⟩) hneXcL _, HBrR.out.far (p := ⟨L, k, none⟩) hneRL _, Own.far (p := ⟨L, k, none⟩) HOrP.out (fun a ha h => by injection ha with ha; subst ha; exact hnePL h) _, Own.far (p := ⟨L, k, none⟩) HOrQ.out (fun a ha h => by injection ha with ha; subst ha; exact hneQL h) _, HST.out⟩
          case measure => simp [intOf]; omega
        · rw [if_pos rfl] at HST
          go_wp2
          go_roundw
          case rel => exact ⟨k + 1, by omega, by go_num, HSr.out.setNew k _ hDn, HBrXa.out.far (p := ⟨L, k, none⟩) hneXaL _, HBrXb.out.far (p := ⟨L, k, none⟩) hneXbL _, HBrXc.out.far (p := ⟨L, k, none⟩) hneXcL _, HBrR.out.far (p := ⟨L, k, none⟩) hneRL _, Own.far (p := ⟨L, k, none⟩) HOrP.out (fun a ha h => by injection ha with ha; subst ha; exact hnePL h) _, Own.far (p := ⟨L, k, none⟩) HOrQ.out (fun a ha h => by injection ha with ha; subst ha; exact hneQL h) _, HST.out⟩
          case measure => simp [intOf]; omega
      · obtain rfl : k = M := by omega
        rw [vals_full] at hOD
        have HODr := Lib.hid hOD
        have cXa0 : wr.cell? ⟨w.heap.size, 0, none⟩ = some (.int .i64 n) := hBXa.cell 0
        have fXa0 := hBXa.free 0
        have cXa1 : wr.cell? ⟨w.heap.size, 1, none⟩ = some (.slice Aa wsa.length Ca) := hBXa.cell 1
        have fXa1 := hBXa.free 1
        have lXa := hBXa.lt
        have cXb0 : wr.cell? ⟨Xb, 0, none⟩ = some (.int .i64 n) := hBXb.cell 0
        have fXb0 := hBXb.free 0
        have cXb1 : wr.cell? ⟨Xb, 1, none⟩ = some (.slice Ab wsb.length Cb) := hBXb.cell 1
        have fXb1 := hBXb.free 1
        have lXb := hBXb.lt
        have cXc0 : wr.cell? ⟨Xc, 0, none⟩ = some (.int .i64 n) := hBXc.cell 0
        have fXc0 := hBXc.free 0
        have cXc1 : wr.cell? ⟨Xc, 1, none⟩ = some (.slice Ac wsc.length Cc) := hBXc.cell 1
        have fXc1 := hBXc.free 1
        have lXc := hBXc.lt
        have cR0 : wr.cell? ⟨R, 0, none⟩ = some (.int .i64 0) := hBR.cell 0
        have fR0 := hBR.free 0
        have cR1 : wr.cell? ⟨R, 1, none⟩ = some (.slice none 0 0) := hBR.cell 1
        have fR1 := hBR.free 1
        have lR := hBR.lt
        clear hs  hBXa  hBXb  hBXc  hBR  hOP  hOQ  hOD
        go_wp2_with (fail)
        rw [← HM.out] at HODr ⊢
        refine (rof_any n _ (some ⟨L, 0, none⟩) G wr hn (Own.sl (fun _ => rfl) HODr.out)).mono ?_
        rintro e w8 ⟨Aq, Cq, rfl, hNT⟩
        have hoq := hNT.1
        have hfq := hNT.2.1
        have hsq := hNT.2.2
        have hRq : ∀ a, Aq = some a → a.block ≠ R := fun a ha h => by
          have := hfq a.block ⟨a, ha, rfl⟩
          omega
        have HBRq := Lib.hid (HBrR.out.frm hsq id)
        have HSq := Lib.hid (HSr.out.trans hsq (fun _ _ h => h))
        have hfq' : Fresh w.heap.size Aq := fun b hb => by have := hfq b hb; have := HSr.out.size; omega
        have HOQ := Lib.hid hoq
        have HFQ := Lib.hid hfq'
        have hcR0 : w8.cell? ⟨R, 0, none⟩ = some (.int .i64 0) := HBRq.out.cell 0
        have hcR1 : w8.cell? ⟨R, 1, none⟩ = some (.slice none 0 0) := HBRq.out.cell 1
        have hfR0 := HBRq.out.free 0
        have hfR1 := HBRq.out.free 1
        have hlR := HBRq.out.lt
        clear hNT hoq hfq hsq hfq'
        go_wp2
        refine wp_post fun we hwe => ?_
        have hBE : Blk we R 24 #[.int .i64 n, .slice Aq (tab n G).length Cq] := by
          rw [hwe]
          have := (HBRq.out.set 0 (.int .i64 n)).set 1 (.slice Aq (tab n G).length Cq)
          simpa using this
        have hSE : Same w we := by rw [hwe]; exact (HSq.out.setNew 0 _ leR).setNew 1 _ leR
        have hOE : OwnW we Aq (tab n G).length Cq (tab n G) := by
          rw [hwe]
          exact (Own.far (p := ⟨R, 0, none⟩) HOQ.out hRq _).far (p := ⟨R, 1, none⟩) hRq _
        have hr0 : we.cell? ⟨R, 0, none⟩ = some (.int .i64 n) := hBE.cell 0
        have hr1 : we.cell? ⟨R, 1, none⟩ = some (.slice Aq (tab n G).length Cq) := hBE.cell 1
        clear hwe hBE
        refine bodyPost_ret (v := .tuple #[.agg #[.int .i64 n, .slice Aq (tab n G).length Cq], .int .i64 0]) (by simp [results, Try.results34, go_sem, hr0, hr1]) rfl ?_
        exact ⟨Aq, Cq, rfl, hOE, HFQ.out, hSE⟩
end Go.Proofs.Ytlggmoghgoeiiaa
