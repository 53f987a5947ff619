/- Contracts and plain laws, put together in one file. No condition. -/
import Derived.Test.YtlggmoghgoeiiaaJTruthKeeps3


/- Truth tables: the reference's DocNot, DocBinary, DocIte. -/
namespace Go.Proofs.Ytlggmoghgoeiiaa
open Go.RowKit Go.Tk

set_option maxRecDepth 100000 in
set_option maxHeartbeats 8000000 in
theorem docNot_any (Na : Int) (Aa : Option Addr) (Ca : Nat) (wsa : List Nat) (w : World) (h : TbOk w ⟨Na, Aa, Ca, wsa⟩) : Calls Try.prog 30 #[.agg #[.int .i64 Na, .slice Aa wsa.length Ca]] w (RetA w Na (tab Na.toNat (notF wsa)) (fmE (frm Na wsa))) := by
  have Ha := Lib.hid h
  clear h
  cases hfr : frm Na wsa with
  | false =>
    unfold RetA
    rw [show fmE false = 5 from rfl, show ansN Na 5 = 0 from rfl, show ansL (tab Na.toNat (notF wsa)) 5 = [] from rfl]
    have HFM := Lib.hid ((frm_one Na Aa Ca wsa).trans hfr)
    clear hfr
    go_enter Try.func30, Try.ntmps30
    go_upto_region 1 with fail
    refine wp_world fun w1 hw1 => ?_
    have hs1 : Same w w1 := by rw [hw1]; exact ((Frm.refl _ _).alloc _).alloc _
    have hBXa : Blk w1 (w.heap.size) 24 #[.int .i64 Na, .slice Aa wsa.length Ca] := by
      rw [hw1]
      have := ((Blk.new w 24 #[.int .i64 Na, .slice Aa wsa.length Ca]).alloc (.cells #[.int .i64 0, .slice none 0 0] 24))
      simpa using this
    have hBR : Blk w1 (w.heap.size + 1) 24 #[.int .i64 0, .slice none 0 0] := by
      rw [hw1]
      have := (Blk.new (w.alloc (.cells #[.int .i64 Na, .slice Aa wsa.length Ca] 24)) 24 #[.int .i64 0, .slice none 0 0])
      simpa using this
    clear hw1
    obtain ⟨R, hR⟩ : ∃ b, w.heap.size + 1 = b := ⟨_, rfl⟩
    rw [hR] at hBR ⊢
    have leR : w.heap.size ≤ R := by omega
    have neXaR : w.heap.size ≠ R := by omega
    clear hR
    have cXa0 : w1.cell? ⟨w.heap.size, 0, none⟩ = some (.int .i64 Na) := hBXa.cell 0
    have cXa1 : w1.cell? ⟨w.heap.size, 1, none⟩ = some (.slice Aa wsa.length Ca) := hBXa.cell 1
    have lXa := hBXa.lt
    have fXa0 := hBXa.free 0
    have fXa1 := hBXa.free 1
    have HBXa := Lib.hid hBXa
    have cR0 : w1.cell? ⟨R, 0, none⟩ = some (.int .i64 0) := hBR.cell 0
    have cR1 : w1.cell? ⟨R, 1, none⟩ = some (.slice none 0 0) := hBR.cell 1
    have lR := hBR.lt
    have fR0 := hBR.free 0
    have fR1 := hBR.free 1
    have HBR := Lib.hid hBR
    have HS1 := Lib.hid hs1
    clear hs1 hBXa hBR
    have HOKa := Lib.hid (Ha.out.same HS1.out)
    go_wp2_with (fail)
    refine call_world fun w2 hw2 => ?_
    have hs2 : Same w1 w2 := by rw [hw2]; exact (Frm.refl _ _).alloc _
    have hBL : Blk w2 w1.heap.size 24 #[.int .i64 Na, .slice Aa wsa.length Ca] := by rw [hw2]; exact Blk.new _ _ _
    have htbs : Tbs w2 w1.heap.size [⟨Na, Aa, Ca, wsa⟩] := by
      intro i t hi
      match i, hi with
      | 0, hi =>
        simp only [List.getElem?_cons_zero, Option.some.injEq] at hi
        subst hi
        exact ⟨hBL.lt, hBL.cell 0, hBL.cell 1⟩
      | i + 1, hi => simp at hi
    have hfc := formed_any w1.heap.size 1 1 [⟨Na, Aa, Ca, wsa⟩] w2 rfl (by decide) htbs (fun t ht => by
      simp only [List.mem_cons, List.not_mem_nil, or_false] at ht
      rcases ht with rfl
      · exact (HOKa.out).same hs2)
    rw [HFM.out, show fmE false = 5 from rfl] at hfc
    refine hfc.mono ?_
    clear hfc htbs hBL hw2
    rintro e w3 ⟨rfl, hs3⟩
    have hs13 : Same w1 w3 := hs2.trans hs3 (fun _ _ h => h)
    clear hs2 hs3
    replace HBXa := Lib.hid (HBXa.out.frm hs13 id)
    replace cXa0 : w3.cell? ⟨w.heap.size, 0, none⟩ = some (.int .i64 Na) := HBXa.out.cell 0
    replace cXa1 : w3.cell? ⟨w.heap.size, 1, none⟩ = some (.slice Aa wsa.length Ca) := HBXa.out.cell 1
    replace lXa := HBXa.out.lt
    replace fXa0 := HBXa.out.free 0
    replace fXa1 := HBXa.out.free 1
    replace HBR := Lib.hid (HBR.out.frm hs13 id)
    replace cR0 : w3.cell? ⟨R, 0, none⟩ = some (.int .i64 0) := HBR.out.cell 0
    replace cR1 : w3.cell? ⟨R, 1, none⟩ = some (.slice none 0 0) := HBR.out.cell 1
    replace lR := HBR.out.lt
    replace fR0 := HBR.out.free 0
    replace fR1 := HBR.out.free 1
    replace HS1 := Lib.hid (HS1.out.trans hs13 (fun _ _ h => h))
    clear hs13
    go_wp2
    refine wp_post fun we hwe => ?_
    have hBE : Blk we R 24 #[.int .i64 0, .slice none 0 0] := by
      rw [hwe]
      have := (HBR.out.set 0 (.int .i64 0)).set 1 (.slice none 0 0)
      simpa using this
    have hSE : Same w we := by rw [hwe]; exact (HS1.out.setNew 0 _ leR).setNew 1 _ leR
    have hr0 : we.cell? ⟨R, 0, none⟩ = some (.int .i64 0) := hBE.cell 0
    have hr1 : we.cell? ⟨R, 1, none⟩ = some (.slice none 0 0) := hBE.cell 1
    clear hwe hBE
    refine bodyPost_ret (v := .tuple #[.agg #[.int .i64 0, .slice none 0 0], .int .i64 5]) (by simp [results, Try.results30, go_sem, hr0, hr1]) rfl ?_
    exact ⟨none, 0, rfl, NewT.nil hSE⟩
  | true =>
    obtain ⟨n, rfl, hform⟩ := frm_true hfr
    unfold RetA
    rw [show fmE true = 0 from rfl, show ansN n 0 = n from rfl, show ansL (tab (n : Int).toNat (notF wsa)) 0 = tab n (notF wsa) from rfl]
    have HFM := Lib.hid ((frm_one n Aa Ca wsa).trans hfr)
    have hn := hform.n16
    have HFa := Lib.hid hform
    clear hfr hform
    have hp16 := pow_le16 hn
    have hMp0 : 0 < 2 ^ n := Nat.pow_pos (by omega)
    obtain ⟨M, hM⟩ : ∃ M, 2 ^ n = M := ⟨_, rfl⟩
    have hMp : 0 < M := by omega
    rw [hM] at hp16
    have HM := Lib.hid hM
    clear hM hMp0
    obtain ⟨G, hG⟩ : ∃ G, notF wsa = G := ⟨_, rfl⟩
    rw [hG]
    have HG := Lib.hid hG
    clear hG
    go_enter Try.func30, Try.ntmps30
    go_upto_region 1 with fail
    refine wp_world fun w1 hw1 => ?_
    have hs1 : Same w w1 := by rw [hw1]; exact ((Frm.refl _ _).alloc _).alloc _
    have hBXa : Blk w1 (w.heap.size) 24 #[.int .i64 n, .slice Aa wsa.length Ca] := by
      rw [hw1]
      have := ((Blk.new w 24 #[.int .i64 n, .slice Aa wsa.length Ca]).alloc (.cells #[.int .i64 0, .slice none 0 0] 24))
      simpa using this
    have hBR : Blk w1 (w.heap.size + 1) 24 #[.int .i64 0, .slice none 0 0] := by
      rw [hw1]
      have := (Blk.new (w.alloc (.cells #[.int .i64 n, .slice Aa wsa.length Ca] 24)) 24 #[.int .i64 0, .slice none 0 0])
      simpa using this
    clear hw1
    obtain ⟨R, hR⟩ : ∃ b, w.heap.size + 1 = b := ⟨_, rfl⟩
    rw [hR] at hBR ⊢
    have leR : w.heap.size ≤ R := by omega
    have neXaR : w.heap.size ≠ R := by omega
    clear hR
    have cXa0 : w1.cell? ⟨w.heap.size, 0, none⟩ = some (.int .i64 n) := hBXa.cell 0
    have cXa1 : w1.cell? ⟨w.heap.size, 1, none⟩ = some (.slice Aa wsa.length Ca) := hBXa.cell 1
    have lXa := hBXa.lt
    have fXa0 := hBXa.free 0
    have fXa1 := hBXa.free 1
    have HBXa := Lib.hid hBXa
    have cR0 : w1.cell? ⟨R, 0, none⟩ = some (.int .i64 0) := hBR.cell 0
    have cR1 : w1.cell? ⟨R, 1, none⟩ = some (.slice none 0 0) := hBR.cell 1
    have lR := hBR.lt
    have fR0 := hBR.free 0
    have fR1 := hBR.free 1
    have HBR := Lib.hid hBR
    have HS1 := Lib.hid hs1
    clear hs1 hBXa hBR
    have HOKa := Lib.hid (Ha.out.same HS1.out)
    go_wp2_with (fail)
    refine call_world fun w2 hw2 => ?_
    have hs2 : Same w1 w2 := by rw [hw2]; exact (Frm.refl _ _).alloc _
    have hBL : Blk w2 w1.heap.size 24 #[.int .i64 n, .slice Aa wsa.length Ca] := by rw [hw2]; exact Blk.new _ _ _
    have htbs : Tbs w2 w1.heap.size [⟨n, Aa, Ca, wsa⟩] := by
      intro i t hi
      match i, hi with
      | 0, hi =>
        simp only [List.getElem?_cons_zero, Option.some.injEq] at hi
        subst hi
        exact ⟨hBL.lt, hBL.cell 0, hBL.cell 1⟩
      | i + 1, hi => simp at hi
    have hfc := formed_any w1.heap.size 1 1 [⟨n, Aa, Ca, wsa⟩] w2 rfl (by decide) htbs (fun t ht => by
      simp only [List.mem_cons, List.not_mem_nil, or_false] at ht
      rcases ht with rfl
      · exact (HOKa.out).same hs2)
    rw [HFM.out, show fmE true = 0 from rfl] at hfc
    refine hfc.mono ?_
    clear hfc htbs hBL hw2
    rintro e w3 ⟨rfl, hs3⟩
    have hs13 : Same w1 w3 := hs2.trans hs3 (fun _ _ h => h)
    clear hs2 hs3
    replace HBXa := Lib.hid (HBXa.out.frm hs13 id)
    replace cXa0 : w3.cell? ⟨w.heap.size, 0, none⟩ = some (.int .i64 n) := HBXa.out.cell 0
    replace cXa1 : w3.cell? ⟨w.heap.size, 1, none⟩ = some (.slice Aa wsa.length Ca) := HBXa.out.cell 1
    replace lXa := HBXa.out.lt
    replace fXa0 := HBXa.out.free 0
    replace fXa1 := HBXa.out.free 1
    replace HBR := Lib.hid (HBR.out.frm hs13 id)
    replace cR0 : w3.cell? ⟨R, 0, none⟩ = some (.int .i64 0) := HBR.out.cell 0
    replace cR1 : w3.cell? ⟨R, 1, none⟩ = some (.slice none 0 0) := HBR.out.cell 1
    replace lR := HBR.out.lt
    replace fR0 := HBR.out.free 0
    replace fR1 := HBR.out.free 1
    replace HS1 := Lib.hid (HS1.out.trans hs13 (fun _ _ h => h))
    clear hs13
    go_wp2_with (fail)
    refine (values_any n Ca Aa wsa w3 (Ha.out.same HS1.out) HFa.out).mono ?_
    rintro e w4 ⟨Al, CL, rfl, hNB⟩
    rw [HM.out] at hNB ⊢
    obtain ⟨L, rfl, hLl⟩ := Own.form1 hNB.1 (by rw [vals_len]; exact hMp)
    have hLn : w3.heap.size ≤ L := hNB.2.1 L ⟨_, rfl, rfl⟩
    have hsv := hNB.2.2
    have hOL := hNB.1
    rw [vals_len] at hOL
    have HOL := Lib.hid hOL
    clear hNB hOL
    have hneXaL : w.heap.size ≠ L := by have := HBXa.out.lt; omega
    have hneRL : R ≠ L := by have := HBR.out.lt; omega
    have hDn : w.heap.size ≤ L := by have := HS1.out.size; omega
    have hOL := HOL.out
    rw [← vals_zero M G (vb wsa)] at hOL
    have HOD := Lib.hid hOL
    clear hOL HOL
    replace HBXa := Lib.hid (HBXa.out.frm hsv id)
    replace cXa0 : w4.cell? ⟨w.heap.size, 0, none⟩ = some (.int .i64 n) := HBXa.out.cell 0
    replace cXa1 : w4.cell? ⟨w.heap.size, 1, none⟩ = some (.slice Aa wsa.length Ca) := HBXa.out.cell 1
    replace lXa := HBXa.out.lt
    replace fXa0 := HBXa.out.free 0
    replace fXa1 := HBXa.out.free 1
    replace HBR := Lib.hid (HBR.out.frm hsv id)
    replace cR0 : w4.cell? ⟨R, 0, none⟩ = some (.int .i64 0) := HBR.out.cell 0
    replace cR1 : w4.cell? ⟨R, 1, none⟩ = some (.slice none 0 0) := HBR.out.cell 1
    replace lR := HBR.out.lt
    replace fR0 := HBR.out.free 0
    replace fR1 := HBR.out.free 1
    replace HS1 := Lib.hid (HS1.out.trans hsv (fun _ _ h => h))
    clear hsv
    go_wp2
    go_loopw [18] (fun i wr => ∃ k : Nat, k ≤ M ∧ i = .int .i64 k ∧ Same w wr ∧ Blk wr w.heap.size 24 #[.int .i64 n, .slice Aa wsa.length Ca] ∧ Blk wr R 24 #[.int .i64 0, .slice none 0 0] ∧ OwnB wr (some ⟨L, 0, none⟩) M CL (vals M (mixF G (vb wsa) k))) (fun i _ => M - (intOf i).toNat)
    case atStart => exact ⟨0, by omega, rfl, HS1.out, HBXa.out, HBR.out, HOD.out⟩
    case round =>
      obtain ⟨k, hk, rfl, hs, hBXa, hBR, hOD⟩ := hrel
      have HSr := Lib.hid hs
      have HBrXa := Lib.hid hBXa
      have HBrR := Lib.hid hBR
      by_cases hlt : k < M
      · have hk0 : (0 : Int) ≤ k := by omega
        have hk1 : (k : Int) < M := by omega
        have HST := Lib.hid (OwnB.put hOD hlt)
        obtain ⟨hDl, hDc⟩ := OwnB.cell hOD hlt
        have hDf := Own.free hOD k
        rw [mix_at] at hDc
        have hGk : G k = !vb wsa k := by rw [← HG.out]; rfl
        rw [hGk] at HST
        clear hs hBXa hBR hOD hGk
        generalize vb wsa k = z at *
        go_wp2
        go_roundw
        case rel => exact ⟨k + 1, by omega, by go_num, HSr.out.setNew k _ hDn, HBrXa.out.far (p := ⟨L, k, none⟩) hneXaL _, HBrR.out.far (p := ⟨L, k, none⟩) hneRL _, HST.out⟩
        case measure => simp [intOf]; omega
      · obtain rfl : k = M := by omega
        rw [vals_full] at hOD
        have HODr := Lib.hid hOD
        have cXa0 : wr.cell? ⟨w.heap.size, 0, none⟩ = some (.int .i64 n) := hBXa.cell 0
        have fXa0 := hBXa.free 0
        have cXa1 : wr.cell? ⟨w.heap.size, 1, none⟩ = some (.slice Aa wsa.length Ca) := hBXa.cell 1
        have fXa1 := hBXa.free 1
        have lXa := hBXa.lt
        have cR0 : wr.cell? ⟨R, 0, none⟩ = some (.int .i64 0) := hBR.cell 0
        have fR0 := hBR.free 0
        have cR1 : wr.cell? ⟨R, 1, none⟩ = some (.slice none 0 0) := hBR.cell 1
        have fR1 := hBR.free 1
        have lR := hBR.lt
        clear hs  hBXa  hBR  hOD
        go_wp2_with (fail)
        rw [← HM.out] at HODr ⊢
        refine (rof_any n _ (some ⟨L, 0, none⟩) G wr hn (Own.sl (fun _ => rfl) HODr.out)).mono ?_
        rintro e w8 ⟨Aq, Cq, rfl, hNT⟩
        have hoq := hNT.1
        have hfq := hNT.2.1
        have hsq := hNT.2.2
        have hRq : ∀ a, Aq = some a → a.block ≠ R := fun a ha h => by
          have := hfq a.block ⟨a, ha, rfl⟩
          omega
        have HBRq := Lib.hid (HBrR.out.frm hsq id)
        have HSq := Lib.hid (HSr.out.trans hsq (fun _ _ h => h))
        have hfq' : Fresh w.heap.size Aq := fun b hb => by have := hfq b hb; have := HSr.out.size; omega
        have HOQ := Lib.hid hoq
        have HFQ := Lib.hid hfq'
        have hcR0 : w8.cell? ⟨R, 0, none⟩ = some (.int .i64 0) := HBRq.out.cell 0
        have hcR1 : w8.cell? ⟨R, 1, none⟩ = some (.slice none 0 0) := HBRq.out.cell 1
        have hfR0 := HBRq.out.free 0
        have hfR1 := HBRq.out.free 1
        have hlR := HBRq.out.lt
        clear hNT hoq hfq hsq hfq'
        go_wp2
        refine wp_post fun we hwe => ?_
        have hBE : Blk we R 24 #[.int .i64 n, .slice Aq (tab n G).length Cq] := by
          rw [hwe]
          have := (HBRq.out.set 0 (.int .i64 n)).set 1 (.slice Aq (tab n G).length Cq)
          simpa using this
        have hSE : Same w we := by rw [hwe]; exact (HSq.out.setNew 0 _ leR).setNew 1 _ leR
        have hOE : OwnW we Aq (tab n G).length Cq (tab n G) := by
          rw [hwe]
          exact (Own.far (p := ⟨R, 0, none⟩) HOQ.out hRq _).far (p := ⟨R, 1, none⟩) hRq _
        have hr0 : we.cell? ⟨R, 0, none⟩ = some (.int .i64 n) := hBE.cell 0
        have hr1 : we.cell? ⟨R, 1, none⟩ = some (.slice Aq (tab n G).length Cq) := hBE.cell 1
        clear hwe hBE
        refine bodyPost_ret (v := .tuple #[.agg #[.int .i64 n, .slice Aq (tab n G).length Cq], .int .i64 0]) (by simp [results, Try.results30, go_sem, hr0, hr1]) rfl ?_
        exact ⟨Aq, Cq, rfl, hOE, HFQ.out, hSE⟩
set_option maxRecDepth 100000 in
set_option maxHeartbeats 8000000 in
theorem docBinary_any (op : Nat) (Na : Int) (Aa : Option Addr) (Ca : Nat) (wsa : List Nat) (Nb : Int) (Ab : Option Addr) (Cb : Nat) (wsb : List Nat) (w : World) (ha : TbOk w ⟨Na, Aa, Ca, wsa⟩) (hb : TbOk w ⟨Nb, Ab, Cb, wsb⟩) : Calls Try.prog 32 #[.int .u8 op, .agg #[.int .i64 Na, .slice Aa wsa.length Ca], .agg #[.int .i64 Nb, .slice Ab wsb.length Cb]] w (RetA w Na (tab Na.toNat (binF op wsa wsb)) (binE op (fm [⟨Na, Aa, Ca, wsa⟩, ⟨Nb, Ab, Cb, wsb⟩]))) := by
  have Ha := Lib.hid ha
  have Hb := Lib.hid hb
  clear ha hb
  by_cases h15 : 15 < op
  · have h15' : (op : Int) > 15 := by omega
    unfold RetA
    unfold binE
    rw [if_pos h15, show ansN Na 1 = 0 from rfl, show ansL (tab Na.toNat (binF op wsa wsb)) 1 = [] from rfl]
    clear h15
    go_enter Try.func32, Try.ntmps32
    go_upto_region 1 with fail
    refine wp_world fun w1 hw1 => ?_
    have hs1 : Same w w1 := by rw [hw1]; exact (((Frm.refl _ _).alloc _).alloc _).alloc _
    have hBXa : Blk w1 (w.heap.size) 24 #[.int .i64 Na, .slice Aa wsa.length Ca] := by
      rw [hw1]
      have := (((Blk.new w 24 #[.int .i64 Na, .slice Aa wsa.length Ca]).alloc (.cells #[.int .i64 Nb, .slice Ab wsb.length Cb] 24)).alloc (.cells #[.int .i64 0, .slice none 0 0] 24))
      simpa using this
    have hBXb : Blk w1 (w.heap.size + 1) 24 #[.int .i64 Nb, .slice Ab wsb.length Cb] := by
      rw [hw1]
      have := ((Blk.new (w.alloc (.cells #[.int .i64 Na, .slice Aa wsa.length Ca] 24)) 24 #[.int .i64 Nb, .slice Ab wsb.length Cb]).alloc (.cells #[.int .i64 0, .slice none 0 0] 24))
      simpa using this
    have hBR : Blk w1 (w.heap.size + 1 + 1) 24 #[.int .i64 0, .slice none 0 0] := by
      rw [hw1]
      have := (Blk.new ((w.alloc (.cells #[.int .i64 Na, .slice Aa wsa.length Ca] 24)).alloc (.cells #[.int .i64 Nb, .slice Ab wsb.length Cb] 24)) 24 #[.int .i64 0, .slice none 0 0])
      simpa using this
    clear hw1
    obtain ⟨R, hR⟩ : ∃ b, w.heap.size + 1 + 1 = b := ⟨_, rfl⟩
    rw [hR] at hBR ⊢
    obtain ⟨Xb, hXb⟩ : ∃ b, w.heap.size + 1 = b := ⟨_, rfl⟩
    rw [hXb] at hBXb ⊢
    have leXb : w.heap.size ≤ Xb := by omega
    have leR : w.heap.size ≤ R := by omega
    have neXaXb : w.heap.size ≠ Xb := by omega
    have neXaR : w.heap.size ≠ R := by omega
    have neXbR : Xb ≠ R := by omega
    clear hXb hR
    have cXa0 : w1.cell? ⟨w.heap.size, 0, none⟩ = some (.int .i64 Na) := hBXa.cell 0
    have cXa1 : w1.cell? ⟨w.heap.size, 1, none⟩ = some (.slice Aa wsa.length Ca) := hBXa.cell 1
    have lXa := hBXa.lt
    have fXa0 := hBXa.free 0
    have fXa1 := hBXa.free 1
    have HBXa := Lib.hid hBXa
    have cXb0 : w1.cell? ⟨Xb, 0, none⟩ = some (.int .i64 Nb) := hBXb.cell 0
    have cXb1 : w1.cell? ⟨Xb, 1, none⟩ = some (.slice Ab wsb.length Cb) := hBXb.cell 1
    have lXb := hBXb.lt
    have fXb0 := hBXb.free 0
    have fXb1 := hBXb.free 1
    have HBXb := Lib.hid hBXb
    have cR0 : w1.cell? ⟨R, 0, none⟩ = some (.int .i64 0) := hBR.cell 0
    have cR1 : w1.cell? ⟨R, 1, none⟩ = some (.slice none 0 0) := hBR.cell 1
    have lR := hBR.lt
    have fR0 := hBR.free 0
    have fR1 := hBR.free 1
    have HBR := Lib.hid hBR
    have HS1 := Lib.hid hs1
    clear hs1 hBXa hBXb hBR
    go_wp2
    refine wp_post fun we hwe => ?_
    have hBE : Blk we R 24 #[.int .i64 0, .slice none 0 0] := by
      rw [hwe]
      have := (HBR.out.set 0 (.int .i64 0)).set 1 (.slice none 0 0)
      simpa using this
    have hSE : Same w we := by rw [hwe]; exact (HS1.out.setNew 0 _ leR).setNew 1 _ leR
    have hr0 : we.cell? ⟨R, 0, none⟩ = some (.int .i64 0) := hBE.cell 0
    have hr1 : we.cell? ⟨R, 1, none⟩ = some (.slice none 0 0) := hBE.cell 1
    clear hwe hBE
    refine bodyPost_ret (v := .tuple #[.agg #[.int .i64 0, .slice none 0 0], .int .i64 1]) (by simp [results, Try.results32, go_sem, hr0, hr1]) rfl ?_
    exact ⟨none, 0, rfl, NewT.nil hSE⟩
  have h15' : ¬ (op : Int) > 15 := by omega
  unfold binE
  rw [if_neg h15]
  cases hfr : fm [⟨Na, Aa, Ca, wsa⟩, ⟨Nb, Ab, Cb, wsb⟩] with
  | false =>
    clear h15
    unfold RetA
    rw [show fmE false = 5 from rfl, show ansN Na 5 = 0 from rfl, show ansL (tab Na.toNat (binF op wsa wsb)) 5 = [] from rfl]
    have HFM := Lib.hid hfr
    clear hfr
    go_enter Try.func32, Try.ntmps32
    go_upto_region 1 with fail
    refine wp_world fun w1 hw1 => ?_
    have hs1 : Same w w1 := by rw [hw1]; exact (((Frm.refl _ _).alloc _).alloc _).alloc _
    have hBXa : Blk w1 (w.heap.size) 24 #[.int .i64 Na, .slice Aa wsa.length Ca] := by
      rw [hw1]
      have := (((Blk.new w 24 #[.int .i64 Na, .slice Aa wsa.length Ca]).alloc (.cells #[.int .i64 Nb, .slice Ab wsb.length Cb] 24)).alloc (.cells #[.int .i64 0, .slice none 0 0] 24))
      simpa using this
    have hBXb : Blk w1 (w.heap.size + 1) 24 #[.int .i64 Nb, .slice Ab wsb.length Cb] := by
      rw [hw1]
      have := ((Blk.new (w.alloc (.cells #[.int .i64 Na, .slice Aa wsa.length Ca] 24)) 24 #[.int .i64 Nb, .slice Ab wsb.length Cb]).alloc (.cells #[.int .i64 0, .slice none 0 0] 24))
      simpa using this
    have hBR : Blk w1 (w.heap.size + 1 + 1) 24 #[.int .i64 0, .slice none 0 0] := by
      rw [hw1]
      have := (Blk.new ((w.alloc (.cells #[.int .i64 Na, .slice Aa wsa.length Ca] 24)).alloc (.cells #[.int .i64 Nb, .slice Ab wsb.length Cb] 24)) 24 #[.int .i64 0, .slice none 0 0])
      simpa using this
    clear hw1
    obtain ⟨R, hR⟩ : ∃ b, w.heap.size + 1 + 1 = b := ⟨_, rfl⟩
    rw [hR] at hBR ⊢
    obtain ⟨Xb, hXb⟩ : ∃ b, w.heap.size + 1 = b := ⟨_, rfl⟩
    rw [hXb] at hBXb ⊢
    have leXb : w.heap.size ≤ Xb := by omega
    have leR : w.heap.size ≤ R := by omega
    have neXaXb : w.heap.size ≠ Xb := by omega
    have neXaR : w.heap.size ≠ R := by omega
    have neXbR : Xb ≠ R := by omega
    clear hXb hR
    have cXa0 : w1.cell? ⟨w.heap.size, 0, none⟩ = some (.int .i64 Na) := hBXa.cell 0
    have cXa1 : w1.cell? ⟨w.heap.size, 1, none⟩ = some (.slice Aa wsa.length Ca) := hBXa.cell 1
    have lXa := hBXa.lt
    have fXa0 := hBXa.free 0
    have fXa1 := hBXa.free 1
    have HBXa := Lib.hid hBXa
    have cXb0 : w1.cell? ⟨Xb, 0, none⟩ = some (.int .i64 Nb) := hBXb.cell 0
    have cXb1 : w1.cell? ⟨Xb, 1, none⟩ = some (.slice Ab wsb.length Cb) := hBXb.cell 1
    have lXb := hBXb.lt
    have fXb0 := hBXb.free 0
    have fXb1 := hBXb.free 1
    have HBXb := Lib.hid hBXb
    have cR0 : w1.cell? ⟨R, 0, none⟩ = some (.int .i64 0) := hBR.cell 0
    have cR1 : w1.cell? ⟨R, 1, none⟩ = some (.slice none 0 0) := hBR.cell 1
    have lR := hBR.lt
    have fR0 := hBR.free 0
    have fR1 := hBR.free 1
    have HBR := Lib.hid hBR
    have HS1 := Lib.hid hs1
    clear hs1 hBXa hBXb hBR
    have HOKa := Lib.hid (Ha.out.same HS1.out)
    have HOKb := Lib.hid (Hb.out.same HS1.out)
    go_wp2_with (fail)
    refine call_world fun w2 hw2 => ?_
    have hs2 : Same w1 w2 := by rw [hw2]; exact (Frm.refl _ _).alloc _
    have hBL : Blk w2 w1.heap.size 24 #[.int .i64 Na, .slice Aa wsa.length Ca, .int .i64 Nb, .slice Ab wsb.length Cb] := by rw [hw2]; exact Blk.new _ _ _
    have htbs : Tbs w2 w1.heap.size [⟨Na, Aa, Ca, wsa⟩, ⟨Nb, Ab, Cb, wsb⟩] := by
      intro i t hi
      match i, hi with
      | 0, hi =>
        simp only [List.getElem?_cons_zero, Option.some.injEq] at hi
        subst hi
        exact ⟨hBL.lt, hBL.cell 0, hBL.cell 1⟩
      | 1, hi =>
        simp only [List.getElem?_cons_zero, List.getElem?_cons_succ, Option.some.injEq] at hi
        subst hi
        exact ⟨hBL.lt, hBL.cell 2, hBL.cell 3⟩
      | i + 2, hi => simp at hi
    have hfc := formed_any w1.heap.size 2 2 [⟨Na, Aa, Ca, wsa⟩, ⟨Nb, Ab, Cb, wsb⟩] w2 rfl (by decide) htbs (fun t ht => by
      simp only [List.mem_cons, List.not_mem_nil, or_false] at ht
      rcases ht with rfl | rfl
      · exact (HOKa.out).same hs2
      · exact (HOKb.out).same hs2)
    rw [HFM.out, show fmE false = 5 from rfl] at hfc
    refine hfc.mono ?_
    clear hfc htbs hBL hw2
    rintro e w3 ⟨rfl, hs3⟩
    have hs13 : Same w1 w3 := hs2.trans hs3 (fun _ _ h => h)
    clear hs2 hs3
    replace HBXa := Lib.hid (HBXa.out.frm hs13 id)
    replace cXa0 : w3.cell? ⟨w.heap.size, 0, none⟩ = some (.int .i64 Na) := HBXa.out.cell 0
    replace cXa1 : w3.cell? ⟨w.heap.size, 1, none⟩ = some (.slice Aa wsa.length Ca) := HBXa.out.cell 1
    replace lXa := HBXa.out.lt
    replace fXa0 := HBXa.out.free 0
    replace fXa1 := HBXa.out.free 1
    replace HBXb := Lib.hid (HBXb.out.frm hs13 id)
    replace cXb0 : w3.cell? ⟨Xb, 0, none⟩ = some (.int .i64 Nb) := HBXb.out.cell 0
    replace cXb1 : w3.cell? ⟨Xb, 1, none⟩ = some (.slice Ab wsb.length Cb) := HBXb.out.cell 1
    replace lXb := HBXb.out.lt
    replace fXb0 := HBXb.out.free 0
    replace fXb1 := HBXb.out.free 1
    replace HBR := Lib.hid (HBR.out.frm hs13 id)
    replace cR0 : w3.cell? ⟨R, 0, none⟩ = some (.int .i64 0) := HBR.out.cell 0
    replace cR1 : w3.cell? ⟨R, 1, none⟩ = some (.slice none 0 0) := HBR.out.cell 1
    replace lR := HBR.out.lt
    replace fR0 := HBR.out.free 0
    replace fR1 := HBR.out.free 1
    replace HS1 := Lib.hid (HS1.out.trans hs13 (fun _ _ h => h))
    clear hs13
    go_wp2
    refine wp_post fun we hwe => ?_
    have hBE : Blk we R 24 #[.int .i64 0, .slice none 0 0] := by
      rw [hwe]
      have := (HBR.out.set 0 (.int .i64 0)).set 1 (.slice none 0 0)
      simpa using this
    have hSE : Same w we := by rw [hwe]; exact (HS1.out.setNew 0 _ leR).setNew 1 _ leR
    have hr0 : we.cell? ⟨R, 0, none⟩ = some (.int .i64 0) := hBE.cell 0
    have hr1 : we.cell? ⟨R, 1, none⟩ = some (.slice none 0 0) := hBE.cell 1
    clear hwe hBE
    refine bodyPost_ret (v := .tuple #[.agg #[.int .i64 0, .slice none 0 0], .int .i64 5]) (by simp [results, Try.results32, go_sem, hr0, hr1]) rfl ?_
    exact ⟨none, 0, rfl, NewT.nil hSE⟩
  | true =>
    obtain ⟨n, rfl, rfl, hfa, hfb⟩ := fm_two hfr
    unfold RetA
    rw [show fmE true = 0 from rfl, show ansN n 0 = n from rfl, show ansL (tab (n : Int).toNat (binF op wsa wsb)) 0 = tab n (binF op wsa wsb) from rfl]
    have HFM := Lib.hid hfr
    have hn := hfa.n16
    have HFa := Lib.hid hfa
    have HFb := Lib.hid hfb
    clear hfr hfa hfb h15
    have hp16 := pow_le16 hn
    have hMp0 : 0 < 2 ^ n := Nat.pow_pos (by omega)
    obtain ⟨M, hM⟩ : ∃ M, 2 ^ n = M := ⟨_, rfl⟩
    have hMp : 0 < M := by omega
    rw [hM] at hp16
    have HM := Lib.hid hM
    clear hM hMp0
    obtain ⟨G, hG⟩ : ∃ G, binF op wsa wsb = G := ⟨_, rfl⟩
    rw [hG]
    have HG := Lib.hid hG
    clear hG
    go_enter Try.func32, Try.ntmps32
    go_upto_region 1 with fail
    refine wp_world fun w1 hw1 => ?_
    have hs1 : Same w w1 := by rw [hw1]; exact (((Frm.refl _ _).alloc _).alloc _).alloc _
    have hBXa : Blk w1 (w.heap.size) 24 #[.int .i64 n, .slice Aa wsa.length Ca] := by
      rw [hw1]
      have := (((Blk.new w 24 #[.int .i64 n, .slice Aa wsa.length Ca]).alloc (.cells #[.int .i64 n, .slice Ab wsb.length Cb] 24)).alloc (.cells #[.int .i64 0, .slice none 0 0] 24))
      simpa using this
    have hBXb : Blk w1 (w.heap.size + 1) 24 #[.int .i64 n, .slice Ab wsb.length Cb] := by
      rw [hw1]
      have := ((Blk.new (w.alloc (.cells #[.int .i64 n, .slice Aa wsa.length Ca] 24)) 24 #[.int .i64 n, .slice Ab wsb.length Cb]).alloc (.cells #[.int .i64 0, .slice none 0 0] 24))
      simpa using this
    have hBR : Blk w1 (w.heap.size + 1 + 1) 24 #[.int .i64 0, .slice none 0 0] := by
      rw [hw1]
      have := (Blk.new ((w.alloc (.cells #[.int .i64 n, .slice Aa wsa.length Ca] 24)).alloc (.cells #[.int .i64 n, .slice Ab wsb.length Cb] 24)) 24 #[.int .i64 0, .slice none 0 0])
      simpa using this
    clear hw1
    obtain ⟨R, hR⟩ : ∃ b, w.heap.size + 1 + 1 = b := ⟨_, rfl⟩
    rw [hR] at hBR ⊢
    obtain ⟨Xb, hXb⟩ : ∃ b, w.heap.size + 1 = b := ⟨_, rfl⟩
    rw [hXb] at hBXb ⊢
    have leXb : w.heap.size ≤ Xb := by omega
    have leR : w.heap.size ≤ R := by omega
    have neXaXb : w.heap.size ≠ Xb := by omega
    have neXaR : w.heap.size ≠ R := by omega
    have neXbR : Xb ≠ R := by omega
    clear hXb hR
    have cXa0 : w1.cell? ⟨w.heap.size, 0, none⟩ = some (.int .i64 n) := hBXa.cell 0
    have cXa1 : w1.cell? ⟨w.heap.size, 1, none⟩ = some (.slice Aa wsa.length Ca) := hBXa.cell 1
    have lXa := hBXa.lt
    have fXa0 := hBXa.free 0
    have fXa1 := hBXa.free 1
    have HBXa := Lib.hid hBXa
    have cXb0 : w1.cell? ⟨Xb, 0, none⟩ = some (.int .i64 n) := hBXb.cell 0
    have cXb1 : w1.cell? ⟨Xb, 1, none⟩ = some (.slice Ab wsb.length Cb) := hBXb.cell 1
    have lXb := hBXb.lt
    have fXb0 := hBXb.free 0
    have fXb1 := hBXb.free 1
    have HBXb := Lib.hid hBXb
    have cR0 : w1.cell? ⟨R, 0, none⟩ = some (.int .i64 0) := hBR.cell 0
    have cR1 : w1.cell? ⟨R, 1, none⟩ = some (.slice none 0 0) := hBR.cell 1
    have lR := hBR.lt
    have fR0 := hBR.free 0
    have fR1 := hBR.free 1
    have HBR := Lib.hid hBR
    have HS1 := Lib.hid hs1
    clear hs1 hBXa hBXb hBR
    have HOKa := Lib.hid (Ha.out.same HS1.out)
    have HOKb := Lib.hid (Hb.out.same HS1.out)
    go_wp2_with (fail)
    refine call_world fun w2 hw2 => ?_
    have hs2 : Same w1 w2 := by rw [hw2]; exact (Frm.refl _ _).alloc _
    have hBL : Blk w2 w1.heap.size 24 #[.int .i64 n, .slice Aa wsa.length Ca, .int .i64 n, .slice Ab wsb.length Cb] := by rw [hw2]; exact Blk.new _ _ _
    have htbs : Tbs w2 w1.heap.size [⟨n, Aa, Ca, wsa⟩, ⟨n, Ab, Cb, wsb⟩] := by
      intro i t hi
      match i, hi with
      | 0, hi =>
        simp only [List.getElem?_cons_zero, Option.some.injEq] at hi
        subst hi
        exact ⟨hBL.lt, hBL.cell 0, hBL.cell 1⟩
      | 1, hi =>
        simp only [List.getElem?_cons_zero, List.getElem?_cons_succ, Option.some.injEq] at hi
        subst hi
        exact ⟨hBL.lt, hBL.cell 2, hBL.cell 3⟩
      | i + 2, hi => simp at hi
    have hfc := formed_any w1.heap.size 2 2 [⟨n, Aa, Ca, wsa⟩, ⟨n, Ab, Cb, wsb⟩] w2 rfl (by decide) htbs (fun t ht => by
      simp only [List.mem_cons, List.not_mem_nil, or_false] at ht
      rcases ht with rfl | rfl
      · exact (HOKa.out).same hs2
      · exact (HOKb.out).same hs2)
    rw [HFM.out, show fmE true = 0 from rfl] at hfc
    refine hfc.mono ?_
    clear hfc htbs hBL hw2
    rintro e w3 ⟨rfl, hs3⟩
    have hs13 : Same w1 w3 := hs2.trans hs3 (fun _ _ h => h)
    clear hs2 hs3
    replace HBXa := Lib.hid (HBXa.out.frm hs13 id)
    replace cXa0 : w3.cell? ⟨w.heap.size, 0, none⟩ = some (.int .i64 n) := HBXa.out.cell 0
    replace cXa1 : w3.cell? ⟨w.heap.size, 1, none⟩ = some (.slice Aa wsa.length Ca) := HBXa.out.cell 1
    replace lXa := HBXa.out.lt
    replace fXa0 := HBXa.out.free 0
    replace fXa1 := HBXa.out.free 1
    replace HBXb := Lib.hid (HBXb.out.frm hs13 id)
    replace cXb0 : w3.cell? ⟨Xb, 0, none⟩ = some (.int .i64 n) := HBXb.out.cell 0
    replace cXb1 : w3.cell? ⟨Xb, 1, none⟩ = some (.slice Ab wsb.length Cb) := HBXb.out.cell 1
    replace lXb := HBXb.out.lt
    replace fXb0 := HBXb.out.free 0
    replace fXb1 := HBXb.out.free 1
    replace HBR := Lib.hid (HBR.out.frm hs13 id)
    replace cR0 : w3.cell? ⟨R, 0, none⟩ = some (.int .i64 0) := HBR.out.cell 0
    replace cR1 : w3.cell? ⟨R, 1, none⟩ = some (.slice none 0 0) := HBR.out.cell 1
    replace lR := HBR.out.lt
    replace fR0 := HBR.out.free 0
    replace fR1 := HBR.out.free 1
    replace HS1 := Lib.hid (HS1.out.trans hs13 (fun _ _ h => h))
    clear hs13
    go_upto_region 6 with fail
    refine wp_phS (fun _ => False) [([0, 2], 1), ([], 3), ([4], 5)] (by kernel_rfl) (by kernel_rfl) ?_
    simp only [wpPh, pick, List.map_cons, List.map_nil, List.getD_cons_zero, List.getD_cons_succ]
    have hs : Same w3 w3.drew := (Frm.refl _ _).drew
    repeat (any_goals (first | go_big_quiet_step (fail) | quiet_step (fail)))
    refine wpQuiet_nil ?_
    refine effStep_plain rfl fun K hK => ?_
    go_simp
    refine (values_any n Ca Aa wsa _ (Ha.out.same (HS1.out.trans hs (fun _ _ h => h))) HFa.out).mono ?_
    rintro e w4 ⟨Al, CL, rfl, hNB⟩
    rw [HM.out] at hNB
    obtain ⟨L, rfl, hLl⟩ := Own.form1 hNB.1 (by rw [vals_len]; exact hMp)
    have hLn := hNB.2.1 L ⟨_, rfl, rfl⟩
    have hOL := hNB.1
    rw [vals_len] at hOL
    have hs := hs.trans hNB.2.2 (fun _ _ h => h)
    rw [HM.out]
    refine hK _ _ (Lat.mk_ (Frm.mono hs (fun _ _ h => h.elim))) ?_
    clear hK K hNB
    repeat (any_goals (first | go_big_quiet_step (fail) | quiet_step (fail)))
    refine wpQuiet_nil ?_
    refine effStep_plain rfl fun K hK => ?_
    go_simp
    refine (values_any n Cb Ab wsb _ (Hb.out.same (HS1.out.trans hs (fun _ _ h => h))) HFb.out).mono ?_
    rintro e w5 ⟨Al, CP, rfl, hNB⟩
    rw [HM.out] at hNB
    obtain ⟨P, rfl, hPl⟩ := Own.form1 hNB.1 (by rw [vals_len]; exact hMp)
    have hPn := hNB.2.1 P ⟨_, rfl, rfl⟩
    have hOL := Own.frm hOL hNB.2.2 (fun _ _ => id)
    have hnePL : P ≠ L := by have := hLl; have := hNB.2.2.size; omega
    have hLl := Nat.lt_of_lt_of_le hLl hNB.2.2.size
    have hOP := hNB.1
    rw [vals_len] at hOP
    have hs := hs.trans hNB.2.2 (fun _ _ h => h)
    rw [HM.out]
    refine hK _ _ (Lat.mk_ (Frm.mono hs (fun _ _ h => h.elim))) ?_
    clear hK K hNB
    repeat (any_goals (first | go_big_quiet_step (fail) | quiet_step (fail)))
    refine wpQuiet_nil ?_
    have hneXaL : w.heap.size ≠ L := by have := HBXa.out.lt; have h1 : w3.heap.size ≤ L := hLn; omega
    have hneXbL : Xb ≠ L := by have := HBXb.out.lt; have h1 : w3.heap.size ≤ L := hLn; omega
    have hneRL : R ≠ L := by have := HBR.out.lt; have h1 : w3.heap.size ≤ L := hLn; omega
    have hDn : w.heap.size ≤ L := by have := HS1.out.size; have h1 : w3.heap.size ≤ L := hLn; omega
    rw [← vals_zero M G (vb wsa)] at hOL
    have HOD := Lib.hid hOL
    have HOP := Lib.hid hOP
    clear hOL hOP hLn hPn
    have hsv := hs
    clear hs
    replace HBXa := Lib.hid (HBXa.out.frm hsv id)
    replace cXa0 : w5.cell? ⟨w.heap.size, 0, none⟩ = some (.int .i64 n) := HBXa.out.cell 0
    replace cXa1 : w5.cell? ⟨w.heap.size, 1, none⟩ = some (.slice Aa wsa.length Ca) := HBXa.out.cell 1
    replace lXa := HBXa.out.lt
    replace fXa0 := HBXa.out.free 0
    replace fXa1 := HBXa.out.free 1
    replace HBXb := Lib.hid (HBXb.out.frm hsv id)
    replace cXb0 : w5.cell? ⟨Xb, 0, none⟩ = some (.int .i64 n) := HBXb.out.cell 0
    replace cXb1 : w5.cell? ⟨Xb, 1, none⟩ = some (.slice Ab wsb.length Cb) := HBXb.out.cell 1
    replace lXb := HBXb.out.lt
    replace fXb0 := HBXb.out.free 0
    replace fXb1 := HBXb.out.free 1
    replace HBR := Lib.hid (HBR.out.frm hsv id)
    replace cR0 : w5.cell? ⟨R, 0, none⟩ = some (.int .i64 0) := HBR.out.cell 0
    replace cR1 : w5.cell? ⟨R, 1, none⟩ = some (.slice none 0 0) := HBR.out.cell 1
    replace lR := HBR.out.lt
    replace fR0 := HBR.out.free 0
    replace fR1 := HBR.out.free 1
    replace HS1 := Lib.hid (HS1.out.trans hsv (fun _ _ h => h))
    clear hsv
    go_wp2
    go_loopw [30] (fun i wr => ∃ k : Nat, k ≤ M ∧ i = .int .i64 k ∧ Same w wr ∧ Blk wr w.heap.size 24 #[.int .i64 n, .slice Aa wsa.length Ca] ∧ Blk wr Xb 24 #[.int .i64 n, .slice Ab wsb.length Cb] ∧ Blk wr R 24 #[.int .i64 0, .slice none 0 0] ∧ OwnB wr (some ⟨P, 0, none⟩) M CP (vals M (vb wsb)) ∧ OwnB wr (some ⟨L, 0, none⟩) M CL (vals M (mixF G (vb wsa) k))) (fun i _ => M - (intOf i).toNat)
    case atStart => exact ⟨0, by omega, rfl, HS1.out, HBXa.out, HBXb.out, HBR.out, HOP.out, HOD.out⟩
    case round =>
      obtain ⟨k, hk, rfl, hs, hBXa, hBXb, hBR, hOP, hOD⟩ := hrel
      have HSr := Lib.hid hs
      have HBrXa := Lib.hid hBXa
      have HBrXb := Lib.hid hBXb
      have HBrR := Lib.hid hBR
      have HOrP := Lib.hid hOP
      by_cases hlt : k < M
      · have hk0 : (0 : Int) ≤ k := by omega
        have hk1 : (k : Int) < M := by omega
        have HST := Lib.hid (OwnB.put hOD hlt)
        obtain ⟨hDl, hDc⟩ := OwnB.cell hOD hlt
        have hDf := Own.free hOD k
        rw [mix_at] at hDc
        obtain ⟨hPl, hPc⟩ := OwnB.cell hOP hlt
        obtain ⟨mm, hmm⟩ : ∃ m, (if vb wsa k then 2 else 0) + (if vb wsb k then 1 else 0) = m := ⟨_, rfl⟩
        have hm3 : mm ≤ 63 := by rw [← hmm]; split <;> split <;> omega
        have hbt : ∀ (w' : World), Calls Try.prog 68 #[.int .i64 op, .int .i64 mm] w' fun e w'' => e = .returned (.bool (G k)) ∧ w' = w'' := fun w' => by
          have := bit_any op mm w' hm3
          rw [← hmm] at this ⊢
          rw [← HG.out]
          exact this
        have HBT := Lib.hid hbt
        clear hs hBXa hBXb hBR hOP hOD hbt hm3
        generalize vb wsa k = za at *
        generalize vb wsb k = zb at *
        generalize G k = g at *
        cases za <;> cases zb
        · obtain rfl : mm = 0 := hmm.symm
          clear hmm
          go_wp2_with (fail)
          refine (HBT.out wr).mono ?_
          rintro e w6 ⟨rfl, rfl⟩
          go_wp2
          go_roundw
          case rel => exact ⟨k + 1, by omega, by go_num, HSr.out.setNew k _ hDn, HBrXa.out.far (p := ⟨L, k, none⟩) hneXaL _, HBrXb.out.far (p := ⟨L, k, none⟩) hneXbL _, HBrR.out.far (p := ⟨L, k, none⟩) hneRL _, Own.far (p := ⟨L, k, none⟩) HOrP.out (fun a ha h => by injection ha with ha; subst ha; exact hnePL h) _, HST.out⟩
          case measure => simp [intOf]; omega
        · obtain rfl : mm = 1 := hmm.symm
          clear hmm
          go_wp2_with (fail)
          refine (HBT.out wr).mono ?_
          rintro e w6 ⟨rfl, rfl⟩
          go_wp2
          go_roundw
          case rel => exact ⟨k + 1, by omega, by go_num, HSr.out.setNew k _ hDn, HBrXa.out.far (p := ⟨L, k, none⟩) hneXaL _, HBrXb.out.far (p := ⟨L, k, none⟩) hneXbL _, HBrR.out.far (p := ⟨L, k, none⟩) hneRL _, Own.far (p := ⟨L, k, none⟩) HOrP.out (fun a ha h => by injection ha with ha; subst ha; exact hnePL h) _, HST.out⟩
          case measure => simp [intOf]; omega
        · obtain rfl : mm = 2 := hmm.symm
          clear hmm
          go_wp2_with (fail)
          refine (HBT.out wr).mono ?_
          rintro e w6 ⟨rfl, rfl⟩
          go_wp2
          go_roundw
          case rel => exact ⟨k + 1, by omega, by go_num, HSr.out.setNew k _ hDn, HBrXa.out.far (p := ⟨L, k, none⟩) hneXaL _, HBrXb.out.far (p := ⟨L, k, none⟩) hneXbL _, HBrR.out.far (p := ⟨L, k, none⟩) hneRL _, Own.far (p := ⟨L, k, none⟩) HOrP.out (fun a ha h => by injection ha with ha; subst ha; exact hnePL h) _, HST.out⟩
          case measure => simp [intOf]; omega
        · obtain rfl : mm = 3 := hmm.symm
          clear hmm
          go_wp2_with (fail)
          refine (HBT.out wr).mono ?_
          rintro e w6 ⟨rfl, rfl⟩
          go_wp2
          go_roundw
          case rel => exact ⟨k + 1, by omega, by go_num, HSr.out.setNew k _ hDn, HBrXa.out.far (p := ⟨L, k, none⟩) hneXaL _, HBrXb.out.far (p := ⟨L, k, none⟩) hneXbL _, HBrR.out.far (p := ⟨L, k, none⟩) hneRL _, Own.far (p := ⟨L, k, none⟩) HOrP.out (fun a ha h => by injection ha with ha; subst ha; exact hnePL h) _, HST.out⟩
          case measure => simp [intOf]; omega
      · obtain rfl : k = M := by omega
        rw [vals_full] at hOD
        have HODr := Lib.hid hOD
        have cXa0 : wr.cell? ⟨w.heap.size, 0, none⟩ = some (.int .i64 n) := hBXa.cell 0
        have fXa0 := hBXa.free 0
        have cXa1 : wr.cell? ⟨w.heap.size, 1, none⟩ = some (.slice Aa wsa.length Ca) := hBXa.cell 1
        have fXa1 := hBXa.free 1
        have lXa := hBXa.lt
        have cXb0 : wr.cell? ⟨Xb, 0, none⟩ = some (.int .i64 n) := hBXb.cell 0
        have fXb0 := hBXb.free 0
        have cXb1 : wr.cell? ⟨Xb, 1, none⟩ = some (.slice Ab wsb.length Cb) := hBXb.cell 1
        have fXb1 := hBXb.free 1
        have lXb := hBXb.lt
        have cR0 : wr.cell? ⟨R, 0, none⟩ = some (.int .i64 0) := hBR.cell 0
        have fR0 := hBR.free 0
        have cR1 : wr.cell? ⟨R, 1, none⟩ = some (.slice none 0 0) := hBR.cell 1
        have fR1 := hBR.free 1
        have lR := hBR.lt
        clear hs  hBXa  hBXb  hBR  hOP  hOD
        go_wp2_with (fail)
        rw [← HM.out] at HODr ⊢
        refine (rof_any n _ (some ⟨L, 0, none⟩) G wr hn (Own.sl (fun _ => rfl) HODr.out)).mono ?_
        rintro e w8 ⟨Aq, Cq, rfl, hNT⟩
        have hoq := hNT.1
        have hfq := hNT.2.1
        have hsq := hNT.2.2
        have hRq : ∀ a, Aq = some a → a.block ≠ R := fun a ha h => by
          have := hfq a.block ⟨a, ha, rfl⟩
          omega
        have HBRq := Lib.hid (HBrR.out.frm hsq id)
        have HSq := Lib.hid (HSr.out.trans hsq (fun _ _ h => h))
        have hfq' : Fresh w.heap.size Aq := fun b hb => by have := hfq b hb; have := HSr.out.size; omega
        have HOQ := Lib.hid hoq
        have HFQ := Lib.hid hfq'
        have hcR0 : w8.cell? ⟨R, 0, none⟩ = some (.int .i64 0) := HBRq.out.cell 0
        have hcR1 : w8.cell? ⟨R, 1, none⟩ = some (.slice none 0 0) := HBRq.out.cell 1
        have hfR0 := HBRq.out.free 0
        have hfR1 := HBRq.out.free 1
        have hlR := HBRq.out.lt
        clear hNT hoq hfq hsq hfq'
        go_wp2
        refine wp_post fun we hwe => ?_
        have hBE : Blk we R 24 #[.int .i64 n, .slice Aq (tab n G).length Cq] := by
          rw [hwe]
          have := (HBRq.out.set 0 (.int .i64 n)).set 1 (.slice Aq (tab n G).length Cq)
          simpa using this
        have hSE : Same w we := by rw [hwe]; exact (HSq.out.setNew 0 _ leR).setNew 1 _ leR
        have hOE : OwnW we Aq (tab n G).length Cq (tab n G) := by
          rw [hwe]
          exact (Own.far (p := ⟨R, 0, none⟩) HOQ.out hRq _).far (p := ⟨R, 1, none⟩) hRq _
        have hr0 : we.cell? ⟨R, 0, none⟩ = some (.int .i64 n) := hBE.cell 0
        have hr1 : we.cell? ⟨R, 1, none⟩ = some (.slice Aq (tab n G).length Cq) := hBE.cell 1
        clear hwe hBE
        refine bodyPost_ret (v := .tuple #[.agg #[.int .i64 n, .slice Aq (tab n G).length Cq], .int .i64 0]) (by simp [results, Try.results32, go_sem, hr0, hr1]) rfl ?_
        exact ⟨Aq, Cq, rfl, hOE, HFQ.out, hSE⟩
set_option maxRecDepth 100000 in
set_option maxHeartbeats 8000000 in
theorem docIte_any (Na : Int) (Aa : Option Addr) (Ca : Nat) (wsa : List Nat) (Nb : Int) (Ab : Option Addr) (Cb : Nat) (wsb : List Nat) (Nc : Int) (Ac : Option Addr) (Cc : Nat) (wsc : List Nat) (w : World) (ha : TbOk w ⟨Na, Aa, Ca, wsa⟩) (hb : TbOk w ⟨Nb, Ab, Cb, wsb⟩) (hc : TbOk w ⟨Nc, Ac, Cc, wsc⟩) : Calls Try.prog 34 #[.agg #[.int .i64 Na, .slice Aa wsa.length Ca], .agg #[.int .i64 Nb, .slice Ab wsb.length Cb], .agg #[.int .i64 Nc, .slice Ac wsc.length Cc]] w (RetA w Na (tab Na.toNat (iteF wsa wsb wsc)) (fmE (fm [⟨Na, Aa, Ca, wsa⟩, ⟨Nb, Ab, Cb, wsb⟩, ⟨Nc, Ac, Cc, wsc⟩]))) := by
  have Ha := Lib.hid ha
  have Hb := Lib.hid hb
  have Hc := Lib.hid hc
  clear ha hb hc
  cases hfr : fm [⟨Na, Aa, Ca, wsa⟩, ⟨Nb, Ab, Cb, wsb⟩, ⟨Nc, Ac, Cc, wsc⟩] with
  | false =>
    unfold RetA
    rw [show fmE false = 5 from rfl, show ansN Na 5 = 0 from rfl, show ansL (tab Na.toNat (iteF wsa wsb wsc)) 5 = [] from rfl]
    have HFM := Lib.hid hfr
    clear hfr
    go_enter Try.func34, Try.ntmps34
    go_upto_region 1 with fail
    refine wp_world fun w1 hw1 => ?_
    have hs1 : Same w w1 := by rw [hw1]; exact ((((Frm.refl _ _).alloc _).alloc _).alloc _).alloc _
    have hBXa : Blk w1 (w.heap.size) 24 #[.int .i64 Na, .slice Aa wsa.length Ca] := by
      rw [hw1]
      have := ((((Blk.new w 24 #[.int .i64 Na, .slice Aa wsa.length Ca]).alloc (.cells #[.int .i64 Nb, .slice Ab wsb.length Cb] 24)).alloc (.cells #[.int .i64 Nc, .slice Ac wsc.length Cc] 24)).alloc (.cells #[.int .i64 0, .slice none 0 0] 24))
      simpa using this
    have hBXb : Blk w1 (w.heap.size + 1) 24 #[.int .i64 Nb, .slice Ab wsb.length Cb] := by
      rw [hw1]
      have := (((Blk.new (w.alloc (.cells #[.int .i64 Na, .slice Aa wsa.length Ca] 24)) 24 #[.int .i64 Nb, .slice Ab wsb.length Cb]).alloc (.cells #[.int .i64 Nc, .slice Ac wsc.length Cc] 24)).alloc (.cells #[.int .i64 0, .slice none 0 0] 24))
      simpa using this
    have hBXc : Blk w1 (w.heap.size + 1 + 1) 24 #[.int .i64 Nc, .slice Ac wsc.length Cc] := by
      rw [hw1]
      have := ((Blk.new ((w.alloc (.cells #[.int .i64 Na, .slice Aa wsa.length Ca] 24)).alloc (.cells #[.int .i64 Nb, .slice Ab wsb.length Cb] 24)) 24 #[.int .i64 Nc, .slice Ac wsc.length Cc]).alloc (.cells #[.int .i64 0, .slice none 0 0] 24))
      simpa using this
    have hBR : Blk w1 (w.heap.size + 1 + 1 + 1) 24 #[.int .i64 0, .slice none 0 0] := by
      rw [hw1]
      have := (Blk.new (((w.alloc (.cells #[.int .i64 Na, .slice Aa wsa.length Ca] 24)).alloc (.cells #[.int .i64 Nb, .slice Ab wsb.length Cb] 24)).alloc (.cells #[.int .i64 Nc, .slice Ac wsc.length Cc] 24)) 24 #[.int .i64 0, .slice none 0 0])
      simpa using this
    clear hw1
    obtain ⟨R, hR⟩ : ∃ b, w.heap.size + 1 + 1 + 1 = b := ⟨_, rfl⟩
    rw [hR] at hBR ⊢
    obtain ⟨Xc, hXc⟩ : ∃ b, w.heap.size + 1 + 1 = b := ⟨_, rfl⟩
    rw [hXc] at hBXc ⊢
    obtain ⟨Xb, hXb⟩ : ∃ b, w.heap.size + 1 = b := ⟨_, rfl⟩
    rw [hXb] at hBXb ⊢
    have leXb : w.heap.size ≤ Xb := by omega
    have leXc : w.heap.size ≤ Xc := by omega
    have leR : w.heap.size ≤ R := by omega
    have neXaXb : w.heap.size ≠ Xb := by omega
    have neXaXc : w.heap.size ≠ Xc := by omega
    have neXaR : w.heap.size ≠ R := by omega
    have neXbXc : Xb ≠ Xc := by omega
    have neXbR : Xb ≠ R := by omega
    have neXcR : Xc ≠ R := by omega
    clear hXb hXc hR
    have cXa0 : w1.cell? ⟨w.heap.size, 0, none⟩ = some (.int .i64 Na) := hBXa.cell 0
    have cXa1 : w1.cell? ⟨w.heap.size, 1, none⟩ = some (.slice Aa wsa.length Ca) := hBXa.cell 1
    have lXa := hBXa.lt
    have fXa0 := hBXa.free 0
    have fXa1 := hBXa.free 1
    have HBXa := Lib.hid hBXa
    have cXb0 : w1.cell? ⟨Xb, 0, none⟩ = some (.int .i64 Nb) := hBXb.cell 0
    have cXb1 : w1.cell? ⟨Xb, 1, none⟩ = some (.slice Ab wsb.length Cb) := hBXb.cell 1
    have lXb := hBXb.lt
    have fXb0 := hBXb.free 0
    have fXb1 := hBXb.free 1
    have HBXb := Lib.hid hBXb
    have cXc0 : w1.cell? ⟨Xc, 0, none⟩ = some (.int .i64 Nc) := hBXc.cell 0
    have cXc1 : w1.cell? ⟨Xc, 1, none⟩ = some (.slice Ac wsc.length Cc) := hBXc.cell 1
    have lXc := hBXc.lt
    have fXc0 := hBXc.free 0
    have fXc1 := hBXc.free 1
    have HBXc := Lib.hid hBXc
    have cR0 : w1.cell? ⟨R, 0, none⟩ = some (.int .i64 0) := hBR.cell 0
    have cR1 : w1.cell? ⟨R, 1, none⟩ = some (.slice none 0 0) := hBR.cell 1
    have lR := hBR.lt
    have fR0 := hBR.free 0
    have fR1 := hBR.free 1
    have HBR := Lib.hid hBR
    have HS1 := Lib.hid hs1
    clear hs1 hBXa hBXb hBXc hBR
    have HOKa := Lib.hid (Ha.out.same HS1.out)
    have HOKb := Lib.hid (Hb.out.same HS1.out)
    have HOKc := Lib.hid (Hc.out.same HS1.out)
    go_wp2_with (fail)
    refine call_world fun w2 hw2 => ?_
    have hs2 : Same w1 w2 := by rw [hw2]; exact (Frm.refl _ _).alloc _
    have hBL : Blk w2 w1.heap.size 24 #[.int .i64 Na, .slice Aa wsa.length Ca, .int .i64 Nb, .slice Ab wsb.length Cb, .int .i64 Nc, .slice Ac wsc.length Cc] := by rw [hw2]; exact Blk.new _ _ _
    have htbs : Tbs w2 w1.heap.size [⟨Na, Aa, Ca, wsa⟩, ⟨Nb, Ab, Cb, wsb⟩, ⟨Nc, Ac, Cc, wsc⟩] := by
      intro i t hi
      match i, hi with
      | 0, hi =>
        simp only [List.getElem?_cons_zero, Option.some.injEq] at hi
        subst hi
        exact ⟨hBL.lt, hBL.cell 0, hBL.cell 1⟩
      | 1, hi =>
        simp only [List.getElem?_cons_zero, List.getElem?_cons_succ, Option.some.injEq] at hi
        subst hi
        exact ⟨hBL.lt, hBL.cell 2, hBL.cell 3⟩
      | 2, hi =>
        simp only [List.getElem?_cons_zero, List.getElem?_cons_succ, Option.some.injEq] at hi
        subst hi
        exact ⟨hBL.lt, hBL.cell 4, hBL.cell 5⟩
      | i + 3, hi => simp at hi
    have hfc := formed_any w1.heap.size 3 3 [⟨Na, Aa, Ca, wsa⟩, ⟨Nb, Ab, Cb, wsb⟩, ⟨Nc, Ac, Cc, wsc⟩] w2 rfl (by decide) htbs (fun t ht => by
      simp only [List.mem_cons, List.not_mem_nil, or_false] at ht
      rcases ht with rfl | rfl | rfl
      · exact (HOKa.out).same hs2
      · exact (HOKb.out).same hs2
      · exact (HOKc.out).same hs2)
    rw [HFM.out, show fmE false = 5 from rfl] at hfc
    refine hfc.mono ?_
    clear hfc htbs hBL hw2
    rintro e w3 ⟨rfl, hs3⟩
    have hs13 : Same w1 w3 := hs2.trans hs3 (fun _ _ h => h)
    clear hs2 hs3
    replace HBXa := Lib.hid (HBXa.out.frm hs13 id)
    replace cXa0 : w3.cell? ⟨w.heap.size, 0, none⟩ = some (.int .i64 Na) := HBXa.out.cell 0
    replace cXa1 : w3.cell? ⟨w.heap.size, 1, none⟩ = some (.slice Aa wsa.length Ca) := HBXa.out.cell 1
    replace lXa := HBXa.out.lt
    replace fXa0 := HBXa.out.free 0
    replace fXa1 := HBXa.out.free 1
    replace HBXb := Lib.hid (HBXb.out.frm hs13 id)
    replace cXb0 : w3.cell? ⟨Xb, 0, none⟩ = some (.int .i64 Nb) := HBXb.out.cell 0
    replace cXb1 : w3.cell? ⟨Xb, 1, none⟩ = some (.slice Ab wsb.length Cb) := HBXb.out.cell 1
    replace lXb := HBXb.out.lt
    replace fXb0 := HBXb.out.free 0
    replace fXb1 := HBXb.out.free 1
    replace HBXc := Lib.hid (HBXc.out.frm hs13 id)
    replace cXc0 : w3.cell? ⟨Xc, 0, none⟩ = some (.int .i64 Nc) := HBXc.out.cell 0
    replace cXc1 : w3.cell? ⟨Xc, 1, none⟩ = some (.slice Ac wsc.length Cc) := HBXc.out.cell 1
    replace lXc := HBXc.out.lt
    replace fXc0 := HBXc.out.free 0
    replace fXc1 := HBXc.out.free 1
    replace HBR := Lib.hid (HBR.out.frm hs13 id)
    replace cR0 : w3.cell? ⟨R, 0, none⟩ = some (.int .i64 0) := HBR.out.cell 0
    replace cR1 : w3.cell? ⟨R, 1, none⟩ = some (.slice none 0 0) := HBR.out.cell 1
    replace lR := HBR.out.lt
    replace fR0 := HBR.out.free 0
    replace fR1 := HBR.out.free 1
    replace HS1 := Lib.hid (HS1.out.trans hs13 (fun _ _ h => h))
    clear hs13
    go_wp2
    refine wp_post fun we hwe => ?_
    have hBE : Blk we R 24 #[.int .i64 0, .slice none 0 0] := by
      rw [hwe]
      have := (HBR.out.set 0 (.int .i64 0)).set 1 (.slice none 0 0)
      simpa using this
    have hSE : Same w we := by rw [hwe]; exact (HS1.out.setNew 0 _ leR).setNew 1 _ leR
    have hr0 : we.cell? ⟨R, 0, none⟩ = some (.int .i64 0) := hBE.cell 0
    have hr1 : we.cell? ⟨R, 1, none⟩ = some (.slice none 0 0) := hBE.cell 1
    clear hwe hBE
    refine bodyPost_ret (v := .tuple #[.agg #[.int .i64 0, .slice none 0 0], .int .i64 5]) (by simp [results, Try.results34, go_sem, hr0, hr1]) rfl ?_
    exact ⟨none, 0, rfl, NewT.nil hSE⟩
  | true =>
    obtain ⟨n, rfl, rfl, rfl, hfa, hfb, hfc⟩ := fm_three hfr
    unfold RetA
    rw [show fmE true = 0 from rfl, show ansN n 0 = n from rfl, show ansL (tab (n : Int).toNat (iteF wsa wsb wsc)) 0 = tab n (iteF wsa wsb wsc) from rfl]
    have HFM := Lib.hid hfr
    have hn := hfa.n16
    have HFa := Lib.hid hfa
    have HFb := Lib.hid hfb
    have HFc := Lib.hid hfc
    clear hfr hfa hfb hfc
    have hp16 := pow_le16 hn
    have hMp0 : 0 < 2 ^ n := Nat.pow_pos (by omega)
    obtain ⟨M, hM⟩ : ∃ M, 2 ^ n = M := ⟨_, rfl⟩
    have hMp : 0 < M := by omega
    rw [hM] at hp16
    have HM := Lib.hid hM
    clear hM hMp0
    obtain ⟨G, hG⟩ : ∃ G, iteF wsa wsb wsc = G := ⟨_, rfl⟩
    rw [hG]
    have HG := Lib.hid hG
    clear hG
    go_enter Try.func34, Try.ntmps34
    go_upto_region 1 with fail
    refine wp_world fun w1 hw1 => ?_
    have hs1 : Same w w1 := by rw [hw1]; exact ((((Frm.refl _ _).alloc _).alloc _).alloc _).alloc _
    have hBXa : Blk w1 (w.heap.size) 24 #[.int .i64 n, .slice Aa wsa.length Ca] := by
      rw [hw1]
      have := ((((Blk.new w 24 #[.int .i64 n, .slice Aa wsa.length Ca]).alloc (.cells #[.int .i64 n, .slice Ab wsb.length Cb] 24)).alloc (.cells #[.int .i64 n, .slice Ac wsc.length Cc] 24)).alloc (.cells #[.int .i64 0, .slice none 0 0] 24))
      simpa using this
    have hBXb : Blk w1 (w.heap.size + 1) 24 #[.int .i64 n, .slice Ab wsb.length Cb] := by
      rw [hw1]
      have := (((Blk.new (w.alloc (.cells #[.int .i64 n, .slice Aa wsa.length Ca] 24)) 24 #[.int .i64 n, .slice Ab wsb.length Cb]).alloc (.cells #[.int .i64 n, .slice Ac wsc.length Cc] 24)).alloc (.cells #[.int .i64 0, .slice none 0 0] 24))
      simpa using this
    have hBXc : Blk w1 (w.heap.size + 1 + 1) 24 #[.int .i64 n, .slice Ac wsc.length Cc] := by
      rw [hw1]
      have := ((Blk.new ((w.alloc (.cells #[.int .i64 n, .slice Aa wsa.length Ca] 24)).alloc (.cells #[.int .i64 n, .slice Ab wsb.length Cb] 24)) 24 #[.int .i64 n, .slice Ac wsc.length Cc]).alloc (.cells #[.int .i64 0, .slice none 0 0] 24))
      simpa using this
    have hBR : Blk w1 (w.heap.size + 1 + 1 + 1) 24 #[.int .i64 0, .slice none 0 0] := by
      rw [hw1]
      have := (Blk.new (((w.alloc (.cells #[.int .i64 n, .slice Aa wsa.length Ca] 24)).alloc (.cells #[.int .i64 n, .slice Ab wsb.length Cb] 24)).alloc (.cells #[.int .i64 n, .slice Ac wsc.length Cc] 24)) 24 #[.int .i64 0, .slice none 0 0])
      simpa using this
    clear hw1
    obtain ⟨R, hR⟩ : ∃ b, w.heap.size + 1 + 1 + 1 = b := ⟨_, rfl⟩
    rw [hR] at hBR ⊢
    obtain ⟨Xc, hXc⟩ : ∃ b, w.heap.size + 1 + 1 = b := ⟨_, rfl⟩
    rw [hXc] at hBXc ⊢
    obtain ⟨Xb, hXb⟩ : ∃ b, w.heap.size + 1 = b := ⟨_, rfl⟩
    rw [hXb] at hBXb ⊢
    have leXb : w.heap.size ≤ Xb := by omega
    have leXc : w.heap.size ≤ Xc := by omega
    have leR : w.heap.size ≤ R := by omega
    have neXaXb : w.heap.size ≠ Xb := by omega
    have neXaXc : w.heap.size ≠ Xc := by omega
    have neXaR : w.heap.size ≠ R := by omega
    have neXbXc : Xb ≠ Xc := by omega
    have neXbR : Xb ≠ R := by omega
    have neXcR : Xc ≠ R := by omega
    clear hXb hXc hR
    have cXa0 : w1.cell? ⟨w.heap.size, 0, none⟩ = some (.int .i64 n) := hBXa.cell 0
    have cXa1 : w1.cell? ⟨w.heap.size, 1, none⟩ = some (.slice Aa wsa.length Ca) := hBXa.cell 1
    have lXa := hBXa.lt
    have fXa0 := hBXa.free 0
    have fXa1 := hBXa.free 1
    have HBXa := Lib.hid hBXa
    have cXb0 : w1.cell? ⟨Xb, 0, none⟩ = some (.int .i64 n) := hBXb.cell 0
    have cXb1 : w1.cell? ⟨Xb, 1, none⟩ = some (.slice Ab wsb.length Cb) := hBXb.cell 1
    have lXb := hBXb.lt
    have fXb0 := hBXb.free 0
    have fXb1 := hBXb.free 1
    have HBXb := Lib.hid hBXb
    have cXc0 : w1.cell? ⟨Xc, 0, none⟩ = some (.int .i64 n) := hBXc.cell 0
    have cXc1 : w1.cell? ⟨Xc, 1, none⟩ = some (.slice Ac wsc.length Cc) := hBXc.cell 1
    have lXc := hBXc.lt
    have fXc0 := hBXc.free 0
    have fXc1 := hBXc.free 1
    have HBXc := Lib.hid hBXc
    have cR0 : w1.cell? ⟨R, 0, none⟩ = some (.int .i64 0) := hBR.cell 0
    have cR1 : w1.cell? ⟨R, 1, none⟩ = some (.slice none 0 0) := hBR.cell 1
    have lR := hBR.lt
    have fR0 := hBR.free 0
    have fR1 := hBR.free 1
    have HBR := Lib.hid hBR
    have HS1 := Lib.hid hs1
    clear hs1 hBXa hBXb hBXc hBR
    have HOKa := Lib.hid (Ha.out.same HS1.out)
    have HOKb := Lib.hid (Hb.out.same HS1.out)
    have HOKc := Lib.hid (Hc.out.same HS1.out)
    go_wp2_with (fail)
    refine call_world fun w2 hw2 => ?_
    have hs2 : Same w1 w2 := by rw [hw2]; exact (Frm.refl _ _).alloc _
    have hBL : Blk w2 w1.heap.size 24 #[.int .i64 n, .slice Aa wsa.length Ca, .int .i64 n, .slice Ab wsb.length Cb, .int .i64 n, .slice Ac wsc.length Cc] := by rw [hw2]; exact Blk.new _ _ _
    have htbs : Tbs w2 w1.heap.size [⟨n, Aa, Ca, wsa⟩, ⟨n, Ab, Cb, wsb⟩, ⟨n, Ac, Cc, wsc⟩] := by
      intro i t hi
      match i, hi with
      | 0, hi =>
        simp only [List.getElem?_cons_zero, Option.some.injEq] at hi
        subst hi
        exact ⟨hBL.lt, hBL.cell 0, hBL.cell 1⟩
      | 1, hi =>
        simp only [List.getElem?_cons_zero, List.getElem?_cons_succ, Option.some.injEq] at hi
        subst hi
        exact ⟨hBL.lt, hBL.cell 2, hBL.cell 3⟩
      | 2, hi =>
        simp only [List.getElem?_cons_zero, List.getElem?_cons_succ, Option.some.injEq] at hi
        subst hi
        exact ⟨hBL.lt, hBL.cell 4, hBL.cell 5⟩
      | i + 3, hi => simp at hi
    have hfc := formed_any w1.heap.size 3 3 [⟨n, Aa, Ca, wsa⟩, ⟨n, Ab, Cb, wsb⟩, ⟨n, Ac, Cc, wsc⟩] w2 rfl (by decide) htbs (fun t ht => by
      simp only [List.mem_cons, List.not_mem_nil, or_false] at ht
      rcases ht with rfl | rfl | rfl
      · exact (HOKa.out).same hs2
      · exact (HOKb.out).same hs2
      · exact (HOKc.out).same hs2)
    rw [HFM.out, show fmE true = 0 from rfl] at hfc
    refine hfc.mono ?_
    clear hfc htbs hBL hw2
    rintro e w3 ⟨rfl, hs3⟩
    have hs13 : Same w1 w3 := hs2.trans hs3 (fun _ _ h => h)
    clear hs2 hs3
    replace HBXa := Lib.hid (HBXa.out.frm hs13 id)
    replace cXa0 : w3.cell? ⟨w.heap.size, 0, none⟩ = some (.int .i64 n) := HBXa.out.cell 0
    replace cXa1 : w3.cell? ⟨w.heap.size, 1, none⟩ = some (.slice Aa wsa.length Ca) := HBXa.out.cell 1
    replace lXa := HBXa.out.lt
    replace fXa0 := HBXa.out.free 0
    replace fXa1 := HBXa.out.free 1
    replace HBXb := Lib.hid (HBXb.out.frm hs13 id)
    replace cXb0 : w3.cell? ⟨Xb, 0, none⟩ = some (.int .i64 n) := HBXb.out.cell 0
    replace cXb1 : w3.cell? ⟨Xb, 1, none⟩ = some (.slice Ab wsb.length Cb) := HBXb.out.cell 1
    replace lXb := HBXb.out.lt
    replace fXb0 := HBXb.out.free 0
    replace fXb1 := HBXb.out.free 1
    replace HBXc := Lib.hid (HBXc.out.frm hs13 id)
    replace cXc0 : w3.cell? ⟨Xc, 0, none⟩ = some (.int .i64 n) := HBXc.out.cell 0
    replace cXc1 : w3.cell? ⟨Xc, 1, none⟩ = some (.slice Ac wsc.length Cc) := HBXc.out.cell 1
    replace lXc := HBXc.out.lt
    replace fXc0 := HBXc.out.free 0
    replace fXc1 := HBXc.out.free 1
    replace HBR := Lib.hid (HBR.out.frm hs13 id)
    replace cR0 : w3.cell? ⟨R, 0, none⟩ = some (.int .i64 0) := HBR.out.cell 0
    replace cR1 : w3.cell? ⟨R, 1, none⟩ = some (.slice none 0 0) := HBR.out.cell 1
    replace lR := HBR.out.lt
    replace fR0 := HBR.out.free 0
    replace fR1 := HBR.out.free 1
    replace HS1 := Lib.hid (HS1.out.trans hs13 (fun _ _ h => h))
    clear hs13
    go_upto_region 4 with fail
    refine wp_phS (fun _ => False) [([0, 2, 4], 1), ([], 3), ([], 5), ([6, 7], 8)] (by kernel_rfl) (by kernel_rfl) ?_
    simp only [wpPh, pick, List.map_cons, List.map_nil, List.getD_cons_zero, List.getD_cons_succ]
    have hs : Same w3 w3.drew := (Frm.refl _ _).drew
    repeat (any_goals (first | go_big_quiet_step (fail) | quiet_step (fail)))
    refine wpQuiet_nil ?_
    refine effStep_plain rfl fun K hK => ?_
    go_simp
    refine (values_any n Ca Aa wsa _ (Ha.out.same (HS1.out.trans hs (fun _ _ h => h))) HFa.out).mono ?_
    rintro e w4 ⟨Al, CL, rfl, hNB⟩
    rw [HM.out] at hNB
    obtain ⟨L, rfl, hLl⟩ := Own.form1 hNB.1 (by rw [vals_len]; exact hMp)
    have hLn := hNB.2.1 L ⟨_, rfl, rfl⟩
    have hOL := hNB.1
    rw [vals_len] at hOL
    have hs := hs.trans hNB.2.2 (fun _ _ h => h)
    rw [HM.out]
    refine hK _ _ (Lat.mk_ (Frm.mono hs (fun _ _ h => h.elim))) ?_
    clear hK K hNB
    repeat (any_goals (first | go_big_quiet_step (fail) | quiet_step (fail)))
    refine wpQuiet_nil ?_
    refine effStep_plain rfl fun K hK => ?_
    go_simp
    refine (values_any n Cb Ab wsb _ (Hb.out.same (HS1.out.trans hs (fun _ _ h => h))) HFb.out).mono ?_
    rintro e w5 ⟨Al, CP, rfl, hNB⟩
    rw [HM.out] at hNB
    obtain ⟨P, rfl, hPl⟩ := Own.form1 hNB.1 (by rw [vals_len]; exact hMp)
    have hPn := hNB.2.1 P ⟨_, rfl, rfl⟩
    have hOL := Own.frm hOL hNB.2.2 (fun _ _ => id)
    have hnePL : P ≠ L := by have := hLl; have := hNB.2.2.size; omega
    have hLl := Nat.lt_of_lt_of_le hLl hNB.2.2.size
    have hOP := hNB.1
    rw [vals_len] at hOP
    have hs := hs.trans hNB.2.2 (fun _ _ h => h)
    rw [HM.out]
    refine hK _ _ (Lat.mk_ (Frm.mono hs (fun _ _ h => h.elim))) ?_
    clear hK K hNB
    repeat (any_goals (first | go_big_quiet_step (fail) | quiet_step (fail)))
    refine wpQuiet_nil ?_
    refine effStep_plain rfl fun K hK => ?_
    go_simp
    refine (values_any n Cc Ac wsc _ (Hc.out.same (HS1.out.trans hs (fun _ _ h => h))) HFc.out).mono ?_
    rintro e w6 ⟨Al, CQ, rfl, hNB⟩
    rw [HM.out] at hNB
    obtain ⟨Q, rfl, hQl⟩ := Own.form1 hNB.1 (by rw [vals_len]; exact hMp)
    have hQn := hNB.2.1 Q ⟨_, rfl, rfl⟩
    have hOP := Own.frm hOP hNB.2.2 (fun _ _ => id)
    have hOL := Own.frm hOL hNB.2.2 (fun _ _ => id)
    have hneQP : Q ≠ P := by have := hPl; have := hNB.2.2.size; omega
    have hPl := Nat.lt_of_lt_of_le hPl hNB.2.2.size
    have hneQL : Q ≠ L := by have := hLl; have := hNB.2.2.size; omega
    have hLl := Nat.lt_of_lt_of_le hLl hNB.2.2.size
    have hOQ := hNB.1
    rw [vals_len] at hOQ
    have hs := hs.trans hNB.2.2 (fun _ _ h => h)
    rw [HM.out]
    refine hK _ _ (Lat.mk_ (Frm.mono hs (fun _ _ h => h.elim))) ?_
    clear hK K hNB
    repeat (any_goals (first | go_big_quiet_step (fail) | quiet_step (fail)))
    refine wpQuiet_nil ?_
    have hneXaL : w.heap.size ≠ L := by have := HBXa.out.lt; have h1 : w3.heap.size ≤ L := hLn; omega
    have hneXbL : Xb ≠ L := by have := HBXb.out.lt; have h1 : w3.heap.size ≤ L := hLn; omega
    have hneXcL : Xc ≠ L := by have := HBXc.out.lt; have h1 : w3.heap.size ≤ L := hLn; omega
    have hneRL : R ≠ L := by have := HBR.out.lt; have h1 : w3.heap.size ≤ L := hLn; omega
    have hDn : w.heap.size ≤ L := by have := HS1.out.size; have h1 : w3.heap.size ≤ L := hLn; omega
    rw [← vals_zero M G (vb wsa)] at hOL
    have HOD := Lib.hid hOL
    have HOP := Lib.hid hOP
    have HOQ := Lib.hid hOQ
    clear hOL hOP hOQ hLn hPn hQn
    have hsv := hs
    clear hs
    replace HBXa := Lib.hid (HBXa.out.frm hsv id)
    replace cXa0 : w6.cell? ⟨w.heap.size, 0, none⟩ = some (.int .i64 n) := HBXa.out.cell 0
    replace cXa1 : w6.cell? ⟨w.heap.size, 1, none⟩ = some (.slice Aa wsa.length Ca) := HBXa.out.cell 1
    replace lXa := HBXa.out.lt
    replace fXa0 := HBXa.out.free 0
    replace fXa1 := HBXa.out.free 1
    replace HBXb := Lib.hid (HBXb.out.frm hsv id)
    replace cXb0 : w6.cell? ⟨Xb, 0, none⟩ = some (.int .i64 n) := HBXb.out.cell 0
    replace cXb1 : w6.cell? ⟨Xb, 1, none⟩ = some (.slice Ab wsb.length Cb) := HBXb.out.cell 1
    replace lXb := HBXb.out.lt
    replace fXb0 := HBXb.out.free 0
    replace fXb1 := HBXb.out.free 1
    replace HBXc := Lib.hid (HBXc.out.frm hsv id)
    replace cXc0 : w6.cell? ⟨Xc, 0, none⟩ = some (.int .i64 n) := HBXc.out.cell 0
    replace cXc1 : w6.cell? ⟨Xc, 1, none⟩ = some (.slice Ac wsc.length Cc) := HBXc.out.cell 1
    replace lXc := HBXc.out.lt
    replace fXc0 := HBXc.out.free 0
    replace fXc1 := HBXc.out.free 1
    replace HBR := Lib.hid (HBR.out.frm hsv id)
    replace cR0 : w6.cell? ⟨R, 0, none⟩ = some (.int .i64 0) := HBR.out.cell 0
    replace cR1 : w6.cell? ⟨R, 1, none⟩ = some (.slice none 0 0) := HBR.out.cell 1
    replace lR := HBR.out.lt
    replace fR0 := HBR.out.free 0
    replace fR1 := HBR.out.free 1
    replace HS1 := Lib.hid (HS1.out.trans hsv (fun _ _ h => h))
    clear hsv
    go_wp2
    go_loopw [30] (fun i wr => ∃ k : Nat, k ≤ M ∧ i = .int .i64 k ∧ Same w wr ∧ Blk wr w.heap.size 24 #[.int .i64 n, .slice Aa wsa.length Ca] ∧ Blk wr Xb 24 #[.int .i64 n, .slice Ab wsb.length Cb] ∧ Blk wr Xc 24 #[.int .i64 n, .slice Ac wsc.length Cc] ∧ Blk wr R 24 #[.int .i64 0, .slice none 0 0] ∧ OwnB wr (some ⟨P, 0, none⟩) M CP (vals M (vb wsb)) ∧ OwnB wr (some ⟨Q, 0, none⟩) M CQ (vals M (vb wsc)) ∧ OwnB wr (some ⟨L, 0, none⟩) M CL (vals M (mixF G (vb wsa) k))) (fun i _ => M - (intOf i).toNat)
    case atStart => exact ⟨0, by omega, rfl, HS1.out, HBXa.out, HBXb.out, HBXc.out, HBR.out, HOP.out, HOQ.out, HOD.out⟩
    case round =>
      obtain ⟨k, hk, rfl, hs, hBXa, hBXb, hBXc, hBR, hOP, hOQ, hOD⟩ := hrel
      have HSr := Lib.hid hs
      have HBrXa := Lib.hid hBXa
      have HBrXb := Lib.hid hBXb
      have HBrXc := Lib.hid hBXc
      have HBrR := Lib.hid hBR
      have HOrP := Lib.hid hOP
      have HOrQ := Lib.hid hOQ
      by_cases hlt : k < M
      · have hk0 : (0 : Int) ≤ k := by omega
        have hk1 : (k : Int) < M := by omega
        have HST := Lib.hid (OwnB.put hOD hlt)
        obtain ⟨hDl, hDc⟩ := OwnB.cell hOD hlt
        have hDf := Own.free hOD k
        rw [mix_at] at hDc
        obtain ⟨hPl, hPc⟩ := OwnB.cell hOP hlt
        obtain ⟨hQl, hQc⟩ := OwnB.cell hOQ hlt
        have hGk : G k = if vb wsa k then vb wsb k else vb wsc k := by rw [← HG.out]; rfl
        rw [hGk] at HST
        clear hs hBXa hBXb hBXc hBR hOP hOQ hOD hGk
        generalize vb wsa k = za at *
        generalize vb wsb k = zb at *
        generalize vb wsc k = zc at *
        cases za
        · rw [if_neg (by decide)] at HST
          go_wp2
          go_roundw
          case rel => exact ⟨k + 1, by omega, by go_num, HSr.out.setNew k _ hDn, HBrXa.out.far (p := ⟨L, k, none⟩) hneXaL _, HBrXb.out.far (p := ⟨L, k, none⟩) hneXbL _, HBrXc.out.far (p := ⟨L, k, none⟩) hneXcL _, HBrR.out.far (p := ⟨L, k, none⟩) hneRL _, Own.far (p := ⟨L, k, none⟩) HOrP.out (fun a ha h => by injection ha with ha; subst ha; exact hnePL h) _, Own.far (p := ⟨L, k, none⟩) HOrQ.out (fun a ha h => by injection ha with ha; subst ha; exact hneQL h) _, HST.out⟩
          case measure => simp [intOf]; omega
        · rw [if_pos rfl] at HST
          go_wp2
          go_roundw
          case rel => exact ⟨k + 1, by omega, by go_num, HSr.out.setNew k _ hDn, HBrXa.out.far (p := ⟨L, k, none⟩) hneXaL _, HBrXb.out.far (p := ⟨L, k, none⟩) hneXbL _, HBrXc.out.far (p := ⟨L, k, none⟩) hneXcL _, HBrR.out.far (p := ⟨L, k, none⟩) hneRL _, Own.far (p := ⟨L, k, none⟩) HOrP.out (fun a ha h => by injection ha with ha; subst ha; exact hnePL h) _, Own.far (p := ⟨L, k, none⟩) HOrQ.out (fun a ha h => by injection ha with ha; subst ha; exact hneQL h) _, HST.out⟩
          case measure => simp [intOf]; omega
      · obtain rfl : k = M := by omega
        rw [vals_full] at hOD
        have HODr := Lib.hid hOD
        have cXa0 : wr.cell? ⟨w.heap.size, 0, none⟩ = some (.int .i64 n) := hBXa.cell 0
        have fXa0 := hBXa.free 0
        have cXa1 : wr.cell? ⟨w.heap.size, 1, none⟩ = some (.slice Aa wsa.length Ca) := hBXa.cell 1
        have fXa1 := hBXa.free 1
        have lXa := hBXa.lt
        have cXb0 : wr.cell? ⟨Xb, 0, none⟩ = some (.int .i64 n) := hBXb.cell 0
        have fXb0 := hBXb.free 0
        have cXb1 : wr.cell? ⟨Xb, 1, none⟩ = some (.slice Ab wsb.length Cb) := hBXb.cell 1
        have fXb1 := hBXb.free 1
        have lXb := hBXb.lt
        have cXc0 : wr.cell? ⟨Xc, 0, none⟩ = some (.int .i64 n) := hBXc.cell 0
        have fXc0 := hBXc.free 0
        have cXc1 : wr.cell? ⟨Xc, 1, none⟩ = some (.slice Ac wsc.length Cc) := hBXc.cell 1
        have fXc1 := hBXc.free 1
        have lXc := hBXc.lt
        have cR0 : wr.cell? ⟨R, 0, none⟩ = some (.int .i64 0) := hBR.cell 0
        have fR0 := hBR.free 0
        have cR1 : wr.cell? ⟨R, 1, none⟩ = some (.slice none 0 0) := hBR.cell 1
        have fR1 := hBR.free 1
        have lR := hBR.lt
        clear hs  hBXa  hBXb  hBXc  hBR  hOP  hOQ  hOD
        go_wp2_with (fail)
        rw [← HM.out] at HODr ⊢
        refine (rof_any n _ (some ⟨L, 0, none⟩) G wr hn (Own.sl (fun _ => rfl) HODr.out)).mono ?_
        rintro e w8 ⟨Aq, Cq, rfl, hNT⟩
        have hoq := hNT.1
        have hfq := hNT.2.1
        have hsq := hNT.2.2
        have hRq : ∀ a, Aq = some a → a.block ≠ R := fun a ha h => by
          have := hfq a.block ⟨a, ha, rfl⟩
          omega
        have HBRq := Lib.hid (HBrR.out.frm hsq id)
        have HSq := Lib.hid (HSr.out.trans hsq (fun _ _ h => h))
        have hfq' : Fresh w.heap.size Aq := fun b hb => by have := hfq b hb; have := HSr.out.size; omega
        have HOQ := Lib.hid hoq
        have HFQ := Lib.hid hfq'
        have hcR0 : w8.cell? ⟨R, 0, none⟩ = some (.int .i64 0) := HBRq.out.cell 0
        have hcR1 : w8.cell? ⟨R, 1, none⟩ = some (.slice none 0 0) := HBRq.out.cell 1
        have hfR0 := HBRq.out.free 0
        have hfR1 := HBRq.out.free 1
        have hlR := HBRq.out.lt
        clear hNT hoq hfq hsq hfq'
        go_wp2
        refine wp_post fun we hwe => ?_
        have hBE : Blk we R 24 #[.int .i64 n, .slice Aq (tab n G).length Cq] := by
          rw [hwe]
          have := (HBRq.out.set 0 (.int .i64 n)).set 1 (.slice Aq (tab n G).length Cq)
          simpa using this
        have hSE : Same w we := by rw [hwe]; exact (HSq.out.setNew 0 _ leR).setNew 1 _ leR
        have hOE : OwnW we Aq (tab n G).length Cq (tab n G) := by
          rw [hwe]
          exact (Own.far (p := ⟨R, 0, none⟩) HOQ.out hRq _).far (p := ⟨R, 1, none⟩) hRq _
        have hr0 : we.cell? ⟨R, 0, none⟩ = some (.int .i64 n) := hBE.cell 0
        have hr1 : we.cell? ⟨R, 1, none⟩ = some (.slice Aq (tab n G).length Cq) := hBE.cell 1
        clear hwe hBE
        refine bodyPost_ret (v := .tuple #[.agg #[.int .i64 n, .slice Aq (tab n G).length Cq], .int .i64 0]) (by simp [results, Try.results34, go_sem, hr0, hr1]) rfl ?_
        exact ⟨Aq, Cq, rfl, hOE, HFQ.out, hSE⟩
end Go.Proofs.Ytlggmoghgoeiiaa


/- Truth tables: TruthJoins: the walk. -/
namespace Go.Proofs.Ytlggmoghgoeiiaa
open Go.RowKit Go.Tk

abbrev TIn (w : World) := {t : Tb // TbIn w t}
theorem tabs_at {w : World} {A : Option Addr} {n : Nat} {xs : List (TIn w)} (h : Sl w 2 (fun x : TIn w => x.1.cells) A n xs) {i : Nat} (hi : i < n) : ∃ (bl o : Nat) (t : Tb), A = some ⟨bl, o, none⟩ ∧ bl < w.heap.size ∧ TbIn w t ∧
    w.cell? ⟨bl, o + i * 2 + 0, none⟩ = some (.int .i64 t.N) ∧ w.cell? ⟨bl, o + i * 2 + 1, none⟩ = some (.slice t.A t.ws.length t.C) := by
  obtain ⟨x, hx⟩ : ∃ x, xs[i]? = some x := ⟨_, List.getElem?_eq_getElem (by rw [← h.len]; exact hi)⟩
  obtain ⟨b, o, hA, hb, hc⟩ := h.get i x hx
  exact ⟨b, o, x.1, hA, hb, x.2, hc 0 (by omega), hc 1 (by omega)⟩
theorem fmE_len {N : Int} {F : Nat → Bool} {b : Bool} (h : b = true → N.toNat ≤ 16) : (ansL (tab N.toNat F) (fmE b)).length ≤ 1000000000000000000 := by
  cases b with
  | false => simp [fmE, ansL]
  | true =>
    rw [show ansL (tab N.toNat F) (fmE true) = tab N.toNat F from rfl]
    exact tab_len_le (h rfl)
theorem binE_len {N : Int} {F : Nat → Bool} {b : Bool} {op : Nat} (h : b = true → N.toNat ≤ 16) : (ansL (tab N.toNat F) (binE op b)).length ≤ 1000000000000000000 := by
  unfold binE
  split
  · simp [ansL]
  · exact fmE_len h
theorem frm_16 {N : Int} {ws : List Nat} (h : frm N ws = true) : N.toNat ≤ 16 := by
  obtain ⟨n, rfl, hf⟩ := frm_true h
  have := hf.n16
  omega
theorem fm_16 {N : Int} {A : Option Addr} {C : Nat} {ws : List Nat} {r : List Tb} (h : fm (⟨N, A, C, ws⟩ :: r) = true) : N.toNat ≤ 16 := by
  have : frm N ws = true := by
    simp [fm, Tb.frm] at h
    exact h.1
  exact frm_16 this
set_option maxRecDepth 100000 in
set_option maxHeartbeats 16000000 in
theorem joins_walk3 (op bl off Ln Cl : Nat) (Na : Int) (Aa : Option Addr) (Ca : Nat) (wsa : List Nat) (Nb : Int) (Ab : Option Addr) (Cb : Nat) (wsb : List Nat) (Nc : Int) (Ac : Option Addr) (Cc : Nat) (wsc : List Nat) (w : World) (hopl : op < 256) (hLn : 3 ≤ Ln) (hbl : bl < w.heap.size) (ha : TbIn w ⟨Na, Aa, Ca, wsa⟩) (hb : TbIn w ⟨Nb, Ab, Cb, wsb⟩) (hc : TbIn w ⟨Nc, Ac, Cc, wsc⟩) (la0 : w.cell? ⟨bl, off, none⟩ = some (.int .i64 Na)) (la1 : w.cell? ⟨bl, off + 1, none⟩ = some (.slice Aa wsa.length Ca)) (lb0 : w.cell? ⟨bl, off + 2, none⟩ = some (.int .i64 Nb)) (lb1 : w.cell? ⟨bl, off + 3, none⟩ = some (.slice Ab wsb.length Cb)) (lc0 : w.cell? ⟨bl, off + 4, none⟩ = some (.int .i64 Nc)) (lc1 : w.cell? ⟨bl, off + 5, none⟩ = some (.slice Ac wsc.length Cc)) :
    Calls Try.prog 6 #[.int .u8 op, .slice (some ⟨bl, off, none⟩) Ln Cl] w fun e w' => e = .returned (.bool true) ∧ Below w.heap.size w w' := by
  have Ha := Lib.hid ha
  have hrooma : wsa.length * 8 ≤ 140737488351232 := ha.room
  have HLa0 := Lib.hid la0
  have HLa1 := Lib.hid la1
  have Hb := Lib.hid hb
  have hroomb : wsb.length * 8 ≤ 140737488351232 := hb.room
  have HLb0 := Lib.hid lb0
  have HLb1 := Lib.hid lb1
  have Hc := Lib.hid hc
  have hroomc : wsc.length * 8 ≤ 140737488351232 := hc.room
  have HLc0 := Lib.hid lc0
  have HLc1 := Lib.hid lc1
  clear ha hb hc la0 la1 lb0 lb1 lc0 lc1
  have hL0 : (0 : Int) < Ln := by omega
  have hL1 : (1 : Int) < Ln := by omega
  have hL2 : (2 : Int) < Ln := by omega
  have hL3 : ¬ (Ln : Int) < 3 := by omega
  go_enter Try.func6, Try.ntmps6
  go_wp2_with (fail)
  refine (awake_any w).mono ?_
  rintro e w2 ⟨rfl, hs12⟩
  have HS := Lib.hid hs12
  clear hs12
  have hP := fun Aa' Ca' w ha => Not_any Na Aa' Ca' wsa w ha
  have hD := fun w ha => docNot_any Na Aa Ca wsa w ha
  have hrl := fmE_len (N := Na) (F := notF wsa) (fun h => frm_16 (ws := wsa) h)
  unfold RetA at hP hD
  generalize ansN Na (fmE (frm Na wsa)) = rn at hP hD
  generalize ansL (tab Na.toNat (notF wsa)) (fmE (frm Na wsa)) = rws at hP hD hrl
  generalize fmE (frm Na wsa) = re at hP hD
  have HP := Lib.hid hP
  have HD := Lib.hid hD
  clear hP hD
  have la0 : w2.cell? ⟨bl, off, none⟩ = some (.int .i64 Na) := ((HS.out).cell (p := ⟨bl, off, none⟩) hbl id).trans HLa0.out
  have la1 : w2.cell? ⟨bl, off + 1, none⟩ = some (.slice Aa wsa.length Ca) := ((HS.out).cell (p := ⟨bl, off + 1, none⟩) hbl id).trans HLa1.out
  have lb0 : w2.cell? ⟨bl, off + 2, none⟩ = some (.int .i64 Nb) := ((HS.out).cell (p := ⟨bl, off + 2, none⟩) hbl id).trans HLb0.out
  have lb1 : w2.cell? ⟨bl, off + 3, none⟩ = some (.slice Ab wsb.length Cb) := ((HS.out).cell (p := ⟨bl, off + 3, none⟩) hbl id).trans HLb1.out
  have lc0 : w2.cell? ⟨bl, off + 4, none⟩ = some (.int .i64 Nc) := ((HS.out).cell (p := ⟨bl, off + 4, none⟩) hbl id).trans HLc0.out
  have lc1 : w2.cell? ⟨bl, off + 5, none⟩ = some (.slice Ac wsc.length Cc) := ((HS.out).cell (p := ⟨bl, off + 5, none⟩) hbl id).trans HLc1.out
  have lbl := Nat.lt_of_lt_of_le hbl (HS.out).size
  go_wp2_with (fail)
  refine (rtwin_any Na Aa Ca wsa w2 (Sl.same Ha.out.ok.wl HS.out) hrooma).mono ?_
  rintro e wb ⟨At, Ct, rfl, hNT⟩
  have hs := hNT.2.2
  have hot := hNT.1
  clear hNT
  clear la0 la1 lb0 lb1 lc0 lc1 lbl
  go_wp2_with (fail)
  refine (HP.out At Ct wb ⟨hot.sl ucell_len, Ha.out.ok.small⟩).mono ?_
  rintro e wc ⟨Ap, Cp, rfl, hNT⟩
  have hs := hs.trans hNT.2.2 (fun _ _ h => h)
  have hop := hNT.1
  clear hNT hot
  have la0 : wc.cell? ⟨bl, off, none⟩ = some (.int .i64 Na) := ((HS.out.trans hs (fun _ _ h => h)).cell (p := ⟨bl, off, none⟩) hbl id).trans HLa0.out
  have la1 : wc.cell? ⟨bl, off + 1, none⟩ = some (.slice Aa wsa.length Ca) := ((HS.out.trans hs (fun _ _ h => h)).cell (p := ⟨bl, off + 1, none⟩) hbl id).trans HLa1.out
  have lb0 : wc.cell? ⟨bl, off + 2, none⟩ = some (.int .i64 Nb) := ((HS.out.trans hs (fun _ _ h => h)).cell (p := ⟨bl, off + 2, none⟩) hbl id).trans HLb0.out
  have lb1 : wc.cell? ⟨bl, off + 3, none⟩ = some (.slice Ab wsb.length Cb) := ((HS.out.trans hs (fun _ _ h => h)).cell (p := ⟨bl, off + 3, none⟩) hbl id).trans HLb1.out
  have lc0 : wc.cell? ⟨bl, off + 4, none⟩ = some (.int .i64 Nc) := ((HS.out.trans hs (fun _ _ h => h)).cell (p := ⟨bl, off + 4, none⟩) hbl id).trans HLc0.out
  have lc1 : wc.cell? ⟨bl, off + 5, none⟩ = some (.slice Ac wsc.length Cc) := ((HS.out.trans hs (fun _ _ h => h)).cell (p := ⟨bl, off + 5, none⟩) hbl id).trans HLc1.out
  have lbl := Nat.lt_of_lt_of_le hbl (HS.out.trans hs (fun _ _ h => h)).size
  go_wp2_with (fail)
  refine call_world fun wd hwd => ?_
  have hsv : Same wc wd := by rw [hwd]; exact (Frm.refl _ _).alloc _
  have hop := Own.frm hop hsv (fun _ _ => id)
  have hBp : Blk wd wc.heap.size 24 #[.int .i64 rn, .slice Ap rws.length Cp] := by rw [hwd]; exact Blk.new _ _ _
  have hTp : w.heap.size ≤ wc.heap.size := (HS.out.trans hs (fun _ _ h => h)).size
  have hs := hs.trans hsv (fun _ _ h => h)
  clear la0 la1 lb0 lb1 lc0 lc1 lbl
  clear hwd hsv
  obtain ⟨Tp, hTpe⟩ : ∃ b, wc.heap.size = b := ⟨_, rfl⟩
  rw [hTpe] at hBp hTp ⊢
  clear hTpe
  refine (HD.out wd ((Ha.out.ok).same (HS.out.trans hs (fun _ _ h => h)))).mono ?_
  rintro e we ⟨Aq, Cq, rfl, hNT⟩
  have hs := hs.trans hNT.2.2 (fun _ _ h => h)
  have hop := Own.frm hop hNT.2.2 (fun _ _ => id)
  have hBp := hBp.frm hNT.2.2 id
  have hoq := hNT.1
  clear hNT
  have hcp0 : we.cell? ⟨Tp, 0, none⟩ = some (.int .i64 rn) := hBp.cell 0
  have hcp1 : we.cell? ⟨Tp, 1, none⟩ = some (.slice Ap rws.length Cp) := hBp.cell 1
  have hlp := hBp.lt
  go_wp2_with (fail)
  refine call_world fun wf hwf => ?_
  have hsv : Same we wf := by rw [hwf]; exact (Frm.refl _ _).alloc _
  have hBq : Blk wf we.heap.size 24 #[.int .i64 rn, .slice Aq rws.length Cq] := by rw [hwf]; exact Blk.new _ _ _
  have hTq : w.heap.size ≤ we.heap.size := (HS.out.trans hs (fun _ _ h => h)).size
  have hpq : Tp ≠ we.heap.size := by omega
  have hop := Own.frm hop hsv (fun _ _ => id)
  have hoq := Own.frm hoq hsv (fun _ _ => id)
  have hBp := hBp.frm hsv id
  have hs := hs.trans hsv (fun _ _ h => h)
  clear hwf hsv hcp0 hcp1 hlp
  obtain ⟨Tq, hTqe⟩ : ∃ b, we.heap.size = b := ⟨_, rfl⟩
  rw [hTqe] at hBq hTq hpq ⊢
  clear hTqe
  refine (alike_any rn Ap rws.length Cp rws re rn Aq rws.length Cq rws re wf (hop.sl ucell_len) (hoq.sl ucell_len) hrl).mono ?_
  rintro e wg ⟨rfl, hsv⟩
  rw [sm_self, beq_self_eq_true, Bool.and_true]
  replace HS := Lib.hid (HS.out.trans (hs.trans hsv (fun _ _ h => h)) (fun _ _ h => h))
  have HBp := Lib.hid (hBp.frm hsv id)
  have HBq := Lib.hid (hBq.frm hsv id)
  clear hop hoq hsv hBp hBq hs HP HD hrl
  have hP := fun Aa' Ca' Ab' Cb' w ha hb => Binary_any op Na Aa' Ca' wsa Nb Ab' Cb' wsb w hopl ha hb
  have hD := fun w ha hb => docBinary_any op Na Aa Ca wsa Nb Ab Cb wsb w ha hb
  have hfe : ∀ (Aa' : Option Addr) (Ca' : Nat) (Ab' : Option Addr) (Cb' : Nat), fm [⟨Na, Aa', Ca', wsa⟩, ⟨Nb, Ab', Cb', wsb⟩] = fm [⟨Na, Aa, Ca, wsa⟩, ⟨Nb, Ab, Cb, wsb⟩] := fun _ _ _ _ => rfl
  simp only [hfe] at hP
  clear hfe
  have hrl := binE_len (N := Na) (F := binF op wsa wsb) (op := op) (fun h => fm_16 (A := Aa) (C := Ca) (ws := wsa) (r := [⟨Nb, Ab, Cb, wsb⟩]) h)
  unfold RetA at hP hD
  generalize ansN Na (binE op (fm [⟨Na, Aa, Ca, wsa⟩, ⟨Nb, Ab, Cb, wsb⟩])) = rn at hP hD
  generalize ansL (tab Na.toNat (binF op wsa wsb)) (binE op (fm [⟨Na, Aa, Ca, wsa⟩, ⟨Nb, Ab, Cb, wsb⟩])) = rws at hP hD hrl
  generalize binE op (fm [⟨Na, Aa, Ca, wsa⟩, ⟨Nb, Ab, Cb, wsb⟩]) = re at hP hD
  have HP := Lib.hid hP
  have HD := Lib.hid hD
  clear hP hD
  have la0 : wg.cell? ⟨bl, off, none⟩ = some (.int .i64 Na) := ((HS.out).cell (p := ⟨bl, off, none⟩) hbl id).trans HLa0.out
  have la1 : wg.cell? ⟨bl, off + 1, none⟩ = some (.slice Aa wsa.length Ca) := ((HS.out).cell (p := ⟨bl, off + 1, none⟩) hbl id).trans HLa1.out
  have lb0 : wg.cell? ⟨bl, off + 2, none⟩ = some (.int .i64 Nb) := ((HS.out).cell (p := ⟨bl, off + 2, none⟩) hbl id).trans HLb0.out
  have lb1 : wg.cell? ⟨bl, off + 3, none⟩ = some (.slice Ab wsb.length Cb) := ((HS.out).cell (p := ⟨bl, off + 3, none⟩) hbl id).trans HLb1.out
  have lc0 : wg.cell? ⟨bl, off + 4, none⟩ = some (.int .i64 Nc) := ((HS.out).cell (p := ⟨bl, off + 4, none⟩) hbl id).trans HLc0.out
  have lc1 : wg.cell? ⟨bl, off + 5, none⟩ = some (.slice Ac wsc.length Cc) := ((HS.out).cell (p := ⟨bl, off + 5, none⟩) hbl id).trans HLc1.out
  have lbl := Nat.lt_of_lt_of_le hbl (HS.out).size
  have cT0 : wg.cell? ⟨Tp, 0, none⟩ = _ := HBp.out.cell 0
  have lT := HBp.out.lt
  obtain ⟨S, hS⟩ : ∃ S : Nat → Prop, (fun b => b = Tp) = S := ⟨_, rfl⟩
  have hSX : ¬ S bl := by rw [← hS]; exact fun h => by have h : bl = Tp := h; omega
  have HSS := Lib.hid hS
  clear hS cT0 lT
  go_upto_region 9 with fail
  refine wp_phS S [([0, 1, 2, 3, 5, 6, 7], 4), ([], 8), ([], 9), ([10, 11, 12], 13), ([], 14)] (by kernel_rfl) (by kernel_rfl) ?_
  simp only [wpPh, pick, List.map_cons, List.map_nil, List.getD_cons_zero, List.getD_cons_succ]
  have hs : Same wg wg.drew := (Frm.refl _ _).drew
  repeat (any_goals (first | go_big_quiet_step (fail) | quiet_step (fail)))
  refine wpQuiet_nil ?_
  refine effStep_plain rfl fun K hK => ?_
  go_simp
  refine (rtwin_any Na Aa Ca wsa _ (Sl.same Ha.out.ok.wl (HS.out.trans hs (fun _ _ h => h))) hrooma).mono ?_
  rintro e u ⟨Ata, Cta, rfl, hNT⟩
  have hota := hNT.1
  have hs := hs.trans hNT.2.2 (fun _ _ h => h)
  clear hNT
  refine hK _ _ (Lat.mk_ (Frm.mono hs (fun _ _ h => h.elim))) ?_
  clear hK K
  repeat (any_goals (first | go_big_quiet_step (fail) | quiet_step (fail)))
  refine wpQuiet_nil ?_
  refine effStep_plain rfl fun K hK => ?_
  go_simp
  refine (rtwin_any Nb Ab Cb wsb _ (Sl.same Hb.out.ok.wl (HS.out.trans hs (fun _ _ h => h))) hroomb).mono ?_
  rintro e u ⟨Atb, Ctb, rfl, hNT⟩
  have hota := Own.frm hota hNT.2.2 (fun _ _ => id)
  have hotb := hNT.1
  have hs := hs.trans hNT.2.2 (fun _ _ h => h)
  clear hNT
  refine hK _ _ (Lat.mk_ (Frm.mono hs (fun _ _ h => h.elim))) ?_
  clear hK K
  repeat (any_goals (first | go_big_quiet_step (fail) | quiet_step (fail)))
  refine wpQuiet_nil ?_
  refine effStep_plain rfl fun K hK => ?_
  go_simp
  refine (HP.out Ata Cta Atb Ctb _ ⟨hota.sl ucell_len, Ha.out.ok.small⟩ ⟨hotb.sl ucell_len, Hb.out.ok.small⟩).mono ?_
  rintro e u ⟨Ap, Cp, rfl, hNT⟩
  have hRp : ∀ a, Ap = some a → a.block ≠ Tp := fun a ha h => by
    have h1 := hNT.2.1 a.block ⟨a, ha, rfl⟩
    have h2 := HBp.out.lt
    have h3 := hs.size
    omega
  have hQp : ∀ a, Ap = some a → a.block ≠ Tq := fun a ha h => by
    have h1 := hNT.2.1 a.block ⟨a, ha, rfl⟩
    have h2 := HBq.out.lt
    have h3 := hs.size
    omega
  have hop := hNT.1
  have hs := hs.trans hNT.2.2 (fun _ _ h => h)
  clear hNT hota hotb
  refine hK _ _ (Lat.mk_ (Frm.mono hs (fun _ _ h => h.elim))) ?_
  clear hK K
  have hBp := HBp.out.frm hs id
  have hcR0 : u.cell? ⟨Tp, 0, none⟩ = _ := hBp.cell 0
  have hcR1 : u.cell? ⟨Tp, 1, none⟩ = _ := hBp.cell 1
  have hfR0 := hBp.free 0
  have hfR1 := hBp.free 1
  have hlR := hBp.lt
  repeat (any_goals (first | go_big_quiet_step (fail) | quiet_step (fail)))
  refine wpQuiet_nil ?_
  refine effStep_plain rfl fun K hK => ?_
  go_simp
  refine hK _ _ (Lat.mk_ ?_) ?_
  · have hSR : S Tp := cast (congrFun HSS.out Tp) rfl
    have hF6 : Frm S wg u := Frm.mono hs (fun _ _ h => h.elim)
    exact (hF6.setCell (p := ⟨Tp, 0, none⟩) (.inl hSR) _).setCell (p := ⟨Tp, 1, none⟩) (.inl hSR) _
  clear hK K hcR0 hcR1 hfR0 hfR1 hlR
  clear la0 la1 lb0 lb1 lc0 lc1 lbl
  repeat (any_goals (first | go_big_quiet_step (fail) | quiet_step (fail)))
  refine wpQuiet_nil ?_
  refine list_world fun wh hwh => ?_
  replace HBp := Lib.hid (show Blk wh Tp 24 #[.int .i64 rn, .slice Ap rws.length Cp] by
    rw [hwh]
    have := (hBp.set 0 (.int .i64 rn)).set 1 (.slice Ap rws.length Cp)
    simpa using this)
  replace HBq := Lib.hid (show Blk wh _ _ _ by rw [hwh]; exact ((HBq.out.frm hs id).far (p := ⟨Tp, 0, none⟩) (Ne.symm hpq) (.int .i64 rn)).far (p := ⟨Tp, 1, none⟩) (Ne.symm hpq) (.slice Ap rws.length Cp))
  have HOp := Lib.hid (show OwnW wh _ _ _ _ by rw [hwh]; exact (Own.far (p := ⟨Tp, 0, none⟩) hop hRp (.int .i64 rn)).far (p := ⟨Tp, 1, none⟩) hRp (.slice Ap rws.length Cp))
  replace HS := Lib.hid (show Same w wh by rw [hwh]; exact ((HS.out.trans hs (fun _ _ h => h)).setNew 0 (.int .i64 rn) hTp).setNew 1 (.slice Ap rws.length Cp) hTp)
  clear hwh hs hBp hop hRp hSX HSS
  have la0 : wh.cell? ⟨bl, off, none⟩ = some (.int .i64 Na) := ((HS.out).cell (p := ⟨bl, off, none⟩) hbl id).trans HLa0.out
  have la1 : wh.cell? ⟨bl, off + 1, none⟩ = some (.slice Aa wsa.length Ca) := ((HS.out).cell (p := ⟨bl, off + 1, none⟩) hbl id).trans HLa1.out
  have lb0 : wh.cell? ⟨bl, off + 2, none⟩ = some (.int .i64 Nb) := ((HS.out).cell (p := ⟨bl, off + 2, none⟩) hbl id).trans HLb0.out
  have lb1 : wh.cell? ⟨bl, off + 3, none⟩ = some (.slice Ab wsb.length Cb) := ((HS.out).cell (p := ⟨bl, off + 3, none⟩) hbl id).trans HLb1.out
  have lc0 : wh.cell? ⟨bl, off + 4, none⟩ = some (.int .i64 Nc) := ((HS.out).cell (p := ⟨bl, off + 4, none⟩) hbl id).trans HLc0.out
  have lc1 : wh.cell? ⟨bl, off + 5, none⟩ = some (.slice Ac wsc.length Cc) := ((HS.out).cell (p := ⟨bl, off + 5, none⟩) hbl id).trans HLc1.out
  have lbl := Nat.lt_of_lt_of_le hbl (HS.out).size
  have cT0 : wh.cell? ⟨Tq, 0, none⟩ = _ := HBq.out.cell 0
  have lT := HBq.out.lt
  obtain ⟨S, hS⟩ : ∃ S : Nat → Prop, (fun b => b = Tq) = S := ⟨_, rfl⟩
  have hSX : ¬ S bl := by rw [← hS]; exact fun h => by have h : bl = Tq := h; omega
  have HSS := Lib.hid hS
  clear hS cT0 lT
  go_upto_region 10 with fail
  refine wp_phS S [([0, 1, 2, 3, 4, 5, 6], 7), ([8, 9, 10], 11), ([], 12)] (by kernel_rfl) (by kernel_rfl) ?_
  simp only [wpPh, pick, List.map_cons, List.map_nil, List.getD_cons_zero, List.getD_cons_succ]
  have hs : Same wh wh.drew := (Frm.refl _ _).drew
  repeat (any_goals (first | go_big_quiet_step (fail) | quiet_step (fail)))
  refine wpQuiet_nil ?_
  refine effStep_plain rfl fun K hK => ?_
  go_simp
  refine (HD.out  _ (Ha.out.ok.same (HS.out.trans hs (fun _ _ h => h))) (Hb.out.ok.same (HS.out.trans hs (fun _ _ h => h)))).mono ?_
  rintro e u ⟨Aq, Cq, rfl, hNT⟩
  have hRq : ∀ a, Aq = some a → a.block ≠ Tq := fun a ha h => by
    have h1 := hNT.2.1 a.block ⟨a, ha, rfl⟩
    have h2 := HBq.out.lt
    have h3 := hs.size
    omega
  have hQq : ∀ a, Aq = some a → a.block ≠ Tp := fun a ha h => by
    have h1 := hNT.2.1 a.block ⟨a, ha, rfl⟩
    have h2 := HBp.out.lt
    have h3 := hs.size
    omega
  have hoq := hNT.1
  have hs := hs.trans hNT.2.2 (fun _ _ h => h)
  clear hNT 
  refine hK _ _ (Lat.mk_ (Frm.mono hs (fun _ _ h => h.elim))) ?_
  clear hK K
  have hBq := HBq.out.frm hs id
  have hcR0 : u.cell? ⟨Tq, 0, none⟩ = _ := hBq.cell 0
  have hcR1 : u.cell? ⟨Tq, 1, none⟩ = _ := hBq.cell 1
  have hfR0 := hBq.free 0
  have hfR1 := hBq.free 1
  have hlR := hBq.lt
  repeat (any_goals (first | go_big_quiet_step (fail) | quiet_step (fail)))
  refine wpQuiet_nil ?_
  refine effStep_plain rfl fun K hK => ?_
  go_simp
  refine hK _ _ (Lat.mk_ ?_) ?_
  · have hSR : S Tq := cast (congrFun HSS.out Tq) rfl
    have hF6 : Frm S wh u := Frm.mono hs (fun _ _ h => h.elim)
    exact (hF6.setCell (p := ⟨Tq, 0, none⟩) (.inl hSR) _).setCell (p := ⟨Tq, 1, none⟩) (.inl hSR) _
  clear hK K hcR0 hcR1 hfR0 hfR1 hlR
  clear la0 la1 lb0 lb1 lc0 lc1 lbl
  repeat (any_goals (first | go_big_quiet_step (fail) | quiet_step (fail)))
  refine wpQuiet_nil ?_
  refine list_world fun wi hwi => ?_
  replace HBq := Lib.hid (show Blk wi Tq 24 #[.int .i64 rn, .slice Aq rws.length Cq] by
    rw [hwi]
    have := (hBq.set 0 (.int .i64 rn)).set 1 (.slice Aq rws.length Cq)
    simpa using this)
  replace HBp := Lib.hid (show Blk wi _ _ _ by rw [hwi]; exact ((HBp.out.frm hs id).far (p := ⟨Tq, 0, none⟩) hpq (.int .i64 rn)).far (p := ⟨Tq, 1, none⟩) hpq (.slice Aq rws.length Cq))
  have HOq := Lib.hid (show OwnW wi _ _ _ _ by rw [hwi]; exact (Own.far (p := ⟨Tq, 0, none⟩) hoq hRq (.int .i64 rn)).far (p := ⟨Tq, 1, none⟩) hRq (.slice Aq rws.length Cq))
  replace HOp := Lib.hid (show OwnW wi _ _ _ _ by rw [hwi]; exact (Own.far (p := ⟨Tq, 0, none⟩) (Own.frm HOp.out hs (fun _ _ => id)) hQp (.int .i64 rn)).far (p := ⟨Tq, 1, none⟩) hQp (.slice Aq rws.length Cq))
  replace HS := Lib.hid (show Same w wi by rw [hwi]; exact ((HS.out.trans hs (fun _ _ h => h)).setNew 0 (.int .i64 rn) hTq).setNew 1 (.slice Aq rws.length Cq) hTq)
  clear hwi hs hBq hoq hRq hSX HSS
  have hcp0 : wi.cell? ⟨Tp, 0, none⟩ = some (.int .i64 rn) := HBp.out.cell 0
  have hcp1 : wi.cell? ⟨Tp, 1, none⟩ = some (.slice Ap rws.length Cp) := HBp.out.cell 1
  have hlp := HBp.out.lt
  have hcq0 : wi.cell? ⟨Tq, 0, none⟩ = some (.int .i64 rn) := HBq.out.cell 0
  have hcq1 : wi.cell? ⟨Tq, 1, none⟩ = some (.slice Aq rws.length Cq) := HBq.out.cell 1
  have hlq := HBq.out.lt
  go_wp2_with (fail)
  refine (alike_any rn Ap rws.length Cp rws re rn Aq rws.length Cq rws re wi (HOp.out.sl ucell_len) (HOq.out.sl ucell_len) hrl).mono ?_
  rintro e wj ⟨rfl, hsv⟩
  rw [sm_self, beq_self_eq_true, Bool.and_true]
  replace HS := Lib.hid (HS.out.trans hsv (fun _ _ h => h))
  replace HBp := Lib.hid (HBp.out.frm hsv id)
  replace HBq := Lib.hid (HBq.out.frm hsv id)
  clear hsv hcp0 hcp1 hlp hcq0 hcq1 hlq HOp HOq HP HD hrl hQp hQq
  have hP := fun Aa' Ca' Ab' Cb' Ac' Cc' w ha hb hc => Ite_any Na Aa' Ca' wsa Nb Ab' Cb' wsb Nc Ac' Cc' wsc w ha hb hc
  have hD := fun w ha hb hc => docIte_any Na Aa Ca wsa Nb Ab Cb wsb Nc Ac Cc wsc w ha hb hc
  have hfe : ∀ (Aa' : Option Addr) (Ca' : Nat) (Ab' : Option Addr) (Cb' : Nat) (Ac' : Option Addr) (Cc' : Nat), fm [⟨Na, Aa', Ca', wsa⟩, ⟨Nb, Ab', Cb', wsb⟩, ⟨Nc, Ac', Cc', wsc⟩] = fm [⟨Na, Aa, Ca, wsa⟩, ⟨Nb, Ab, Cb, wsb⟩, ⟨Nc, Ac, Cc, wsc⟩] := fun _ _ _ _ _ _ => rfl
  simp only [hfe] at hP
  clear hfe
  have hrl := fmE_len (N := Na) (F := iteF wsa wsb wsc) (fun h => fm_16 (A := Aa) (C := Ca) (ws := wsa) (r := [⟨Nb, Ab, Cb, wsb⟩, ⟨Nc, Ac, Cc, wsc⟩]) h)
  unfold RetA at hP hD
  generalize ansN Na (fmE (fm [⟨Na, Aa, Ca, wsa⟩, ⟨Nb, Ab, Cb, wsb⟩, ⟨Nc, Ac, Cc, wsc⟩])) = rn at hP hD
  generalize ansL (tab Na.toNat (iteF wsa wsb wsc)) (fmE (fm [⟨Na, Aa, Ca, wsa⟩, ⟨Nb, Ab, Cb, wsb⟩, ⟨Nc, Ac, Cc, wsc⟩])) = rws at hP hD hrl
  generalize fmE (fm [⟨Na, Aa, Ca, wsa⟩, ⟨Nb, Ab, Cb, wsb⟩, ⟨Nc, Ac, Cc, wsc⟩]) = re at hP hD
  have HP := Lib.hid hP
  have HD := Lib.hid hD
  clear hP hD
  have la0 : wj.cell? ⟨bl, off, none⟩ = some (.int .i64 Na) := ((HS.out).cell (p := ⟨bl, off, none⟩) hbl id).trans HLa0.out
  have la1 : wj.cell? ⟨bl, off + 1, none⟩ = some (.slice Aa wsa.length Ca) := ((HS.out).cell (p := ⟨bl, off + 1, none⟩) hbl id).trans HLa1.out
  have lb0 : wj.cell? ⟨bl, off + 2, none⟩ = some (.int .i64 Nb) := ((HS.out).cell (p := ⟨bl, off + 2, none⟩) hbl id).trans HLb0.out
  have lb1 : wj.cell? ⟨bl, off + 3, none⟩ = some (.slice Ab wsb.length Cb) := ((HS.out).cell (p := ⟨bl, off + 3, none⟩) hbl id).trans HLb1.out
  have lc0 : wj.cell? ⟨bl, off + 4, none⟩ = some (.int .i64 Nc) := ((HS.out).cell (p := ⟨bl, off + 4, none⟩) hbl id).trans HLc0.out
  have lc1 : wj.cell? ⟨bl, off + 5, none⟩ = some (.slice Ac wsc.length Cc) := ((HS.out).cell (p := ⟨bl, off + 5, none⟩) hbl id).trans HLc1.out
  have lbl := Nat.lt_of_lt_of_le hbl (HS.out).size
  have cT0 : wj.cell? ⟨Tp, 0, none⟩ = _ := HBp.out.cell 0
  have lT := HBp.out.lt
  obtain ⟨S, hS⟩ : ∃ S : Nat → Prop, (fun b => b = Tp) = S := ⟨_, rfl⟩
  have hSX : ¬ S bl := by rw [← hS]; exact fun h => by have h : bl = Tp := h; omega
  have HSS := Lib.hid hS
  clear hS cT0 lT
  go_upto_region 13 with fail
  refine wp_phS S [([0, 1, 2, 4, 5, 6, 8, 9, 10], 3), ([], 7), ([], 11), ([], 12), ([13, 14, 15], 16), ([], 17)] (by kernel_rfl) (by kernel_rfl) ?_
  simp only [wpPh, pick, List.map_cons, List.map_nil, List.getD_cons_zero, List.getD_cons_succ]
  have hs : Same wj wj.drew := (Frm.refl _ _).drew
  repeat (any_goals (first | go_big_quiet_step (fail) | quiet_step (fail)))
  refine wpQuiet_nil ?_
  refine effStep_plain rfl fun K hK => ?_
  go_simp
  refine (rtwin_any Na Aa Ca wsa _ (Sl.same Ha.out.ok.wl (HS.out.trans hs (fun _ _ h => h))) hrooma).mono ?_
  rintro e u ⟨Ata, Cta, rfl, hNT⟩
  have hota := hNT.1
  have hs := hs.trans hNT.2.2 (fun _ _ h => h)
  clear hNT
  refine hK _ _ (Lat.mk_ (Frm.mono hs (fun _ _ h => h.elim))) ?_
  clear hK K
  repeat (any_goals (first | go_big_quiet_step (fail) | quiet_step (fail)))
  refine wpQuiet_nil ?_
  refine effStep_plain rfl fun K hK => ?_
  go_simp
  refine (rtwin_any Nb Ab Cb wsb _ (Sl.same Hb.out.ok.wl (HS.out.trans hs (fun _ _ h => h))) hroomb).mono ?_
  rintro e u ⟨Atb, Ctb, rfl, hNT⟩
  have hota := Own.frm hota hNT.2.2 (fun _ _ => id)
  have hotb := hNT.1
  have hs := hs.trans hNT.2.2 (fun _ _ h => h)
  clear hNT
  refine hK _ _ (Lat.mk_ (Frm.mono hs (fun _ _ h => h.elim))) ?_
  clear hK K
  repeat (any_goals (first | go_big_quiet_step (fail) | quiet_step (fail)))
  refine wpQuiet_nil ?_
  refine effStep_plain rfl fun K hK => ?_
  go_simp
  refine (rtwin_any Nc Ac Cc wsc _ (Sl.same Hc.out.ok.wl (HS.out.trans hs (fun _ _ h => h))) hroomc).mono ?_
  rintro e u ⟨Atc, Ctc, rfl, hNT⟩
  have hota := Own.frm hota hNT.2.2 (fun _ _ => id)
  have hotb := Own.frm hotb hNT.2.2 (fun _ _ => id)
  have hotc := hNT.1
  have hs := hs.trans hNT.2.2 (fun _ _ h => h)
  clear hNT
  refine hK _ _ (Lat.mk_ (Frm.mono hs (fun _ _ h => h.elim))) ?_
  clear hK K
  repeat (any_goals (first | go_big_quiet_step (fail) | quiet_step (fail)))
  refine wpQuiet_nil ?_
  refine effStep_plain rfl fun K hK => ?_
  go_simp
  refine (HP.out Ata Cta Atb Ctb Atc Ctc _ ⟨hota.sl ucell_len, Ha.out.ok.small⟩ ⟨hotb.sl ucell_len, Hb.out.ok.small⟩ ⟨hotc.sl ucell_len, Hc.out.ok.small⟩).mono ?_
  rintro e u ⟨Ap, Cp, rfl, hNT⟩
  have hRp : ∀ a, Ap = some a → a.block ≠ Tp := fun a ha h => by
    have h1 := hNT.2.1 a.block ⟨a, ha, rfl⟩
    have h2 := HBp.out.lt
    have h3 := hs.size
    omega
  have hQp : ∀ a, Ap = some a → a.block ≠ Tq := fun a ha h => by
    have h1 := hNT.2.1 a.block ⟨a, ha, rfl⟩
    have h2 := HBq.out.lt
    have h3 := hs.size
    omega
  have hop := hNT.1
  have hs := hs.trans hNT.2.2 (fun _ _ h => h)
  clear hNT hota hotb hotc
  refine hK _ _ (Lat.mk_ (Frm.mono hs (fun _ _ h => h.elim))) ?_
  clear hK K
  have hBp := HBp.out.frm hs id
  have hcR0 : u.cell? ⟨Tp, 0, none⟩ = _ := hBp.cell 0
  have hcR1 : u.cell? ⟨Tp, 1, none⟩ = _ := hBp.cell 1
  have hfR0 := hBp.free 0
  have hfR1 := hBp.free 1
  have hlR := hBp.lt
  repeat (any_goals (first | go_big_quiet_step (fail) | quiet_step (fail)))
  refine wpQuiet_nil ?_
  refine effStep_plain rfl fun K hK => ?_
  go_simp
  refine hK _ _ (Lat.mk_ ?_) ?_
  · have hSR : S Tp := cast (congrFun HSS.out Tp) rfl
    have hF6 : Frm S wj u := Frm.mono hs (fun _ _ h => h.elim)
    exact (hF6.setCell (p := ⟨Tp, 0, none⟩) (.inl hSR) _).setCell (p := ⟨Tp, 1, none⟩) (.inl hSR) _
  clear hK K hcR0 hcR1 hfR0 hfR1 hlR
  clear la0 la1 lb0 lb1 lc0 lc1 lbl
  repeat (any_goals (first | go_big_quiet_step (fail) | quiet_step (fail)))
  refine wpQuiet_nil ?_
  refine list_world fun wk hwk => ?_
  replace HBp := Lib.hid (show Blk wk Tp 24 #[.int .i64 rn, .slice Ap rws.length Cp] by
    rw [hwk]
    have := (hBp.set 0 (.int .i64 rn)).set 1 (.slice Ap rws.length Cp)
    simpa using this)
  replace HBq := Lib.hid (show Blk wk _ _ _ by rw [hwk]; exact ((HBq.out.frm hs id).far (p := ⟨Tp, 0, none⟩) (Ne.symm hpq) (.int .i64 rn)).far (p := ⟨Tp, 1, none⟩) (Ne.symm hpq) (.slice Ap rws.length Cp))
  have HOp := Lib.hid (show OwnW wk _ _ _ _ by rw [hwk]; exact (Own.far (p := ⟨Tp, 0, none⟩) hop hRp (.int .i64 rn)).far (p := ⟨Tp, 1, none⟩) hRp (.slice Ap rws.length Cp))
  replace HS := Lib.hid (show Same w wk by rw [hwk]; exact ((HS.out.trans hs (fun _ _ h => h)).setNew 0 (.int .i64 rn) hTp).setNew 1 (.slice Ap rws.length Cp) hTp)
  clear hwk hs hBp hop hRp hSX HSS
  have la0 : wk.cell? ⟨bl, off, none⟩ = some (.int .i64 Na) := ((HS.out).cell (p := ⟨bl, off, none⟩) hbl id).trans HLa0.out
  have la1 : wk.cell? ⟨bl, off + 1, none⟩ = some (.slice Aa wsa.length Ca) := ((HS.out).cell (p := ⟨bl, off + 1, none⟩) hbl id).trans HLa1.out
  have lb0 : wk.cell? ⟨bl, off + 2, none⟩ = some (.int .i64 Nb) := ((HS.out).cell (p := ⟨bl, off + 2, none⟩) hbl id).trans HLb0.out
  have lb1 : wk.cell? ⟨bl, off + 3, none⟩ = some (.slice Ab wsb.length Cb) := ((HS.out).cell (p := ⟨bl, off + 3, none⟩) hbl id).trans HLb1.out
  have lc0 : wk.cell? ⟨bl, off + 4, none⟩ = some (.int .i64 Nc) := ((HS.out).cell (p := ⟨bl, off + 4, none⟩) hbl id).trans HLc0.out
  have lc1 : wk.cell? ⟨bl, off + 5, none⟩ = some (.slice Ac wsc.length Cc) := ((HS.out).cell (p := ⟨bl, off + 5, none⟩) hbl id).trans HLc1.out
  have lbl := Nat.lt_of_lt_of_le hbl (HS.out).size
  have cT0 : wk.cell? ⟨Tq, 0, none⟩ = _ := HBq.out.cell 0
  have lT := HBq.out.lt
  obtain ⟨S, hS⟩ : ∃ S : Nat → Prop, (fun b => b = Tq) = S := ⟨_, rfl⟩
  have hSX : ¬ S bl := by rw [← hS]; exact fun h => by have h : bl = Tq := h; omega
  have HSS := Lib.hid hS
  clear hS cT0 lT
  go_upto_region 14 with fail
  refine wp_phS S [([0, 1, 2, 3, 4, 5, 6, 7, 8], 9), ([10, 11, 12], 13), ([], 14)] (by kernel_rfl) (by kernel_rfl) ?_
  simp only [wpPh, pick, List.map_cons, List.map_nil, List.getD_cons_zero, List.getD_cons_succ]
  have hs : Same wk wk.drew := (Frm.refl _ _).drew
  repeat (any_goals (first | go_big_quiet_step (fail) | quiet_step (fail)))
  refine wpQuiet_nil ?_
  refine effStep_plain rfl fun K hK => ?_
  go_simp
  refine (HD.out  _ (Ha.out.ok.same (HS.out.trans hs (fun _ _ h => h))) (Hb.out.ok.same (HS.out.trans hs (fun _ _ h => h))) (Hc.out.ok.same (HS.out.trans hs (fun _ _ h => h)))).mono ?_
  rintro e u ⟨Aq, Cq, rfl, hNT⟩
  have hRq : ∀ a, Aq = some a → a.block ≠ Tq := fun a ha h => by
    have h1 := hNT.2.1 a.block ⟨a, ha, rfl⟩
    have h2 := HBq.out.lt
    have h3 := hs.size
    omega
  have hQq : ∀ a, Aq = some a → a.block ≠ Tp := fun a ha h => by
    have h1 := hNT.2.1 a.block ⟨a, ha, rfl⟩
    have h2 := HBp.out.lt
    have h3 := hs.size
    omega
  have hoq := hNT.1
  have hs := hs.trans hNT.2.2 (fun _ _ h => h)
  clear hNT 
  refine hK _ _ (Lat.mk_ (Frm.mono hs (fun _ _ h => h.elim))) ?_
  clear hK K
  have hBq := HBq.out.frm hs id
  have hcR0 : u.cell? ⟨Tq, 0, none⟩ = _ := hBq.cell 0
  have hcR1 : u.cell? ⟨Tq, 1, none⟩ = _ := hBq.cell 1
  have hfR0 := hBq.free 0
  have hfR1 := hBq.free 1
  have hlR := hBq.lt
  repeat (any_goals (first | go_big_quiet_step (fail) | quiet_step (fail)))
  refine wpQuiet_nil ?_
  refine effStep_plain rfl fun K hK => ?_
  go_simp
  refine hK _ _ (Lat.mk_ ?_) ?_
  · have hSR : S Tq := cast (congrFun HSS.out Tq) rfl
    have hF6 : Frm S wk u := Frm.mono hs (fun _ _ h => h.elim)
    exact (hF6.setCell (p := ⟨Tq, 0, none⟩) (.inl hSR) _).setCell (p := ⟨Tq, 1, none⟩) (.inl hSR) _
  clear hK K hcR0 hcR1 hfR0 hfR1 hlR
  clear la0 la1 lb0 lb1 lc0 lc1 lbl
  repeat (any_goals (first | go_big_quiet_step (fail) | quiet_step (fail)))
  refine wpQuiet_nil ?_
  refine list_world fun wl hwl => ?_
  replace HBq := Lib.hid (show Blk wl Tq 24 #[.int .i64 rn, .slice Aq rws.length Cq] by
    rw [hwl]
    have := (hBq.set 0 (.int .i64 rn)).set 1 (.slice Aq rws.length Cq)
    simpa using this)
  replace HBp := Lib.hid (show Blk wl _ _ _ by rw [hwl]; exact ((HBp.out.frm hs id).far (p := ⟨Tq, 0, none⟩) hpq (.int .i64 rn)).far (p := ⟨Tq, 1, none⟩) hpq (.slice Aq rws.length Cq))
  have HOq := Lib.hid (show OwnW wl _ _ _ _ by rw [hwl]; exact (Own.far (p := ⟨Tq, 0, none⟩) hoq hRq (.int .i64 rn)).far (p := ⟨Tq, 1, none⟩) hRq (.slice Aq rws.length Cq))
  replace HOp := Lib.hid (show OwnW wl _ _ _ _ by rw [hwl]; exact (Own.far (p := ⟨Tq, 0, none⟩) (Own.frm HOp.out hs (fun _ _ => id)) hQp (.int .i64 rn)).far (p := ⟨Tq, 1, none⟩) hQp (.slice Aq rws.length Cq))
  replace HS := Lib.hid (show Same w wl by rw [hwl]; exact ((HS.out.trans hs (fun _ _ h => h)).setNew 0 (.int .i64 rn) hTq).setNew 1 (.slice Aq rws.length Cq) hTq)
  clear hwl hs hBq hoq hRq hSX HSS
  have hcp0 : wl.cell? ⟨Tp, 0, none⟩ = some (.int .i64 rn) := HBp.out.cell 0
  have hcp1 : wl.cell? ⟨Tp, 1, none⟩ = some (.slice Ap rws.length Cp) := HBp.out.cell 1
  have hlp := HBp.out.lt
  have hcq0 : wl.cell? ⟨Tq, 0, none⟩ = some (.int .i64 rn) := HBq.out.cell 0
  have hcq1 : wl.cell? ⟨Tq, 1, none⟩ = some (.slice Aq rws.length Cq) := HBq.out.cell 1
  have hlq := HBq.out.lt
  go_wp2_with (fail)
  refine (alike_any rn Ap rws.length Cp rws re rn Aq rws.length Cq rws re wl (HOp.out.sl ucell_len) (HOq.out.sl ucell_len) hrl).mono ?_
  rintro e wm ⟨rfl, hsv⟩
  rw [sm_self, beq_self_eq_true, Bool.and_true]
  replace HS := Lib.hid (HS.out.trans hsv (fun _ _ h => h))
  replace HBp := Lib.hid (HBp.out.frm hsv id)
  replace HBq := Lib.hid (HBq.out.frm hsv id)
  clear hsv hcp0 hcp1 hlp hcq0 hcq1 hlq HOp HOq HP HD hrl hQp hQq
  go_wp2
  go_ret
  exact ⟨rfl, HS.out.to_below (Nat.le_refl _) (fun _ _ => id)⟩
theorem joins_walk (op : Nat) (Al : Option Addr) (Ln Cl : Nat) (w : World) (xs : List (TIn w)) (hop : op < 256) (h : Sl w 2 (fun x : TIn w => x.1.cells) Al Ln xs) :
    Calls Try.prog 6 #[.int .u8 op, .slice Al Ln Cl] w fun e w' => e = .returned (.bool true) ∧ Below w.heap.size w w' := by
  by_cases h3 : Ln < 3
  · have h3' : (Ln : Int) < 3 := by omega
    clear h
    go_enter Try.func6, Try.ntmps6
    go_wp2_with (fail)
    refine (awake_any w).mono ?_
    rintro e w2 ⟨rfl, hs⟩
    go_wp2
    go_ret
    exact ⟨rfl, hs.to_below (Nat.le_refl _) (fun _ _ => id)⟩
  · obtain ⟨bl, o, ⟨Na, Aa, Ca, wsa⟩, rfl, hbl, ha, la0, la1⟩ := tabs_at h (i := 0) (by omega)
    obtain ⟨_, _, ⟨Nb, Ab, Cb, wsb⟩, hA, _, hb, lb0, lb1⟩ := tabs_at h (i := 1) (by omega)
    injection hA with hA
    injection hA with h1 h2
    subst h1 h2
    obtain ⟨_, _, ⟨Nc, Ac, Cc, wsc⟩, hA, _, hc, lc0, lc1⟩ := tabs_at h (i := 2) (by omega)
    injection hA with hA
    injection hA with h1 h2
    subst h1 h2
    exact joins_walk3 op bl o Ln Cl Na Aa Ca wsa Nb Ab Cb wsb Nc Ac Cc wsc w hop (by omega) hbl ha hb hc (by simpa using la0) (by simpa using la1) lb0 lb1 lc0 lc1
end Go.Proofs.Ytlggmoghgoeiiaa


/- Truth tables: slices.Equal at words; Support of the program and of the reference; DocCount. -/
namespace Go.Proofs.Ytlggmoghgoeiiaa
open Go.RowKit Go.Tk

set_option maxRecDepth 100000 in
set_option maxHeartbeats 4000000 in
theorem equalW_any (Aa : Option Addr) (La Ca : Nat) (wsa : List Nat) (Ab : Option Addr) (Lb Cb : Nat) (wsb : List Nat) (w : World) (ha : WL w Aa La wsa) (hb : WL w Ab Lb wsb) (hbd : La ≤ 1000000000000000000) :
    Calls Try.prog 75 #[.slice Aa La Ca, .slice Ab Lb Cb] w fun e w' => e = .returned (.bool (decide (wsa = wsb))) ∧ Same w w' := by
  have hla := ha.len
  have hlb := hb.len
  obtain ⟨r, hr⟩ : ∃ r, decide (wsa = wsb) = r := ⟨_, rfl⟩
  rw [hr]
  have HA := Lib.hid ha
  have HB := Lib.hid hb
  by_cases h2 : La = Lb
  · subst h2
    have HR := Lib.hid hr
    have HLA := Lib.hid hla
    have HLB := Lib.hid hlb
    clear hr hla hlb ha hb
    go_enter Try.func75, Try.ntmps75
    go_wp2
    go_loopw [13] (fun i wr => ∃ k : Nat, k ≤ La ∧ i = .int .i64 k ∧ (∀ j x y, wsa[j]? = some x → wsb[j]? = some y → j < k → x = y) ∧ Same w wr) (fun i _ => La - (intOf i).toNat)
    case atStart => exact ⟨0, by omega, rfl, fun j x y _ _ h => by omega, Frm.refl _ _⟩
    case round =>
      obtain ⟨k, hk, rfl, hall, hs⟩ := hrel
      have HALL := Lib.hid hall
      have HSR := Lib.hid hs
      clear hall
      by_cases hlt : k < La
      · have hk0 : (0 : Int) ≤ k := by omega
        have hk1 : (k : Int) < La := by omega
        obtain ⟨x, hx⟩ : ∃ x, wsa[k]? = some x := ⟨_, List.getElem?_eq_getElem (by rw [← HLA.out]; exact hlt)⟩
        obtain ⟨y, hy⟩ : ∃ x, wsb[k]? = some x := ⟨_, List.getElem?_eq_getElem (by rw [← HLB.out]; exact hlt)⟩
        obtain ⟨ba, offa, hAa, hbla, hca⟩ := WL.at1 (Sl.same HA.out hs) hx
        obtain ⟨bb, offb, hAb, hblb, hcb⟩ := WL.at1 (Sl.same HB.out hs) hy
        subst hAa hAb
        have HX := Lib.hid hx
        have HY := Lib.hid hy
        clear hx hy hs
        by_cases hxy : x = y
        · subst hxy
          have hbq : ((x : Int) != (x : Int)) = false := by simp
          go_upto_region 6 with fail
          refine wp_quiet (by kernel_rfl) (by kernel_rfl) ?_
          repeat (any_goals (first | go_big_quiet_step (fail) | quiet_step (fail)))
          refine wpQuiet_nil ?_
          rintro wq ⟨q, hq⟩
          have hsq : Same wr wq := by rw [hq]; exact more_same _ q
          clear hq
          go_wp2
          go_roundw
          case rel => exact ⟨k + 1, by omega, by go_num, fun j x' y' hx' hy' hj => by
            by_cases hjk : j < k
            · exact HALL.out j x' y' hx' hy' hjk
            · obtain rfl : j = k := by omega
              exact (Option.some.inj (hx'.symm.trans HX.out)).trans (Option.some.inj (hy'.symm.trans HY.out)).symm, HSR.out.trans hsq (fun _ _ h => h)⟩
          case measure => simp [intOf]; omega
        · have hf : r = false := by
            rw [← HR.out]
            rw [decide_eq_false_iff_not]
            intro hw
            rw [hw] at HX
            exact hxy (Option.some.inj (HX.out.symm.trans HY.out))
          subst hf
          have hxi : (x : Int) ≠ y := by omega
          go_upto_region 6 with fail
          refine wp_quiet (by kernel_rfl) (by kernel_rfl) ?_
          repeat (any_goals (first | go_big_quiet_step (fail) | quiet_step (fail)))
          refine wpQuiet_nil ?_
          rintro wq ⟨q, hq⟩
          have hsq : Same wr wq := by rw [hq]; exact more_same _ q
          clear hq
          go_wp2
          go_ret
          exact ⟨rfl, HSR.out.trans hsq (fun _ _ h => h)⟩
      · obtain rfl : k = La := by omega
        have hf : r = true := by
          rw [← HR.out]
          rw [decide_eq_true_eq]
          refine List.ext_getElem? fun j => ?_
          by_cases hj : j < k
          · obtain ⟨x, hx⟩ : ∃ x, wsa[j]? = some x := ⟨_, List.getElem?_eq_getElem (by rw [← HLA.out]; exact hj)⟩
            obtain ⟨y, hy⟩ : ∃ x, wsb[j]? = some x := ⟨_, List.getElem?_eq_getElem (by rw [← HLB.out]; exact hj)⟩
            rw [hx, hy, HALL.out j x y hx hy hj]
          · rw [List.getElem?_eq_none (by rw [← HLA.out]; omega), List.getElem?_eq_none (by rw [← HLB.out]; omega)]
        subst hf
        clear hs
        go_wp2
        go_ret
        exact ⟨rfl, HSR.out⟩
  · have hf : r = false := by
      rw [← hr]
      rw [decide_eq_false_iff_not]
      intro hw
      rw [hw] at hla
      omega
    subst hf
    have h3 : (La : Int) ≠ Lb := by omega
    clear hr hla hlb ha hb
    go_enter Try.func75, Try.ntmps75
    go_wp2
    go_ret
    exact ⟨rfl, Frm.refl _ _⟩
theorem run_words (a : Int) (A : Option Addr) (n C : Nat) (w : World) : (Instr.field 24 (.agg #[.int .i64 a, .slice A n C]) 1).run Try.prog w = .ok (.slice A n C) w := rfl
/-- does it depend on v? -/
def depB (n : Nat) (ws : List Nat) (v : Nat) : Bool := !decide (tab n (hfF v false ws) = tab n (hfF v true ws))
theorem depB_false {n : Nat} {ws : List Nat} {v : Nat} (h : ∀ i, i < 2 ^ n → hfF v false ws i = hfF v true ws i) : depB n ws v = false := by
  unfold depB
  rw [tab_congr h]
  simp
theorem depB_true {n : Nat} {ws : List Nat} {v i : Nat} (hi : i < 2 ^ n) (h : hfF v false ws i ≠ hfF v true ws i) : depB n ws v = true := by
  unfold depB
  have : tab n (hfF v false ws) ≠ tab n (hfF v true ws) := fun he => h (by
    have h2 := congrArg (fun t => vb t i) he
    simp only [vb_tab hi] at h2
    exact h2)
  simp [this]
def supN (N : Int) (ws : List Nat) : Nat := if frm N ws then bsum (depB N.toNat ws) N.toNat else 0
theorem bsum_add (F : Nat → Bool) (j : Nat) : bsum F j + (if F j then 2 ^ j else 0) = bsum F (j + 1) := rfl
set_option maxRecDepth 100000 in
set_option maxHeartbeats 8000000 in
theorem Support_any (Na : Int) (Aa : Option Addr) (Ca : Nat) (wsa : List Nat) (w : World) (h : TbOk w ⟨Na, Aa, Ca, wsa⟩) : Calls Try.prog 41 #[.agg #[.int .i64 Na, .slice Aa wsa.length Ca]] w fun e w' => e = .returned (.tuple #[.int .u64 (supN Na wsa : Nat), .int .i64 (fmE (frm Na wsa))]) ∧ Same w w' := by
  have H := Lib.hid h
  clear h
  unfold supN
  cases hfr : frm Na wsa with
  | false =>
    rw [if_neg (by decide), show fmE false = 5 from rfl]
    have HFM := Lib.hid ((frm_one Na Aa Ca wsa).trans hfr)
    clear hfr
    go_enter Try.func41, Try.ntmps41
    go_upto_region 1 with fail
    refine wp_world fun w1 hw1 => ?_
    have hs1 : Same w w1 := by rw [hw1]; exact (Frm.refl _ _).alloc _
    have hBXa : Blk w1 (w.heap.size) 24 #[.int .i64 Na, .slice Aa wsa.length Ca] := by
      rw [hw1]
      have := (Blk.new w 24 #[.int .i64 Na, .slice Aa wsa.length Ca])
      simpa using this
    clear hw1
    have cXa0 : w1.cell? ⟨w.heap.size, 0, none⟩ = some (.int .i64 Na) := hBXa.cell 0
    have cXa1 : w1.cell? ⟨w.heap.size, 1, none⟩ = some (.slice Aa wsa.length Ca) := hBXa.cell 1
    have lXa := hBXa.lt
    have fXa0 := hBXa.free 0
    have fXa1 := hBXa.free 1
    have HBXa := Lib.hid hBXa
    have HS1 := Lib.hid hs1
    clear hs1 hBXa
    have HOKa := Lib.hid (H.out.same HS1.out)
    go_wp2_with (fail)
    refine call_world fun w2 hw2 => ?_
    have hs2 : Same w1 w2 := by rw [hw2]; exact (Frm.refl _ _).alloc _
    have hBL : Blk w2 w1.heap.size 24 #[.int .i64 Na, .slice Aa wsa.length Ca] := by rw [hw2]; exact Blk.new _ _ _
    have htbs : Tbs w2 w1.heap.size [⟨Na, Aa, Ca, wsa⟩] := by
      intro i t hi
      match i, hi with
      | 0, hi =>
        simp only [List.getElem?_cons_zero, Option.some.injEq] at hi
        subst hi
        exact ⟨hBL.lt, hBL.cell 0, hBL.cell 1⟩
      | i + 1, hi => simp at hi
    have hfc := form_any w1.heap.size 1 1 [⟨Na, Aa, Ca, wsa⟩] w2 rfl (by decide) htbs (fun t ht => by
      simp only [List.mem_cons, List.not_mem_nil, or_false] at ht
      rcases ht with rfl
      · exact (HOKa.out).same hs2)
    rw [HFM.out] at hfc
    refine hfc.mono ?_
    clear hfc htbs hBL hw2
    rintro e w3 ⟨rfl, hs3⟩
    have hs13 : Same w1 w3 := hs2.trans hs3 (fun _ _ h => h)
    clear hs2 hs3
    replace HBXa := Lib.hid (HBXa.out.frm hs13 id)
    replace cXa0 : w3.cell? ⟨w.heap.size, 0, none⟩ = some (.int .i64 Na) := HBXa.out.cell 0
    replace cXa1 : w3.cell? ⟨w.heap.size, 1, none⟩ = some (.slice Aa wsa.length Ca) := HBXa.out.cell 1
    replace lXa := HBXa.out.lt
    replace fXa0 := HBXa.out.free 0
    replace fXa1 := HBXa.out.free 1
    replace HS1 := Lib.hid (HS1.out.trans hs13 (fun _ _ h => h))
    clear hs13
    go_wp2
    go_ret2
    exact ⟨rfl, HS1.out⟩
  | true =>
    obtain ⟨n, rfl, hform⟩ := frm_true hfr
    rw [if_pos rfl, show fmE true = 0 from rfl, Int.toNat_natCast]
    have HFM := Lib.hid ((frm_one n Aa Ca wsa).trans hfr)
    have hn := hform.n16
    have HF := Lib.hid hform
    clear hfr hform
    obtain ⟨pf, hpf⟩ : ∃ p, bsum (depB n wsa) n = p := ⟨_, rfl⟩
    rw [hpf]
    have HPF := Lib.hid hpf
    clear hpf
    go_enter Try.func41, Try.ntmps41
    go_upto_region 1 with fail
    refine wp_world fun w1 hw1 => ?_
    have hs1 : Same w w1 := by rw [hw1]; exact (Frm.refl _ _).alloc _
    have hBXa : Blk w1 (w.heap.size) 24 #[.int .i64 n, .slice Aa wsa.length Ca] := by
      rw [hw1]
      have := (Blk.new w 24 #[.int .i64 n, .slice Aa wsa.length Ca])
      simpa using this
    clear hw1
    have cXa0 : w1.cell? ⟨w.heap.size, 0, none⟩ = some (.int .i64 n) := hBXa.cell 0
    have cXa1 : w1.cell? ⟨w.heap.size, 1, none⟩ = some (.slice Aa wsa.length Ca) := hBXa.cell 1
    have lXa := hBXa.lt
    have fXa0 := hBXa.free 0
    have fXa1 := hBXa.free 1
    have HBXa := Lib.hid hBXa
    have HS1 := Lib.hid hs1
    clear hs1 hBXa
    have HOKa := Lib.hid (H.out.same HS1.out)
    go_wp2_with (fail)
    refine call_world fun w2 hw2 => ?_
    have hs2 : Same w1 w2 := by rw [hw2]; exact (Frm.refl _ _).alloc _
    have hBL : Blk w2 w1.heap.size 24 #[.int .i64 n, .slice Aa wsa.length Ca] := by rw [hw2]; exact Blk.new _ _ _
    have htbs : Tbs w2 w1.heap.size [⟨n, Aa, Ca, wsa⟩] := by
      intro i t hi
      match i, hi with
      | 0, hi =>
        simp only [List.getElem?_cons_zero, Option.some.injEq] at hi
        subst hi
        exact ⟨hBL.lt, hBL.cell 0, hBL.cell 1⟩
      | i + 1, hi => simp at hi
    have hfc := form_any w1.heap.size 1 1 [⟨n, Aa, Ca, wsa⟩] w2 rfl (by decide) htbs (fun t ht => by
      simp only [List.mem_cons, List.not_mem_nil, or_false] at ht
      rcases ht with rfl
      · exact (HOKa.out).same hs2)
    rw [HFM.out] at hfc
    refine hfc.mono ?_
    clear hfc htbs hBL hw2
    rintro e w3 ⟨rfl, hs3⟩
    have hs13 : Same w1 w3 := hs2.trans hs3 (fun _ _ h => h)
    clear hs2 hs3
    replace HBXa := Lib.hid (HBXa.out.frm hs13 id)
    replace cXa0 : w3.cell? ⟨w.heap.size, 0, none⟩ = some (.int .i64 n) := HBXa.out.cell 0
    replace cXa1 : w3.cell? ⟨w.heap.size, 1, none⟩ = some (.slice Aa wsa.length Ca) := HBXa.out.cell 1
    replace lXa := HBXa.out.lt
    replace fXa0 := HBXa.out.free 0
    replace fXa1 := HBXa.out.free 1
    replace HS1 := Lib.hid (HS1.out.trans hs13 (fun _ _ h => h))
    clear hs13
    go_wp2
    go_loopw [4, 12] (fun s i wr => ∃ k : Nat, k ≤ n ∧ i = .int .i64 k ∧ s = .int .u64 (bsum (depB n wsa) k : Nat) ∧ Same w3 wr) (fun _ i _ => n - (intOf i).toNat)
    case atStart => exact ⟨0, by omega, rfl, rfl, Frm.refl _ _⟩
    case round =>
      obtain ⟨k, hk, rfl, rfl, hs⟩ := hrel
      have HS0 := Lib.hid hs
      have HBr := Lib.hid (HBXa.out.frm hs id)
      have HSr := Lib.hid (HS1.out.trans hs (fun _ _ h => h))
      have dX0 : wr.cell? ⟨w.heap.size, 0, none⟩ = some (.int .i64 n) := HBr.out.cell 0
      have dX1 : wr.cell? ⟨w.heap.size, 1, none⟩ = some (.slice Aa wsa.length Ca) := HBr.out.cell 1
      have dXl := HBr.out.lt
      clear cXa0 cXa1 fXa0 fXa1 lXa hs
      by_cases hlt : k < n
      · have hk1 : (k : Int) < n := by omega
        have hbl := bsum_lt (depB n wsa) k
        have hpk : 2 ^ k ≤ 2 ^ 15 := Nat.pow_le_pow_right (by omega) (by omega)
        have hst := bsum_or (depB n wsa) k
        have hdp : (!decide (tab n (hfF k false wsa) = tab n (hfF k true wsa))) = depB n wsa k := rfl
        have HST := Lib.hid hst
        have HDP := Lib.hid hdp
        have HLK := Lib.hid hlt
        have hsw : IntKind.u64.wrap ((2 : Int) ^ k) = ((2 ^ k : Nat) : Int) := by
          rw [pow_int]
          generalize 2 ^ k = p at hpk
          exact IntWalk.u64_in _ (by omega)
        have hk0 : (0 : Int) ≤ k := by omega
        have hmk : min k 64 = k := by omega
        have hor := u64_or_nat (bsum (depB n wsa) k) (2 ^ k) (by omega) (by omega)
        rw [← pow_int k] at hor
        clear hst hdp
        generalize bsum (depB n wsa) k = bs at *
        have hfld := run_words
        go_upto_region 7 with fail
        refine wp_phS (fun _ => False) [([0, 1, 4, 5], 2), ([3], 6), ([7], 8), ([], 9)] (by kernel_rfl) (by kernel_rfl) ?_
        simp only [wpPh, pick, List.map_cons, List.map_nil, List.getD_cons_zero, List.getD_cons_succ]
        have hs : Same wr wr.drew := (Frm.refl _ _).drew
        repeat (any_goals (first | go_big_quiet_step (fail) | quiet_step (fail)))
        refine wpQuiet_nil ?_
        refine effStep_plain rfl fun K hK => ?_
        go_simp
        refine (half_any n k false Aa Ca wsa _ (H.out.same (HSr.out.trans hs (fun _ _ h => h))) HF.out HLK.out).mono ?_
        rintro e u ⟨A0, C0, rfl, hNT⟩
        have hs := hs.trans hNT.2.2 (fun _ _ h => h)
        have ho0 := hNT.1
        refine hK _ _ (Lat.mk_ (Frm.mono hs (fun _ _ h => h.elim))) ?_
        clear hK K hNT
        repeat (any_goals (first | go_big_quiet_step (fail) | quiet_step (fail)))
        refine wpQuiet_nil ?_
        refine effStep_plain rfl fun K hK => ?_
        go_simp
        refine (half_any n k true Aa Ca wsa _ (H.out.same (HSr.out.trans hs (fun _ _ h => h))) HF.out HLK.out).mono ?_
        rintro e u ⟨A1, C1, rfl, hNT⟩
        have hs := hs.trans hNT.2.2 (fun _ _ h => h)
        have ho0 := Own.frm ho0 hNT.2.2 (fun _ _ => id)
        have ho1 := hNT.1
        refine hK _ _ (Lat.mk_ (Frm.mono hs (fun _ _ h => h.elim))) ?_
        clear hK K hNT
        repeat (any_goals (first | go_big_quiet_step (fail) | quiet_step (fail)))
        refine wpQuiet_nil ?_
        refine effStep_plain rfl fun K hK => ?_
        go_simp
        refine (equalW_any A0 _ C0 _ A1 _ C1 _ _ (ho0.sl ucell_len) (ho1.sl ucell_len) (tab_len_le hn)).mono ?_
        rintro e u ⟨rfl, hsz⟩
        have hs := hs.trans hsz (fun _ _ h => h)
        have hdd := HDP.out
        refine hK _ _ (Lat.mk_ (Frm.mono hs (fun _ _ h => h.elim))) ?_
        generalize decide (tab n (hfF k false wsa) = tab n (hfF k true wsa)) = dd at *
        have HDD := Lib.hid hdd
        clear hK K hsz ho0 ho1 hdd
        have HSN := Lib.hid (HS0.out.trans hs (fun _ _ h => h))
        have hBX := HBr.out.frm hs id
        clear hs
        cases dd
        · have hd : depB n wsa k = true := HDD.out.symm
          rw [hd, if_pos rfl] at HST
          refine wpQuiet_nil ?_
          go_wp2
          go_roundw
          case rel => exact ⟨k + 1, by omega, by go_num, by rw [← HST.out], HSN.out⟩
          case measure => simp [intOf]; omega
        · have hd : depB n wsa k = false := HDD.out.symm
          rw [hd, if_neg (by decide), Nat.or_zero] at HST
          refine wpQuiet_nil ?_
          go_wp2
          go_roundw
          case rel => exact ⟨k + 1, by omega, by go_num, by rw [← HST.out], HSN.out⟩
          case measure => simp [intOf]; omega
      · obtain rfl : k = n := by omega
        rw [HPF.out]
        go_wp2
        go_ret2
        exact ⟨rfl, HSr.out⟩
set_option maxRecDepth 100000 in
set_option maxHeartbeats 8000000 in
theorem docCount_any (Na : Int) (Aa : Option Addr) (Ca : Nat) (wsa : List Nat) (w : World) (h : TbOk w ⟨Na, Aa, Ca, wsa⟩) : Calls Try.prog 43 #[.agg #[.int .i64 Na, .slice Aa wsa.length Ca]] w fun e w' => e = .returned (.tuple #[.int .u64 ((if frm Na wsa then popS wsa wsa.length else 0 : Nat) : Nat), .int .i64 (fmE (frm Na wsa))]) ∧ Same w w' := by
  have Ha := Lib.hid h
  have hrf := fun (w' : World) (hs : Same w w') => rForm_any Na Aa _ Ca wsa w' (Sl.same h.wl hs) h.small
  simp only at hrf
  clear h
  cases hfr : frm Na wsa with
  | false =>
    rw [if_neg (by decide), show fmE false = 5 from rfl]
    rw [hfr] at hrf
    have HRF := Lib.hid hrf
    clear hfr hrf
    go_enter Try.func43, Try.ntmps43
    go_upto_region 1 with fail
    refine wp_world fun w1 hw1 => ?_
    have hs1 : Same w w1 := by rw [hw1]; exact (Frm.refl _ _).alloc _
    have hBXa : Blk w1 (w.heap.size) 24 #[.int .i64 Na, .slice Aa wsa.length Ca] := by
      rw [hw1]
      have := (Blk.new w 24 #[.int .i64 Na, .slice Aa wsa.length Ca])
      simpa using this
    clear hw1
    have cXa0 : w1.cell? ⟨w.heap.size, 0, none⟩ = some (.int .i64 Na) := hBXa.cell 0
    have cXa1 : w1.cell? ⟨w.heap.size, 1, none⟩ = some (.slice Aa wsa.length Ca) := hBXa.cell 1
    have lXa := hBXa.lt
    have fXa0 := hBXa.free 0
    have fXa1 := hBXa.free 1
    have HBXa := Lib.hid hBXa
    have HS1 := Lib.hid hs1
    clear hs1 hBXa
    go_wp2_with (fail)
    refine (HRF.out w1 HS1.out).mono ?_
    rintro e w3 ⟨rfl, hs13⟩
    replace HBXa := Lib.hid (HBXa.out.frm hs13 id)
    replace cXa0 : w3.cell? ⟨w.heap.size, 0, none⟩ = some (.int .i64 Na) := HBXa.out.cell 0
    replace cXa1 : w3.cell? ⟨w.heap.size, 1, none⟩ = some (.slice Aa wsa.length Ca) := HBXa.out.cell 1
    replace lXa := HBXa.out.lt
    replace fXa0 := HBXa.out.free 0
    replace fXa1 := HBXa.out.free 1
    replace HS1 := Lib.hid (HS1.out.trans hs13 (fun _ _ h => h))
    clear hs13
    go_wp2
    go_ret2
    exact ⟨rfl, HS1.out⟩
  | true =>
    rw [hfr] at hrf
    obtain ⟨n, rfl, hform⟩ := frm_true hfr
    rw [if_pos rfl, show fmE true = 0 from rfl, popS_form hform]
    have HRF := Lib.hid hrf
    have HFa := Lib.hid hform
    have hn := hform.n16
    clear hrf hfr hform
    have hMp0 : 0 < 2 ^ n := Nat.pow_pos (by omega)
    have hp16 := pow_le16 hn
    obtain ⟨M, hM⟩ : ∃ M, 2 ^ n = M := ⟨_, rfl⟩
    rw [hM] at hp16 hMp0 ⊢
    have hMp := hMp0
    have HM := Lib.hid hM
    clear hM hMp0
    obtain ⟨pf, hpf⟩ : ∃ p, cntB (vb wsa) M = p := ⟨_, rfl⟩
    rw [hpf]
    have HPF := Lib.hid hpf
    clear hpf
    go_enter Try.func43, Try.ntmps43
    go_upto_region 1 with fail
    refine wp_world fun w1 hw1 => ?_
    have hs1 : Same w w1 := by rw [hw1]; exact (Frm.refl _ _).alloc _
    have hBXa : Blk w1 (w.heap.size) 24 #[.int .i64 n, .slice Aa wsa.length Ca] := by
      rw [hw1]
      have := (Blk.new w 24 #[.int .i64 n, .slice Aa wsa.length Ca])
      simpa using this
    clear hw1
    have cXa0 : w1.cell? ⟨w.heap.size, 0, none⟩ = some (.int .i64 n) := hBXa.cell 0
    have cXa1 : w1.cell? ⟨w.heap.size, 1, none⟩ = some (.slice Aa wsa.length Ca) := hBXa.cell 1
    have lXa := hBXa.lt
    have fXa0 := hBXa.free 0
    have fXa1 := hBXa.free 1
    have HBXa := Lib.hid hBXa
    have HS1 := Lib.hid hs1
    clear hs1 hBXa
    go_wp2_with (fail)
    refine (HRF.out w1 HS1.out).mono ?_
    rintro e w3 ⟨rfl, hs13⟩
    replace HBXa := Lib.hid (HBXa.out.frm hs13 id)
    replace cXa0 : w3.cell? ⟨w.heap.size, 0, none⟩ = some (.int .i64 n) := HBXa.out.cell 0
    replace cXa1 : w3.cell? ⟨w.heap.size, 1, none⟩ = some (.slice Aa wsa.length Ca) := HBXa.out.cell 1
    replace lXa := HBXa.out.lt
    replace fXa0 := HBXa.out.free 0
    replace fXa1 := HBXa.out.free 1
    replace HS1 := Lib.hid (HS1.out.trans hs13 (fun _ _ h => h))
    clear hs13
    go_wp2_with (fail)
    refine (values_any n Ca Aa wsa w3 (Ha.out.same HS1.out) HFa.out).mono ?_
    rintro e w4 ⟨Al, CL, rfl, hNB⟩
    rw [HM.out] at hNB ⊢
    obtain ⟨L, rfl, hLl⟩ := Own.form1 hNB.1 (by rw [vals_len]; exact hMp)
    have hLn : w3.heap.size ≤ L := hNB.2.1 L ⟨_, rfl, rfl⟩
    have hsv := hNB.2.2
    have hOL := hNB.1
    rw [vals_len] at hOL
    have HOL := Lib.hid hOL
    clear hNB hOL
    have HS4 := Lib.hid (HS1.out.trans hsv (fun _ _ h => h))
    clear hsv cXa0 cXa1 fXa0 fXa1 lXa
    go_wp2
    go_loopw [4, 13] (fun s i wr => ∃ k : Nat, k ≤ M ∧ i = .int .i64 k ∧ s = .int .u64 (cntB (vb wsa) k : Nat) ∧ w4 = wr) (fun _ i _ => M - (intOf i).toNat)
    case atStart => exact ⟨0, by omega, rfl, rfl, rfl⟩
    case round =>
      obtain ⟨k, hk, rfl, rfl, rfl⟩ := hrel
      have hcl := cntB_le (vb wsa) k
      by_cases hlt : k < M
      · have hk0 : (0 : Int) ≤ k := by omega
        have hk1 : (k : Int) < M := by omega
        obtain ⟨hLl2, hLc⟩ := OwnB.cell HOL.out hlt
        have hst : cntB (vb wsa) (k + 1) = cntB (vb wsa) k + (if vb wsa k then 1 else 0) := rfl
        have HST := Lib.hid hst
        clear hst
        generalize vb wsa k = v at *
        generalize cntB (vb wsa) k = cc at *
        cases v
        · go_wp2
          go_roundw
          case rel => exact ⟨k + 1, by omega, by go_num, by rw [HST.out]; rfl, trivial⟩
          case measure => simp [intOf]; omega
        · go_wp2
          go_roundw
          case rel => exact ⟨k + 1, by omega, by go_num, by rw [HST.out]; go_num, trivial⟩
          case measure => simp [intOf]; omega
      · obtain rfl : k = M := by omega
        rw [HPF.out]
        go_wp2
        go_ret2
        exact ⟨rfl, HS4.out⟩
end Go.Proofs.Ytlggmoghgoeiiaa


/- Truth tables: Support of the reference; TruthTells: the walk. -/
namespace Go.Proofs.Ytlggmoghgoeiiaa
open Go.RowKit Go.Tk

set_option maxRecDepth 100000 in
set_option maxHeartbeats 8000000 in
theorem docSupport_any (Na : Int) (Aa : Option Addr) (Ca : Nat) (wsa : List Nat) (w : World) (h : TbOk w ⟨Na, Aa, Ca, wsa⟩) : Calls Try.prog 42 #[.agg #[.int .i64 Na, .slice Aa wsa.length Ca]] w fun e w' => e = .returned (.tuple #[.int .u64 (supN Na wsa : Nat), .int .i64 (fmE (frm Na wsa))]) ∧ Same w w' := by
  have Ha := Lib.hid h
  have hrf := fun (w' : World) (hs : Same w w') => rForm_any Na Aa _ Ca wsa w' (Sl.same h.wl hs) h.small
  simp only at hrf
  clear h
  unfold supN
  cases hfr : frm Na wsa with
  | false =>
    rw [if_neg (by decide), show fmE false = 5 from rfl]
    rw [hfr] at hrf
    have HRF := Lib.hid hrf
    clear hfr hrf
    go_enter Try.func42, Try.ntmps42
    go_upto_region 1 with fail
    refine wp_world fun w1 hw1 => ?_
    have hs1 : Same w w1 := by rw [hw1]; exact (Frm.refl _ _).alloc _
    have hBXa : Blk w1 (w.heap.size) 24 #[.int .i64 Na, .slice Aa wsa.length Ca] := by
      rw [hw1]
      have := (Blk.new w 24 #[.int .i64 Na, .slice Aa wsa.length Ca])
      simpa using this
    clear hw1
    have cXa0 : w1.cell? ⟨w.heap.size, 0, none⟩ = some (.int .i64 Na) := hBXa.cell 0
    have cXa1 : w1.cell? ⟨w.heap.size, 1, none⟩ = some (.slice Aa wsa.length Ca) := hBXa.cell 1
    have lXa := hBXa.lt
    have fXa0 := hBXa.free 0
    have fXa1 := hBXa.free 1
    have HBXa := Lib.hid hBXa
    have HS1 := Lib.hid hs1
    clear hs1 hBXa
    go_wp2_with (fail)
    refine (HRF.out w1 HS1.out).mono ?_
    rintro e w3 ⟨rfl, hs13⟩
    replace HBXa := Lib.hid (HBXa.out.frm hs13 id)
    replace cXa0 : w3.cell? ⟨w.heap.size, 0, none⟩ = some (.int .i64 Na) := HBXa.out.cell 0
    replace cXa1 : w3.cell? ⟨w.heap.size, 1, none⟩ = some (.slice Aa wsa.length Ca) := HBXa.out.cell 1
    replace lXa := HBXa.out.lt
    replace fXa0 := HBXa.out.free 0
    replace fXa1 := HBXa.out.free 1
    replace HS1 := Lib.hid (HS1.out.trans hs13 (fun _ _ h => h))
    clear hs13
    go_wp2
    go_ret2
    exact ⟨rfl, HS1.out⟩
  | true =>
    rw [hfr] at hrf
    obtain ⟨n, rfl, hform⟩ := frm_true hfr
    rw [if_pos rfl, show fmE true = 0 from rfl, Int.toNat_natCast]
    have HRF := Lib.hid hrf
    have HFa := Lib.hid hform
    have hn := hform.n16
    clear hrf hfr hform
    have hMp0 : 0 < 2 ^ n := Nat.pow_pos (by omega)
    have hp16 := pow_le16 hn
    have hwl := fun (v i : Nat) (b : Bool) (hi : i < 2 ^ n) (hv : v < n) => wth_lt (b := b) hi hv
    have hdf := fun (v : Nat) (h : ∀ i, i < 2 ^ n → hfF v false wsa i = hfF v true wsa i) => depB_false (n := n) h
    have hdt := fun (v i : Nat) (hi : i < 2 ^ n) (h : hfF v false wsa i ≠ hfF v true wsa i) => depB_true (n := n) hi h
    obtain ⟨M, hM⟩ : ∃ M, 2 ^ n = M := ⟨_, rfl⟩
    rw [hM] at hp16 hMp0 hwl hdf hdt
    have hMp := hMp0
    have HM := Lib.hid hM
    have HWL := Lib.hid hwl
    have HDF := Lib.hid hdf
    have HDT := Lib.hid hdt
    clear hM hMp0 hwl hdf hdt
    obtain ⟨pf, hpf⟩ : ∃ p, bsum (depB n wsa) n = p := ⟨_, rfl⟩
    rw [hpf]
    have HPF := Lib.hid hpf
    clear hpf
    go_enter Try.func42, Try.ntmps42
    go_upto_region 1 with fail
    refine wp_world fun w1 hw1 => ?_
    have hs1 : Same w w1 := by rw [hw1]; exact (Frm.refl _ _).alloc _
    have hBXa : Blk w1 (w.heap.size) 24 #[.int .i64 n, .slice Aa wsa.length Ca] := by
      rw [hw1]
      have := (Blk.new w 24 #[.int .i64 n, .slice Aa wsa.length Ca])
      simpa using this
    clear hw1
    have cXa0 : w1.cell? ⟨w.heap.size, 0, none⟩ = some (.int .i64 n) := hBXa.cell 0
    have cXa1 : w1.cell? ⟨w.heap.size, 1, none⟩ = some (.slice Aa wsa.length Ca) := hBXa.cell 1
    have lXa := hBXa.lt
    have fXa0 := hBXa.free 0
    have fXa1 := hBXa.free 1
    have HBXa := Lib.hid hBXa
    have HS1 := Lib.hid hs1
    clear hs1 hBXa
    go_wp2_with (fail)
    refine (HRF.out w1 HS1.out).mono ?_
    rintro e w3 ⟨rfl, hs13⟩
    replace HBXa := Lib.hid (HBXa.out.frm hs13 id)
    replace cXa0 : w3.cell? ⟨w.heap.size, 0, none⟩ = some (.int .i64 n) := HBXa.out.cell 0
    replace cXa1 : w3.cell? ⟨w.heap.size, 1, none⟩ = some (.slice Aa wsa.length Ca) := HBXa.out.cell 1
    replace lXa := HBXa.out.lt
    replace fXa0 := HBXa.out.free 0
    replace fXa1 := HBXa.out.free 1
    replace HS1 := Lib.hid (HS1.out.trans hs13 (fun _ _ h => h))
    clear hs13
    go_wp2_with (fail)
    refine (values_any n Ca Aa wsa w3 (Ha.out.same HS1.out) HFa.out).mono ?_
    rintro e w4 ⟨Al, CL, rfl, hNB⟩
    rw [HM.out] at hNB ⊢
    obtain ⟨L, rfl, hLl⟩ := Own.form1 hNB.1 (by rw [vals_len]; exact hMp)
    have hLn : w3.heap.size ≤ L := hNB.2.1 L ⟨_, rfl, rfl⟩
    have hsv := hNB.2.2
    have hOL := hNB.1
    rw [vals_len] at hOL
    have HOL := Lib.hid hOL
    clear hNB hOL
    replace HBXa := Lib.hid (HBXa.out.frm hsv id)
    replace cXa0 : w4.cell? ⟨w.heap.size, 0, none⟩ = some (.int .i64 n) := HBXa.out.cell 0
    replace cXa1 : w4.cell? ⟨w.heap.size, 1, none⟩ = some (.slice Aa wsa.length Ca) := HBXa.out.cell 1
    replace lXa := HBXa.out.lt
    replace fXa0 := HBXa.out.free 0
    replace fXa1 := HBXa.out.free 1
    replace HS1 := Lib.hid (HS1.out.trans hsv (fun _ _ h => h))
    clear hsv
    go_wp2
    go_loopw [5, 6] (fun s i wr => ∃ k : Nat, k ≤ n ∧ i = .int .i64 k ∧ s = .int .u64 (bsum (depB n wsa) k : Nat) ∧ Same w4 wr) (fun _ i _ => n - (intOf i).toNat)
    case atStart => exact ⟨0, by omega, rfl, rfl, Frm.refl _ _⟩
    case round =>
      obtain ⟨k, hk, rfl, rfl, hs⟩ := hrel
      have HS0 := Lib.hid hs
      have HBr := Lib.hid (HBXa.out.frm hs id)
      have dX0 : wr.cell? ⟨w.heap.size, 0, none⟩ = some (.int .i64 n) := HBr.out.cell 0
      have dXl := HBr.out.lt
      clear cXa0 cXa1 fXa0 fXa1 lXa hs
      by_cases hlt : k < n
      · have hk1 : (k : Int) < n := by omega
        have hbl := bsum_lt (depB n wsa) k
        have hpk : 2 ^ k ≤ 2 ^ 15 := Nat.pow_le_pow_right (by omega) (by omega)
        have hst := bsum_add (depB n wsa) k
        have HST := Lib.hid hst
        have hsw : IntKind.u64.wrap ((2 : Int) ^ k) = ((2 ^ k : Nat) : Int) := by
          rw [pow_int]
          generalize 2 ^ k = p at hpk
          exact IntWalk.u64_in _ (by omega)
        have hk0 : (0 : Int) ≤ k := by omega
        have hmk : min k 64 = k := by omega
        have hadd : IntKind.u64.wrap (((bsum (depB n wsa) k : Nat) : Int) + 2 ^ k) = ((bsum (depB n wsa) k + 2 ^ k : Nat) : Int) := by
          rw [pow_int]
          generalize 2 ^ k = p at hpk hbl
          rw [IntWalk.u64_in _ (by omega)]
          simp
        have hadd2 : IntKind.u64.wrap (((bsum (depB n wsa) k : Nat) : Int) + ((2 ^ k : Nat) : Int)) = ((bsum (depB n wsa) k + 2 ^ k : Nat) : Int) := by
          rw [← pow_int]
          exact hadd
        have HLK := Lib.hid hlt
        clear hst
        generalize bsum (depB n wsa) k = bs at *
        go_wp2
        refine wp_world fun wq hwq => ?_
        subst hwq
        go_loopw [5, 21] (fun sv i wr => ∃ m : Nat, m ≤ M ∧ i = .int .i64 m ∧ sv = .int .u64 (bs : Nat) ∧ (∀ j, j < m → hfF k false wsa j = hfF k true wsa j) ∧ Same w4 wr) (fun _ i _ => M - (intOf i).toNat)
        case atStart => exact ⟨0, by omega, rfl, rfl, fun j hj => by omega, HS0.out⟩
        case round =>
          obtain ⟨m, hm, rfl, rfl, hall, hs⟩ := hrel
          have HALL := Lib.hid hall
          have HS5 := Lib.hid hs
          have HB5 := Lib.hid (HBXa.out.frm hs id)
          have eX0 : wr.cell? ⟨w.heap.size, 0, none⟩ = some (.int .i64 n) := HB5.out.cell 0
          have eXl := HB5.out.lt
          have hOL := Own.frm HOL.out hs (fun _ _ => id)
          clear hall hs dX0 dXl
          by_cases hlm : m < M
          · have hm0 : (0 : Int) ≤ m := by omega
            have hm1 : (m : Int) < M := by omega
            have hw0 := HWL.out k m false hlm HLK.out
            have hw1 := HWL.out k m true hlm HLK.out
            have h0 : hfF k false wsa m = vb wsa (wth m k false) := rfl
            have h1 : hfF k true wsa m = vb wsa (wth m k true) := rfl
            have hwi : ∀ w', Calls Try.prog 55 #[.int .i64 m, .int .i64 k, .bool false] w' fun e w'' => e = .returned (.int .i64 (wth m k false : Nat)) ∧ w' = w'' := fun w' => with_any m k false w' (by omega) (by omega)
            have hwj : ∀ w', Calls Try.prog 55 #[.int .i64 m, .int .i64 k, .bool true] w' fun e w'' => e = .returned (.int .i64 (wth m k true : Nat)) ∧ w' = w'' := fun w' => with_any m k true w' (by omega) (by omega)
            have HWI := Lib.hid hwi
            have HWJ := Lib.hid hwj
            have H0 := Lib.hid h0
            have H1 := Lib.hid h1
            clear hwi hwj h0 h1
            generalize wth m k false = ix at *
            generalize wth m k true = iy at *
            obtain ⟨hLl2, hLc⟩ := OwnB.cell hOL hw0
            obtain ⟨_, hLd⟩ := OwnB.cell hOL hw1
            rw [← H0.out] at hLc
            rw [← H1.out] at hLd
            have hix0 : (0 : Int) ≤ ix := by omega
            have hix1 : (ix : Int) < M := by omega
            have hiy0 : (0 : Int) ≤ iy := by omega
            have hiy1 : (iy : Int) < M := by omega
            by_cases heq : hfF k false wsa m = hfF k true wsa m
            · have HEQ := Lib.hid heq
              rw [heq] at hLc
              clear heq H0 H1 hOL
              generalize hfF k true wsa m = g at hLc hLd
              cases g
              · go_upto_region 11 with fail
                refine wp_phS (fun _ => False) [([0, 1, 2, 6, 7, 8], 3), ([4, 5], 9), ([10, 11], 12)] (by kernel_rfl) (by kernel_rfl) ?_
                simp only [wpPh, pick, List.map_cons, List.map_nil, List.getD_cons_zero, List.getD_cons_succ]
                repeat (any_goals (first | go_big_quiet_step (fail) | quiet_step (fail)))
                refine wpQuiet_nil ?_
                refine effStep_plain rfl fun K hK => ?_
                go_simp
                refine (HWI.out _).mono ?_
                rintro e u ⟨rfl, rfl⟩
                refine hK _ _ (Lat.mk_ (Frm.drew (Frm.refl _ _))) ?_
                clear hK K
                repeat (any_goals (first | go_big_quiet_step (fail) | quiet_step (fail)))
                refine wpQuiet_nil ?_
                refine effStep_plain rfl fun K hK => ?_
                go_simp
                refine (HWJ.out _).mono ?_
                rintro e u ⟨rfl, rfl⟩
                refine hK _ _ (Lat.mk_ (Frm.drew (Frm.refl _ _))) ?_
                clear hK K
                repeat (any_goals (first | go_big_quiet_step (fail) | quiet_step (fail)))
                refine wpQuiet_nil ?_
                have hsz : Same wr wr.drew := (Frm.refl _ _).drew
                go_wp2
                go_roundw
                case rel => exact ⟨m + 1, by omega, by go_num, rfl, fun j hj => by
                  by_cases hjm : j < m
                  · exact HALL.out j hjm
                  · obtain rfl : j = m := by omega
                    exact HEQ.out, HS5.out.trans hsz (fun _ _ h => h)⟩
                case measure => simp [intOf]; omega
              · go_upto_region 11 with fail
                refine wp_phS (fun _ => False) [([0, 1, 2, 6, 7, 8], 3), ([4, 5], 9), ([10, 11], 12)] (by kernel_rfl) (by kernel_rfl) ?_
                simp only [wpPh, pick, List.map_cons, List.map_nil, List.getD_cons_zero, List.getD_cons_succ]
                repeat (any_goals (first | go_big_quiet_step (fail) | quiet_step (fail)))
                refine wpQuiet_nil ?_
                refine effStep_plain rfl fun K hK => ?_
                go_simp
                refine (HWI.out _).mono ?_
                rintro e u ⟨rfl, rfl⟩
                refine hK _ _ (Lat.mk_ (Frm.drew (Frm.refl _ _))) ?_
                clear hK K
                repeat (any_goals (first | go_big_quiet_step (fail) | quiet_step (fail)))
                refine wpQuiet_nil ?_
                refine effStep_plain rfl fun K hK => ?_
                go_simp
                refine (HWJ.out _).mono ?_
                rintro e u ⟨rfl, rfl⟩
                refine hK _ _ (Lat.mk_ (Frm.drew (Frm.refl _ _))) ?_
                clear hK K
                repeat (any_goals (first | go_big_quiet_step (fail) | quiet_step (fail)))
                refine wpQuiet_nil ?_
                have hsz : Same wr wr.drew := (Frm.refl _ _).drew
                go_wp2
                go_roundw
                case rel => exact ⟨m + 1, by omega, by go_num, rfl, fun j hj => by
                  by_cases hjm : j < m
                  · exact HALL.out j hjm
                  · obtain rfl : j = m := by omega
                    exact HEQ.out, HS5.out.trans hsz (fun _ _ h => h)⟩
                case measure => simp [intOf]; omega
            · have hd := HDT.out k m hlm heq
              rw [hd, if_pos rfl] at HST
              have hne3 : (hfF k false wsa m == hfF k true wsa m) = false := by simpa using heq
              clear heq H0 H1 hOL hd
              generalize hfF k false wsa m = g0 at *
              generalize hfF k true wsa m = g1 at *
              go_upto_region 11 with fail
              refine wp_phS (fun _ => False) [([0, 1, 2, 6, 7, 8], 3), ([4, 5], 9), ([10, 11], 12)] (by kernel_rfl) (by kernel_rfl) ?_
              simp only [wpPh, pick, List.map_cons, List.map_nil, List.getD_cons_zero, List.getD_cons_succ]
              repeat (any_goals (first | go_big_quiet_step (fail) | quiet_step (fail)))
              refine wpQuiet_nil ?_
              refine effStep_plain rfl fun K hK => ?_
              go_simp
              refine (HWI.out _).mono ?_
              rintro e u ⟨rfl, rfl⟩
              refine hK _ _ (Lat.mk_ (Frm.drew (Frm.refl _ _))) ?_
              clear hK K
              repeat (any_goals (first | go_big_quiet_step (fail) | quiet_step (fail)))
              refine wpQuiet_nil ?_
              refine effStep_plain rfl fun K hK => ?_
              go_simp
              refine (HWJ.out _).mono ?_
              rintro e u ⟨rfl, rfl⟩
              refine hK _ _ (Lat.mk_ (Frm.drew (Frm.refl _ _))) ?_
              clear hK K
              repeat (any_goals (first | go_big_quiet_step (fail) | quiet_step (fail)))
              refine wpQuiet_nil ?_
              have hsz : Same wr wr.drew := (Frm.refl _ _).drew
              go_wp2
              go_roundw
              case rel => exact ⟨k + 1, by omega, by go_num, by rw [← HST.out]; simp, HS5.out.trans hsz (fun _ _ h => h)⟩
              case measure => simp [intOf]; omega
          · obtain rfl : m = M := by omega
            have hd := HDF.out k HALL.out
            rw [hd, if_neg (by decide), Nat.add_zero] at HST
            clear hd hOL
            go_wp2
            go_roundw
            case rel => exact ⟨k + 1, by omega, by go_num, by rw [← HST.out], HS5.out⟩
            case measure => simp [intOf]; omega
      · obtain rfl : k = n := by omega
        rw [HPF.out]
        have HSf := Lib.hid (HS1.out.trans HS0.out (fun _ _ h => h))
        go_wp2
        go_ret2
        exact ⟨rfl, HSf.out⟩
end Go.Proofs.Ytlggmoghgoeiiaa


/- Truth tables: TruthTells: the walk. -/
namespace Go.Proofs.Ytlggmoghgoeiiaa
open Go.RowKit Go.Tk

set_option maxRecDepth 100000 in
set_option maxHeartbeats 8000000 in
theorem tells_walk (Na : Int) (Aa : Option Addr) (Ca : Nat) (wsa : List Nat) (x : Nat) (w : World) (hx : x < 18446744073709551616) (h : TbIn w ⟨Na, Aa, Ca, wsa⟩) : Calls Try.prog 9 #[.agg #[.int .i64 Na, .slice Aa wsa.length Ca], .int .u64 x] w fun e w' => e = .returned (.bool true) ∧ Below w.heap.size w w' := by
  have H := Lib.hid h
  have hroom := h.room
  simp only at hroom
  clear h
  have hP := fun A C w h => At_any Na A C wsa x w hx h
  have hD := fun w h => docAt_any Na Aa Ca wsa x w hx h
  generalize atB Na wsa x = p at hP hD
  generalize atE (frm Na wsa) Na x = q at hP hD
  have HP := Lib.hid hP
  have HD := Lib.hid hD
  clear hP hD
  go_enter Try.func9, Try.ntmps9
  go_upto_region 1 with fail
  refine wp_world fun w1 hw1 => ?_
  have hs1 : Same w w1 := by rw [hw1]; exact (Frm.refl _ _).alloc _
  have hBXa : Blk w1 (w.heap.size) 24 #[.int .i64 Na, .slice Aa wsa.length Ca] := by
    rw [hw1]
    have := (Blk.new w 24 #[.int .i64 Na, .slice Aa wsa.length Ca])
    simpa using this
  clear hw1
  have cXa0 : w1.cell? ⟨w.heap.size, 0, none⟩ = some (.int .i64 Na) := hBXa.cell 0
  have cXa1 : w1.cell? ⟨w.heap.size, 1, none⟩ = some (.slice Aa wsa.length Ca) := hBXa.cell 1
  have lXa := hBXa.lt
  have fXa0 := hBXa.free 0
  have fXa1 := hBXa.free 1
  have HBXa := Lib.hid hBXa
  have HS1 := Lib.hid hs1
  clear hs1 hBXa
  go_wp2_with (fail)
  refine (awake_any w1).mono ?_
  rintro e w2 ⟨rfl, hs⟩
  replace HBXa := Lib.hid (HBXa.out.frm hs id)
  replace HS1 := Lib.hid (HS1.out.trans hs (fun _ _ h => h))
  clear hs cXa0 cXa1 fXa0 fXa1 lXa hx
  have cX0 : w2.cell? ⟨w.heap.size, 0, none⟩ = some (.int .i64 Na) := HBXa.out.cell 0
  have cX1 : w2.cell? ⟨w.heap.size, 1, none⟩ = some (.slice Aa wsa.length Ca) := HBXa.out.cell 1
  have lX := HBXa.out.lt
  go_wp2_with (fail)
  refine (rtwin_any Na Aa Ca wsa w2 (Sl.same H.out.ok.wl HS1.out) hroom).mono ?_
  rintro e wb ⟨At, Ct, rfl, hNT⟩
  have hs := hNT.2.2
  have hot := hNT.1
  clear hNT cX0 cX1 lX
  go_wp2_with (fail)
  refine (HP.out At Ct wb ⟨hot.sl ucell_len, H.out.ok.small⟩).mono ?_
  rintro e wc ⟨rfl, hsv⟩
  have hs := hs.trans hsv (fun _ _ h => h)
  clear hot hsv
  replace HBXa := Lib.hid (HBXa.out.frm hs id)
  replace HS1 := Lib.hid (HS1.out.trans hs (fun _ _ h => h))
  clear hs
  have cX0 : wc.cell? ⟨w.heap.size, 0, none⟩ = some (.int .i64 Na) := HBXa.out.cell 0
  have cX1 : wc.cell? ⟨w.heap.size, 1, none⟩ = some (.slice Aa wsa.length Ca) := HBXa.out.cell 1
  have lX := HBXa.out.lt
  go_wp2_with (fail)
  refine (HD.out wc (H.out.ok.same HS1.out)).mono ?_
  rintro e w3 ⟨rfl, hs⟩
  replace HBXa := Lib.hid (HBXa.out.frm hs id)
  replace HS1 := Lib.hid (HS1.out.trans hs (fun _ _ h => h))
  clear hs cX0 cX1 lX
  clear HP HD
  have hP := fun A C w h => Support_any Na A C wsa w h
  have hD := fun w h => docSupport_any Na Aa Ca wsa w h
  generalize ((supN Na wsa : Nat) : Int) = p at hP hD
  generalize fmE (frm Na wsa) = q at hP hD
  have HP := Lib.hid hP
  have HD := Lib.hid hD
  clear hP hD
  have cX0 : w3.cell? ⟨w.heap.size, 0, none⟩ = some (.int .i64 Na) := HBXa.out.cell 0
  have cX1 : w3.cell? ⟨w.heap.size, 1, none⟩ = some (.slice Aa wsa.length Ca) := HBXa.out.cell 1
  have lX := HBXa.out.lt
  go_wp2_with (fail)
  refine (rtwin_any Na Aa Ca wsa w3 (Sl.same H.out.ok.wl HS1.out) hroom).mono ?_
  rintro e wb ⟨At, Ct, rfl, hNT⟩
  have hs := hNT.2.2
  have hot := hNT.1
  clear hNT cX0 cX1 lX
  go_wp2_with (fail)
  refine (HP.out At Ct wb ⟨hot.sl ucell_len, H.out.ok.small⟩).mono ?_
  rintro e wc ⟨rfl, hsv⟩
  have hs := hs.trans hsv (fun _ _ h => h)
  clear hot hsv
  replace HBXa := Lib.hid (HBXa.out.frm hs id)
  replace HS1 := Lib.hid (HS1.out.trans hs (fun _ _ h => h))
  clear hs
  have cX0 : wc.cell? ⟨w.heap.size, 0, none⟩ = some (.int .i64 Na) := HBXa.out.cell 0
  have cX1 : wc.cell? ⟨w.heap.size, 1, none⟩ = some (.slice Aa wsa.length Ca) := HBXa.out.cell 1
  have lX := HBXa.out.lt
  go_wp2_with (fail)
  refine (HD.out wc (H.out.ok.same HS1.out)).mono ?_
  rintro e w4 ⟨rfl, hs⟩
  replace HBXa := Lib.hid (HBXa.out.frm hs id)
  replace HS1 := Lib.hid (HS1.out.trans hs (fun _ _ h => h))
  clear hs cX0 cX1 lX
  clear HP HD
  have hP := fun A C w h => Count_any Na A C wsa w h
  have hD := fun w h => docCount_any Na Aa Ca wsa w h
  generalize ((if frm Na wsa = true then popS wsa wsa.length else 0 : Nat) : Int) = p at hP hD
  generalize fmE (frm Na wsa) = q at hP hD
  have HP := Lib.hid hP
  have HD := Lib.hid hD
  clear hP hD
  have cX0 : w4.cell? ⟨w.heap.size, 0, none⟩ = some (.int .i64 Na) := HBXa.out.cell 0
  have cX1 : w4.cell? ⟨w.heap.size, 1, none⟩ = some (.slice Aa wsa.length Ca) := HBXa.out.cell 1
  have lX := HBXa.out.lt
  go_wp2_with (fail)
  refine (rtwin_any Na Aa Ca wsa w4 (Sl.same H.out.ok.wl HS1.out) hroom).mono ?_
  rintro e wb ⟨At, Ct, rfl, hNT⟩
  have hs := hNT.2.2
  have hot := hNT.1
  clear hNT cX0 cX1 lX
  go_wp2_with (fail)
  refine (HP.out At Ct wb ⟨hot.sl ucell_len, H.out.ok.small⟩).mono ?_
  rintro e wc ⟨rfl, hsv⟩
  have hs := hs.trans hsv (fun _ _ h => h)
  clear hot hsv
  replace HBXa := Lib.hid (HBXa.out.frm hs id)
  replace HS1 := Lib.hid (HS1.out.trans hs (fun _ _ h => h))
  clear hs
  have cX0 : wc.cell? ⟨w.heap.size, 0, none⟩ = some (.int .i64 Na) := HBXa.out.cell 0
  have cX1 : wc.cell? ⟨w.heap.size, 1, none⟩ = some (.slice Aa wsa.length Ca) := HBXa.out.cell 1
  have lX := HBXa.out.lt
  go_wp2_with (fail)
  refine (HD.out wc (H.out.ok.same HS1.out)).mono ?_
  rintro e w5 ⟨rfl, hs⟩
  replace HBXa := Lib.hid (HBXa.out.frm hs id)
  replace HS1 := Lib.hid (HS1.out.trans hs (fun _ _ h => h))
  clear hs cX0 cX1 lX
  go_wp2
  go_ret
  exact ⟨rfl, HS1.out.to_below (Nat.le_refl _) (fun _ _ => id)⟩
end Go.Proofs.Ytlggmoghgoeiiaa


/- Truth tables: not and two of the law. -/
namespace Go.Proofs.Ytlggmoghgoeiiaa
open Go.RowKit Go.Tk

set_option maxRecDepth 100000 in
set_option maxHeartbeats 4000000 in
theorem notT_any (n : Nat) (Aa : Option Addr) (Ca : Nat) (wsa : List Nat) (w : World) (ha : TbOk w ⟨n, Aa, Ca, wsa⟩) (hfa : FormN n wsa) : Calls Try.prog 36 #[.agg #[.int .i64 n, .slice Aa wsa.length Ca]] w (RetT w n (tab n (notF wsa))) := by
  have Ha := Lib.hid ha
  have hn := hfa.n16
  have hP := fun w h => Not_any n Aa Ca wsa w h
  rw [frm_nat.2 hfa, show fmE true = 0 from rfl] at hP
  unfold RetA at hP
  rw [show ansN n 0 = n from rfl, show ansL (tab (n : Int).toNat (notF wsa)) 0 = tab n (notF wsa) from rfl] at hP
  have HP := Lib.hid hP
  clear hP
  clear ha hn hfa
  go_enter Try.func36, Try.ntmps36
  go_upto_region 1 with fail
  refine wp_world fun w1 hw1 => ?_
  have hs1 : Same w w1 := by rw [hw1]; exact ((Frm.refl _ _).alloc _).alloc _
  have hBXa : Blk w1 (w.heap.size) 24 #[.int .i64 n, .slice Aa wsa.length Ca] := by
    rw [hw1]
    have := ((Blk.new w 24 #[.int .i64 n, .slice Aa wsa.length Ca]).alloc (.cells #[.int .i64 0, .slice none 0 0] 24))
    simpa using this
  have hBR : Blk w1 (w.heap.size + 1) 24 #[.int .i64 0, .slice none 0 0] := by
    rw [hw1]
    have := (Blk.new (w.alloc (.cells #[.int .i64 n, .slice Aa wsa.length Ca] 24)) 24 #[.int .i64 0, .slice none 0 0])
    simpa using this
  clear hw1
  obtain ⟨R, hR⟩ : ∃ b, w.heap.size + 1 = b := ⟨_, rfl⟩
  rw [hR] at hBR ⊢
  have leR : w.heap.size ≤ R := by omega
  have neXaR : w.heap.size ≠ R := by omega
  clear hR
  have cXa0 : w1.cell? ⟨w.heap.size, 0, none⟩ = some (.int .i64 n) := hBXa.cell 0
  have cXa1 : w1.cell? ⟨w.heap.size, 1, none⟩ = some (.slice Aa wsa.length Ca) := hBXa.cell 1
  have lXa := hBXa.lt
  have fXa0 := hBXa.free 0
  have fXa1 := hBXa.free 1
  have HBXa := Lib.hid hBXa
  have cR0 : w1.cell? ⟨R, 0, none⟩ = some (.int .i64 0) := hBR.cell 0
  have cR1 : w1.cell? ⟨R, 1, none⟩ = some (.slice none 0 0) := hBR.cell 1
  have lR := hBR.lt
  have fR0 := hBR.free 0
  have fR1 := hBR.free 1
  have HBR := Lib.hid hBR
  have HS1 := Lib.hid hs1
  clear hs1 hBXa hBR
  go_wp2_with (fail)
  refine (HP.out w1 (Ha.out.same HS1.out)).mono ?_
  rintro e w4 ⟨Aq, Cq, rfl, hNT⟩
  have hoq := hNT.1
  have hfq := hNT.2.1
  have hsq := hNT.2.2
  have hRq : ∀ a, Aq = some a → a.block ≠ R := fun a ha h => by
    have := hfq a.block ⟨a, ha, rfl⟩
    omega
  have HBRq := Lib.hid (HBR.out.frm hsq id)
  have HSq := Lib.hid (HS1.out.trans hsq (fun _ _ h => h))
  have hfq' : Fresh w.heap.size Aq := fun b hb => by have := hfq b hb; have := HS1.out.size; omega
  have HOQ := Lib.hid hoq
  have HFQ := Lib.hid hfq'
  have hcR0 : w4.cell? ⟨R, 0, none⟩ = some (.int .i64 0) := HBRq.out.cell 0
  have hcR1 : w4.cell? ⟨R, 1, none⟩ = some (.slice none 0 0) := HBRq.out.cell 1
  have hfR0 := HBRq.out.free 0
  have hfR1 := HBRq.out.free 1
  have hlR := HBRq.out.lt
  clear hNT hoq hfq hsq hfq'
  go_wp2
  refine wp_post fun we hwe => ?_
  have hBE : Blk we R 24 #[.int .i64 n, .slice Aq (tab n (notF wsa)).length Cq] := by
    rw [hwe]
    have := ((HBRq.out.set 0 (.int .i64 n)).set 1 (.slice Aq (tab n (notF wsa)).length Cq)).alloc (.cells #[.int .i64 n, .slice Aq (tab n (notF wsa)).length Cq] 24)
    simpa using this
  have hSE : Same w we := by rw [hwe]; exact ((HSq.out.setNew 0 _ leR).setNew 1 _ leR).alloc _
  have hOE : OwnW we Aq (tab n (notF wsa)).length Cq (tab n (notF wsa)) := by
    rw [hwe]
    exact Own.frm ((Own.far (p := ⟨R, 0, none⟩) HOQ.out hRq _).far (p := ⟨R, 1, none⟩) hRq _) ((Frm.refl (fun _ => False) _).alloc _) (fun _ _ => id)
  have hr0 : we.cell? ⟨R, 0, none⟩ = some (.int .i64 n) := hBE.cell 0
  have hr1 : we.cell? ⟨R, 1, none⟩ = some (.slice Aq (tab n (notF wsa)).length Cq) := hBE.cell 1
  clear hwe hBE
  refine bodyPost_ret (v := .agg #[.int .i64 n, .slice Aq (tab n (notF wsa)).length Cq]) (by simp [results, Try.results36, go_sem, hr0, hr1]) rfl ?_
  exact ⟨Aq, Cq, rfl, hOE, HFQ.out, hSE⟩
set_option maxRecDepth 100000 in
set_option maxHeartbeats 4000000 in
theorem twoT_any (n : Nat) (op : Nat) (Aa : Option Addr) (Ca : Nat) (wsa : List Nat) (Ab : Option Addr) (Cb : Nat) (wsb : List Nat) (w : World) (hop : op ≤ 15) (ha : TbOk w ⟨n, Aa, Ca, wsa⟩) (hfa : FormN n wsa) (hb : TbOk w ⟨n, Ab, Cb, wsb⟩) (hfb : FormN n wsb) : Calls Try.prog 37 #[.int .u8 op, .agg #[.int .i64 n, .slice Aa wsa.length Ca], .agg #[.int .i64 n, .slice Ab wsb.length Cb]] w (RetT w n (tab n (binF op wsa wsb))) := by
  have Ha := Lib.hid ha
  have Hb := Lib.hid hb
  have hn := hfa.n16
  have hP := fun w ha hb => Binary_any op n Aa Ca wsa n Ab Cb wsb w (by omega) ha hb
  rw [show fm [⟨n, Aa, Ca, wsa⟩, ⟨n, Ab, Cb, wsb⟩] = true by simp [fm, Tb.frm, frm_nat.2 hfa, frm_nat.2 hfb], show binE op true = 0 by unfold binE; rw [if_neg (by omega)]; rfl] at hP
  unfold RetA at hP
  rw [show ansN n 0 = n from rfl, show ansL (tab (n : Int).toNat (binF op wsa wsb)) 0 = tab n (binF op wsa wsb) from rfl] at hP
  have HP := Lib.hid hP
  clear hP hop
  clear ha hb hn hfa hfb
  go_enter Try.func37, Try.ntmps37
  go_upto_region 1 with fail
  refine wp_world fun w1 hw1 => ?_
  have hs1 : Same w w1 := by rw [hw1]; exact (((Frm.refl _ _).alloc _).alloc _).alloc _
  have hBXa : Blk w1 (w.heap.size) 24 #[.int .i64 n, .slice Aa wsa.length Ca] := by
    rw [hw1]
    have := (((Blk.new w 24 #[.int .i64 n, .slice Aa wsa.length Ca]).alloc (.cells #[.int .i64 n, .slice Ab wsb.length Cb] 24)).alloc (.cells #[.int .i64 0, .slice none 0 0] 24))
    simpa using this
  have hBXb : Blk w1 (w.heap.size + 1) 24 #[.int .i64 n, .slice Ab wsb.length Cb] := by
    rw [hw1]
    have := ((Blk.new (w.alloc (.cells #[.int .i64 n, .slice Aa wsa.length Ca] 24)) 24 #[.int .i64 n, .slice Ab wsb.length Cb]).alloc (.cells #[.int .i64 0, .slice none 0 0] 24))
    simpa using this
  have hBR : Blk w1 (w.heap.size + 1 + 1) 24 #[.int .i64 0, .slice none 0 0] := by
    rw [hw1]
    have := (Blk.new ((w.alloc (.cells #[.int .i64 n, .slice Aa wsa.length Ca] 24)).alloc (.cells #[.int .i64 n, .slice Ab wsb.length Cb] 24)) 24 #[.int .i64 0, .slice none 0 0])
    simpa using this
  clear hw1
  obtain ⟨R, hR⟩ : ∃ b, w.heap.size + 1 + 1 = b := ⟨_, rfl⟩
  rw [hR] at hBR ⊢
  obtain ⟨Xb, hXb⟩ : ∃ b, w.heap.size + 1 = b := ⟨_, rfl⟩
  rw [hXb] at hBXb ⊢
  have leXb : w.heap.size ≤ Xb := by omega
  have leR : w.heap.size ≤ R := by omega
  have neXaXb : w.heap.size ≠ Xb := by omega
  have neXaR : w.heap.size ≠ R := by omega
  have neXbR : Xb ≠ R := by omega
  clear hXb hR
  have cXa0 : w1.cell? ⟨w.heap.size, 0, none⟩ = some (.int .i64 n) := hBXa.cell 0
  have cXa1 : w1.cell? ⟨w.heap.size, 1, none⟩ = some (.slice Aa wsa.length Ca) := hBXa.cell 1
  have lXa := hBXa.lt
  have fXa0 := hBXa.free 0
  have fXa1 := hBXa.free 1
  have HBXa := Lib.hid hBXa
  have cXb0 : w1.cell? ⟨Xb, 0, none⟩ = some (.int .i64 n) := hBXb.cell 0
  have cXb1 : w1.cell? ⟨Xb, 1, none⟩ = some (.slice Ab wsb.length Cb) := hBXb.cell 1
  have lXb := hBXb.lt
  have fXb0 := hBXb.free 0
  have fXb1 := hBXb.free 1
  have HBXb := Lib.hid hBXb
  have cR0 : w1.cell? ⟨R, 0, none⟩ = some (.int .i64 0) := hBR.cell 0
  have cR1 : w1.cell? ⟨R, 1, none⟩ = some (.slice none 0 0) := hBR.cell 1
  have lR := hBR.lt
  have fR0 := hBR.free 0
  have fR1 := hBR.free 1
  have HBR := Lib.hid hBR
  have HS1 := Lib.hid hs1
  clear hs1 hBXa hBXb hBR
  go_wp2_with (fail)
  refine (HP.out w1 (Ha.out.same HS1.out) (Hb.out.same HS1.out)).mono ?_
  rintro e w4 ⟨Aq, Cq, rfl, hNT⟩
  have hoq := hNT.1
  have hfq := hNT.2.1
  have hsq := hNT.2.2
  have hRq : ∀ a, Aq = some a → a.block ≠ R := fun a ha h => by
    have := hfq a.block ⟨a, ha, rfl⟩
    omega
  have HBRq := Lib.hid (HBR.out.frm hsq id)
  have HSq := Lib.hid (HS1.out.trans hsq (fun _ _ h => h))
  have hfq' : Fresh w.heap.size Aq := fun b hb => by have := hfq b hb; have := HS1.out.size; omega
  have HOQ := Lib.hid hoq
  have HFQ := Lib.hid hfq'
  have hcR0 : w4.cell? ⟨R, 0, none⟩ = some (.int .i64 0) := HBRq.out.cell 0
  have hcR1 : w4.cell? ⟨R, 1, none⟩ = some (.slice none 0 0) := HBRq.out.cell 1
  have hfR0 := HBRq.out.free 0
  have hfR1 := HBRq.out.free 1
  have hlR := HBRq.out.lt
  clear hNT hoq hfq hsq hfq'
  go_wp2
  refine wp_post fun we hwe => ?_
  have hBE : Blk we R 24 #[.int .i64 n, .slice Aq (tab n (binF op wsa wsb)).length Cq] := by
    rw [hwe]
    have := ((HBRq.out.set 0 (.int .i64 n)).set 1 (.slice Aq (tab n (binF op wsa wsb)).length Cq)).alloc (.cells #[.int .i64 n, .slice Aq (tab n (binF op wsa wsb)).length Cq] 24)
    simpa using this
  have hSE : Same w we := by rw [hwe]; exact ((HSq.out.setNew 0 _ leR).setNew 1 _ leR).alloc _
  have hOE : OwnW we Aq (tab n (binF op wsa wsb)).length Cq (tab n (binF op wsa wsb)) := by
    rw [hwe]
    exact Own.frm ((Own.far (p := ⟨R, 0, none⟩) HOQ.out hRq _).far (p := ⟨R, 1, none⟩) hRq _) ((Frm.refl (fun _ => False) _).alloc _) (fun _ _ => id)
  have hr0 : we.cell? ⟨R, 0, none⟩ = some (.int .i64 n) := hBE.cell 0
  have hr1 : we.cell? ⟨R, 1, none⟩ = some (.slice Aq (tab n (binF op wsa wsb)).length Cq) := hBE.cell 1
  clear hwe hBE
  refine bodyPost_ret (v := .agg #[.int .i64 n, .slice Aq (tab n (binF op wsa wsb)).length Cq]) (by simp [results, Try.results37, go_sem, hr0, hr1]) rfl ?_
  exact ⟨Aq, Cq, rfl, hOE, HFQ.out, hSE⟩
end Go.Proofs.Ytlggmoghgoeiiaa


/- Truth tables: what TruthShannon asks, plain. -/
namespace Go.Tk

theorem cntB_countP (F : Nat → Bool) : ∀ m, cntB F m = (List.range m).countP F
  | 0 => rfl
  | m + 1 => by
    rw [cntB, cntB_countP F m, List.range_succ, List.countP_append, List.countP_singleton]
theorem cntB_perm {F : Nat → Bool} {M : Nat} {σ : Nat → Nat} (h : ∀ i, i < M → σ i < M) (inj : ∀ i j, i < M → j < M → σ i = σ j → i = j) : cntB (fun i => F (σ i)) M = cntB F M := by
  have hnd : ((List.range M).map σ).Nodup := by
    rw [List.nodup_iff_pairwise_ne, List.pairwise_map]
    refine (List.nodup_iff_pairwise_ne.1 (List.nodup_range (n := M))).imp_of_mem fun ha hb hne he => ?_
    exact hne (inj _ _ (List.mem_range.1 ha) (List.mem_range.1 hb) he)
  have hp := sub_perm ((List.range M).map σ) (List.range M) hnd (fun x hx => by
    obtain ⟨i, hi, rfl⟩ := List.mem_map.1 hx
    exact List.mem_range.2 (h i (List.mem_range.1 hi))) (by simp)
  rw [cntB_countP, cntB_countP, hp.countP_eq F, List.countP_map]
  rfl
theorem cntB_sum {a b c d : Nat → Bool} : ∀ {m}, (∀ i, i < m → (a i).toNat + (b i).toNat = (c i).toNat + (d i).toNat) → cntB a m + cntB b m = cntB c m + cntB d m
  | 0, _ => rfl
  | m + 1, h => by
    have ih := cntB_sum (m := m) fun i hi => h i (by omega)
    have h1 := h m (by omega)
    have e : ∀ F : Nat → Bool, cntB F (m + 1) = cntB F m + (F m).toNat := fun F => by rw [cntB]; cases F m <;> rfl
    rw [e, e, e, e]
    omega
theorem wth_self (i v : Nat) : wth i v (i.testBit v) = i := (wth_of fun j => by
  by_cases h : j = v
  · subst h; simp
  · simp [h]).symm
theorem wth_twice (i v : Nat) (b c : Bool) : wth (wth i v b) v c = wth i v c := wth_of fun j => by
  rw [wth_bit, wth_bit]
  by_cases h : j = v <;> simp [h]
theorem wth_comm {i u v : Nat} {b c : Bool} (h : u ≠ v) : wth (wth i u b) v c = wth (wth i v c) u b := wth_of fun j => by
  rw [wth_bit, wth_bit, wth_bit]
  by_cases h1 : j = v
  · subst h1
    simp [Ne.symm h]
  · simp [h1]
theorem mask_sub {F G : Nat → Bool} {n V : Nat} (hn : n ≤ 64) (h : ∀ u, u < n → F u = true → G u = true ∧ u ≠ V) :
    bsum F n &&& (18446744073709551615 - (bsum G n &&& (18446744073709551615 - 2 ^ V % 18446744073709551616))) = 0 := by
  have hG : bsum G n < 18446744073709551616 := Nat.lt_of_lt_of_le (bsum_lt G n) (show 2 ^ n ≤ 2 ^ 64 from Nat.pow_le_pow_right (by omega) hn)
  have hp : 2 ^ V % 18446744073709551616 < 18446744073709551616 := Nat.mod_lt _ (by omega)
  have hx : bsum G n &&& (18446744073709551615 - 2 ^ V % 18446744073709551616) < 18446744073709551616 := Nat.lt_of_le_of_lt Nat.and_le_left hG
  apply Nat.eq_of_testBit_eq
  intro j
  rw [Nat.testBit_and, bsum_bit, Nat.zero_testBit]
  by_cases hj : j < n
  · cases hF : F j with
    | false => simp
    | true =>
      obtain ⟨h1, h2⟩ := h j hj hF
      have hj64 : j < 64 := by omega
      rw [not64_bit hx hj64, Nat.testBit_and, bsum_bit, not64_bit hp hj64, show (18446744073709551616 : Nat) = 2 ^ 64 by decide, Nat.testBit_mod_two_pow, Nat.testBit_two_pow]
      simp [hj, h1, Ne.symm h2]
  · simp [hj]
end Go.Tk
namespace Go.Proofs.Ytlggmoghgoeiiaa
open Go.RowKit Go.Tk

theorem depB_eq {n : Nat} {ws : List Nat} {u : Nat} (h : depB n ws u = false) {i : Nat} (hi : i < 2 ^ n) : vb ws (wth i u false) = vb ws (wth i u true) := by
  by_cases hne : vb ws (wth i u false) = vb ws (wth i u true)
  · exact hne
  · have := depB_true (n := n) (ws := ws) (v := u) hi hne
    rw [h] at this
    cases this
theorem dep_cof {n V u : Nat} {b : Bool} {ws : List Nat} (hV : V < n) (hu : u < n) (h : depB n (tab n (hfF V b ws)) u = true) : depB n ws u = true ∧ u ≠ V := by
  by_cases huV : u = V
  · subst huV
    rw [depB_false] at h
    · cases h
    · intro i hi
      unfold hfF
      rw [vb_tab (wth_lt hi hu), vb_tab (wth_lt hi hu), wth_twice, wth_twice]
  · refine ⟨?_, huV⟩
    cases hd : depB n ws u with
    | true => rfl
    | false =>
      rw [depB_false] at h
      · cases h
      · intro i hi
        show vb (tab n (hfF V b ws)) (wth i u false) = vb (tab n (hfF V b ws)) (wth i u true)
        rw [vb_tab (wth_lt hi hu), vb_tab (wth_lt hi hu)]
        unfold hfF
        rw [wth_comm huV, wth_comm huV]
        exact depB_eq hd (wth_lt hi hV)
theorem dep_ex {n V u : Nat} {ws : List Nat} (hV : V < n) (hu : u < n) (h : depB n (tab n (exF V ws)) u = true) : depB n ws u = true ∧ u ≠ V := by
  by_cases huV : u = V
  · subst huV
    rw [depB_false] at h
    · cases h
    · intro i hi
      show vb (tab n (exF u ws)) (wth i u false) = vb (tab n (exF u ws)) (wth i u true)
      rw [vb_tab (wth_lt hi hu), vb_tab (wth_lt hi hu)]
      unfold exF hfF
      rw [wth_twice, wth_twice, wth_twice, wth_twice]
  · refine ⟨?_, huV⟩
    cases hd : depB n ws u with
    | true => rfl
    | false =>
      rw [depB_false] at h
      · cases h
      · intro i hi
        show vb (tab n (exF V ws)) (wth i u false) = vb (tab n (exF V ws)) (wth i u true)
        rw [vb_tab (wth_lt hi hu), vb_tab (wth_lt hi hu)]
        unfold exF hfF
        rw [wth_comm (b := false) (c := false) huV, wth_comm (b := false) (c := true) huV, wth_comm (b := true) (c := false) huV, wth_comm (b := true) (c := true) huV, depB_eq hd (wth_lt (b := false) hi hV), depB_eq hd (wth_lt (b := true) hi hV)]
theorem shan_ite {n V : Nat} {ws : List Nat} (hf : FormN n ws) (hb : Small ws) : tab n (iteF (tab n (varF V)) (tab n (hfF V true ws)) (tab n (hfF V false ws))) = ws := by
  refine Eq.trans (tab_congr fun i hi => ?_) (tab_vb hf hb)
  unfold iteF
  rw [vb_tab hi, vb_tab hi, vb_tab hi]
  unfold varF hfF
  conv => rhs; rw [← wth_self i V]
  cases i.testBit V <;> rfl
theorem shan_or {n V : Nat} {ws : List Nat} : tab n (binF 14 (tab n (hfF V true ws)) (tab n (hfF V false ws))) = tab n (exF V ws) := tab_congr fun i hi => by
  unfold binF exF
  rw [vb_tab hi, vb_tab hi]
  cases hfF V true ws i <;> cases hfF V false ws i <;> decide
theorem shan_cnt {n V : Nat} {ws : List Nat} (hV : V < n) : cntB (vb (tab n (hfF V true ws))) (2 ^ n) + cntB (vb (tab n (hfF V false ws))) (2 ^ n) = 2 * cntB (vb ws) (2 ^ n) := by
  have hσ : cntB (fun i => vb ws (wth i V (!i.testBit V))) (2 ^ n) = cntB (vb ws) (2 ^ n) := cntB_perm (σ := fun i => wth i V (!i.testBit V)) (fun i hi => wth_lt hi hV) (fun i j _ _ h => by
    have h' : wth i V (!i.testBit V) = wth j V (!j.testBit V) := h
    apply Nat.eq_of_testBit_eq
    intro t
    have ht := congrArg (fun x => x.testBit t) h'
    have hv := congrArg (fun x => x.testBit V) h'
    simp only [wth_bit, if_true] at ht hv
    by_cases htV : t = V
    · subst htV
      simpa using hv
    · simpa [htV] using ht)
  rw [cntB_congr (F := vb (tab n (hfF V true ws))) (fun j hj => vb_tab hj), cntB_congr (F := vb (tab n (hfF V false ws))) (fun j hj => vb_tab hj)]
  have := cntB_sum (a := hfF V true ws) (b := hfF V false ws) (c := vb ws) (d := fun i => vb ws (wth i V (!i.testBit V))) (m := 2 ^ n) fun i _ => by
    unfold hfF
    conv => rhs; rw [← wth_self i V]
    rw [wth_bit, if_pos rfl, wth_twice]
    cases i.testBit V
    · simp only [Bool.not_false]; omega
    · simp only [Bool.not_true]
  omega
end Go.Proofs.Ytlggmoghgoeiiaa


/- Truth tables: renaming, plain. -/
namespace Go.Tk

def pv (p : List Int) (v : Nat) : Nat := (p.getD v 0).toNat
theorem pv_get {p : List Int} {v : Nat} {x : Int} (h : p[v]? = some x) : pv p v = x.toNat := by unfold pv; rw [List.getD_eq_getElem?_getD, h]; rfl
/-- a permutation of n things -/
structure PermN (n : Nat) (p : List Int) : Prop where
  len : p.length = n
  perm : IsPerm p
theorem PermN.lt {n : Nat} {p : List Int} (h : PermN n p) {v : Nat} (hv : v < n) : pv p v < n := by
  have hg : p[v]? = some p[v]! := by
    rw [List.getElem?_eq_getElem (by rw [h.len]; exact hv)]
    simp [List.getElem!_eq_getElem?_getD, List.getElem?_eq_getElem (show v < p.length by rw [h.len]; exact hv)]
  rw [pv_get hg]
  have := h.perm.1 _ (List.mem_of_getElem? hg)
  have := h.len
  omega
theorem PermN.inj {n : Nat} {p : List Int} (h : PermN n p) {u v : Nat} (hu : u < n) (hv : v < n) (he : pv p u = pv p v) : u = v := by
  have hul : u < p.length := by rw [h.len]; exact hu
  have hvl : v < p.length := by rw [h.len]; exact hv
  rw [pv_get (List.getElem?_eq_getElem hul), pv_get (List.getElem?_eq_getElem hvl)] at he
  have h1 := h.perm.1 _ (List.getElem_mem hul)
  have h2 := h.perm.1 _ (List.getElem_mem hvl)
  have hpw := List.pairwise_iff_getElem.1 (List.nodup_iff_pairwise_ne.1 h.perm.2)
  rcases Nat.lt_trichotomy u v with h3 | h3 | h3
  · exact absurd (show p[u] = p[v] by omega) (hpw u v hul hvl h3)
  · exact h3
  · exact absurd (show p[v] = p[u] by omega) (hpw v u hvl hul h3)
theorem PermN.onto {n : Nat} {p : List Int} (h : PermN n p) {t : Nat} (ht : t < n) : ∃ v, v < n ∧ pv p v = t := by
  obtain ⟨v, hv⟩ := List.getElem?_of_mem (h.perm.mem (show t < p.length by rw [h.len]; exact ht))
  exact ⟨v, by have := lt_get hv; rw [h.len] at this; exact this, by rw [pv_get hv]; omega⟩
/-- the place of the value j, after k variables -/
def sg (p : List Int) (j : Nat) : Nat → Nat
  | 0 => 0
  | k + 1 => wth (sg p j k) (pv p k) (j.testBit k)
theorem sg_bits {n : Nat} {p : List Int} (h : PermN n p) (j : Nat) : ∀ k, k ≤ n → (∀ v, v < k → (sg p j k).testBit (pv p v) = j.testBit v) ∧ (∀ t, (∀ v, v < k → pv p v ≠ t) → (sg p j k).testBit t = false)
  | 0, _ => ⟨fun v hv => by omega, fun t _ => by simp [sg]⟩
  | k + 1, hk => by
    obtain ⟨h1, h2⟩ := sg_bits h j k (by omega)
    refine ⟨fun v hv => ?_, fun t ht => ?_⟩
    · rw [sg, wth_bit]
      by_cases hvk : v = k
      · subst hvk; rw [if_pos rfl]
      · rw [if_neg (fun he => hvk (h.inj (by omega) (by omega) he)), h1 v (by omega)]
    · rw [sg, wth_bit, if_neg (fun he => ht k (by omega) he.symm)]
      exact h2 t fun v hv => ht v (by omega)
theorem sg_or {n : Nat} {p : List Int} (h : PermN n p) (j : Nat) {k : Nat} (hk : k < n) : sg p j k ||| (j / 2 ^ k % 2) * 2 ^ pv p k = sg p j (k + 1) := by
  have h0 : (sg p j k).testBit (pv p k) = false := (sg_bits h j k (by omega)).2 _ fun v hv he => by have := h.inj (by omega) hk he; omega
  have hb : j.testBit k = decide (j / 2 ^ k % 2 = 1) := by rw [Nat.testBit_eq_decide_div_mod_eq]
  rw [sg]
  refine wth_of fun t => ?_
  rw [Nat.testBit_or, hb]
  rcases Nat.mod_two_eq_zero_or_one (j / 2 ^ k) with hz | hz
  · rw [hz]
    by_cases ht : t = pv p k
    · subst ht; simp [h0]
    · simp [ht]
  · rw [hz, Nat.one_mul, Nat.testBit_two_pow]
    by_cases ht : t = pv p k
    · subst ht; simp [h0]
    · simp [ht, Ne.symm ht]
theorem sg_lt {n : Nat} {p : List Int} (h : PermN n p) (j : Nat) : ∀ k, k ≤ n → sg p j k < 2 ^ n := fun k hk => Nat.lt_pow_two_of_testBit _ fun t ht => (sg_bits h j k hk).2 t fun v hv he => by have := h.lt (v := v) (by omega); omega
/-- the value at the place i -/
def tau (n : Nat) (p : List Int) (i : Nat) : Nat := bsum (fun v => i.testBit (pv p v)) n
theorem tau_sg {n : Nat} {p : List Int} (h : PermN n p) {j : Nat} (hj : j < 2 ^ n) : tau n p (sg p j n) = j := by
  unfold tau
  rw [bsum_congr (G := fun v => j.testBit v) fun v hv => (sg_bits h j n (Nat.le_refl _)).1 v hv]
  exact bsum_of hj
theorem sg_tau {n : Nat} {p : List Int} (h : PermN n p) {i : Nat} (hi : i < 2 ^ n) : sg p (tau n p i) n = i := by
  apply Nat.eq_of_testBit_eq
  intro t
  by_cases ht : t < n
  · obtain ⟨v, hv, rfl⟩ := h.onto ht
    rw [(sg_bits h (tau n p i) n (Nat.le_refl _)).1 v hv]
    unfold tau
    rw [bsum_bit]
    simp [hv]
  · have h1 : i.testBit t = false := Nat.testBit_lt_two_pow (Nat.lt_of_lt_of_le hi (Nat.pow_le_pow_right (by omega) (by omega)))
    have h2 : (sg p (tau n p i) n).testBit t = false := Nat.testBit_lt_two_pow (Nat.lt_of_lt_of_le (sg_lt h _ n (Nat.le_refl _)) (Nat.pow_le_pow_right (by omega) (by omega)))
    rw [h1, h2]
/-- what is renamed of the values below k -/
def renP (n : Nat) (p : List Int) (ws : List Nat) (k : Nat) : Nat → Bool := fun i => decide (tau n p i < k) && vb ws (tau n p i)
def renF (n : Nat) (p : List Int) (ws : List Nat) : Nat → Bool := fun i => vb ws (tau n p i)
theorem renP_full {n : Nat} {p : List Int} {ws : List Nat} (i : Nat) : renP n p ws (2 ^ n) i = renF n p ws i := by
  unfold renP renF
  have : tau n p i < 2 ^ n := bsum_lt _ n
  simp [this]
theorem renP_zero {n : Nat} {p : List Int} {ws : List Nat} (i : Nat) : renP n p ws 0 i = false := by
  unfold renP
  simp
theorem renP_at {n : Nat} {p : List Int} {ws : List Nat} (h : PermN n p) {k : Nat} (hk : k < 2 ^ n) : renP n p ws (k + 1) (sg p k n) = vb ws k ∧ renP n p ws k (sg p k n) = false := by
  unfold renP
  rw [tau_sg h hk]
  simp
theorem renP_other {n : Nat} {p : List Int} {ws : List Nat} (h : PermN n p) {k i : Nat} (hi : i < 2 ^ n) (hne : i ≠ sg p k n) : renP n p ws (k + 1) i = renP n p ws k i := by
  unfold renP
  have : tau n p i ≠ k := fun he => hne (by rw [← he, sg_tau h hi])
  congr 1
  rw [decide_eq_decide]
  omega
theorem ren_set {n : Nat} {p : List Int} {ws : List Nat} (h : PermN n p) {k : Nat} (hk : k < 2 ^ n) : (vals (2 ^ n) (renP n p ws k)).set (sg p k n) (vb ws k) = vals (2 ^ n) (renP n p ws (k + 1)) := by
  have hs := sg_lt h k n (Nat.le_refl _)
  apply List.ext_getElem?
  intro i
  rcases Nat.lt_or_ge i (2 ^ n) with hi | hi
  · rw [List.getElem?_set, vals_len, vals_get hi, vals_get hi]
    split
    · rename_i he; subst he; simp [(renP_at h hk).1]
    · rename_i he
      rw [renP_other h hi (Ne.symm he)]
  · rw [List.getElem?_eq_none (by simp [vals_len, hi]), List.getElem?_eq_none (by rw [vals_len]; exact hi)]
theorem ren_word {n : Nat} {p : List Int} {ws : List Nat} (h : PermN n p) {k : Nat} (hk : k < 2 ^ n) : (tab n (renP n p ws k)).set (sg p k n / 64) (word n (renP n p ws k) (sg p k n / 64) ||| (if vb ws k then 1 else 0) * 2 ^ (sg p k n % 64)) = tab n (renP n p ws (k + 1)) := by
  have hs := sg_lt h k n (Nat.le_refl _)
  have hd := div_lt_nw hs
  have hm := Nat.mod_lt (sg p k n) (show 0 < 64 by omega)
  have hdm := Nat.div_add_mod (sg p k n) 64
  obtain ⟨ha1, ha0⟩ := renP_at (ws := ws) h hk
  have hoth := fun i (hi : i < 2 ^ n) (hne : i ≠ sg p k n) => renP_other (ws := ws) h hi hne
  generalize sg p k n = s at *
  generalize renP n p ws (k + 1) = G at *
  generalize renP n p ws k = F at *
  apply List.ext_getElem?
  intro q
  rcases Nat.lt_or_ge q (nw n) with hq | hq
  · rw [List.getElem?_set, tab_len, tab_get hq, tab_get hq]
    split
    · rename_i he
      subst he
      congr 1
      apply Nat.eq_of_testBit_eq
      intro j
      by_cases hj : j < 64
      · rw [Nat.testBit_or, word_bit _ _ _ hj, word_bit _ _ _ hj]
        by_cases hjs : j = s % 64
        · subst hjs
          rw [hdm, ha1, ha0]
          cases vb ws k <;> simp [hs]
        · have hb : ((if vb ws k then 1 else 0) * 2 ^ (s % 64)).testBit j = false := by
            cases vb ws k
            · simp
            · simp only [if_true, Nat.one_mul, Nat.testBit_two_pow]
              simp [Ne.symm hjs]
          rw [hb, Bool.or_false]
          by_cases hlt : 64 * (s / 64) + j < 2 ^ n
          · rw [hoth _ hlt (by omega)]
          · simp [hlt]
      · have h1 : (word n G (s / 64)).testBit j = false := Nat.testBit_lt_two_pow (Nat.lt_of_lt_of_le (word_lt _ _ _) (Nat.pow_le_pow_right (show 0 < 2 by omega) (show 64 ≤ j by omega)))
        have h2 : (word n F (s / 64)).testBit j = false := Nat.testBit_lt_two_pow (Nat.lt_of_lt_of_le (word_lt _ _ _) (Nat.pow_le_pow_right (show 0 < 2 by omega) (show 64 ≤ j by omega)))
        have h3 : ((if vb ws k then 1 else 0) * 2 ^ (s % 64)).testBit j = false := by
          cases vb ws k
          · simp
          · simp only [if_true, Nat.one_mul, Nat.testBit_two_pow]
            simp
            omega
        rw [Nat.testBit_or, h1, h2, h3]
        rfl
    · rename_i he
      refine congrArg some (word_congr' fun j hj hlt => ?_)
      exact (hoth _ hlt (by omega)).symm
  · rw [List.getElem?_eq_none (by simp [tab_len, hq]), List.getElem?_eq_none (by rw [tab_len]; exact hq)]
end Go.Tk


/- Truth tables: the reference's permutation. -/
namespace Go.Tk
theorem take_add1 {α : Type} {xs : List α} {k : Nat} {x : α} (h : xs[k]? = some x) : xs.take (k + 1) = xs.take k ++ [x] := by
  have hl := lt_get h
  rw [List.getElem?_eq_getElem hl] at h
  injection h with h
  rw [List.take_succ_eq_append_getElem hl, h]
theorem rng_count {n v : Nat} : (rng n).count (v : Int) = if v < n then 1 else 0 := by
  unfold rng
  induction n with
  | zero => simp
  | succ n ih =>
    rw [List.range_succ, List.map_append, List.count_append, ih, List.map_cons, List.map_nil, List.count_singleton]
    by_cases h2 : v = n
    · subst h2; simp
    · have h3 : ((n : Int) == (v : Int)) = false := by
        rw [beq_eq_false_iff_ne]
        omega
      rw [h3]
      by_cases h : v < n
      · rw [if_pos h, if_pos (show v < n + 1 by omega)]; rfl
      · rw [if_neg h, if_neg (show ¬ v < n + 1 by omega)]; rfl
def prmB (n : Nat) (p : List Int) : Bool := decide (p.length = n ∧ IsPerm p)
theorem prmB_true {n : Nat} {p : List Int} : prmB n p = true ↔ PermN n p := by
  unfold prmB
  rw [decide_eq_true_eq]
  exact ⟨fun h => ⟨h.1, h.2⟩, fun h => ⟨h.len, h.perm⟩⟩
theorem PermN.count {n : Nat} {p : List Int} (h : PermN n p) {v : Nat} (hv : v < n) : p.count (v : Int) = 1 := by
  rw [h.perm.perm.count_eq, rng_count, if_pos (by rw [h.len]; exact hv)]
theorem prm_of_count {n : Nat} {p : List Int} (hl : p.length = n) (h : ∀ v : Nat, v < n → p.count (v : Int) = 1) : PermN n p :=
  ⟨hl, isPerm_of_all fun v hv => List.count_pos_iff.1 (by rw [h v (by omega)]; omega)⟩
end Go.Tk
namespace Go.Proofs.Ytlggmoghgoeiiaa
open Go.RowKit Go.Tk

set_option maxHeartbeats 2000000 in
theorem permutation_any (A : Option Addr) (L C n : Nat) (p : List Int) (w : World) (h : IL w A L p) (hn : n ≤ 16) (hL : L ≤ 1000000000000000000) :
    Calls Try.prog 74 #[.slice A L C, .int .i64 n] w fun e w' => e = .returned (.bool (prmB n p)) ∧ w = w' := by
  have hl := h.len
  obtain ⟨r, hr⟩ : ∃ r, prmB n p = r := ⟨_, rfl⟩
  rw [hr]
  have H := Lib.hid h
  by_cases hln : L = n
  · have HR := Lib.hid hr
    have HL := Lib.hid hl
    subst hln
    clear hr hl h
    go_enter Try.func74, Try.ntmps74
    go_wp2
    go_loopw [5] (fun i wr => ∃ v : Nat, v ≤ L ∧ i = .int .i64 v ∧ (∀ u : Nat, u < v → p.count (u : Int) = 1) ∧ w = wr) (fun i _ => L - (intOf i).toNat)
    case atStart => exact ⟨0, by omega, rfl, fun u hu => by omega, rfl⟩
    case round =>
      obtain ⟨v, hv, rfl, hall, rfl⟩ := hrel
      have HALL := Lib.hid hall
      clear hall
      by_cases hlt : v < L
      · have hv1 : (v : Int) < L := by omega
        go_wp2
        go_loopw [6, 20] (fun s i wr => ∃ k : Nat, k ≤ L ∧ i = .int .i64 k ∧ s = .int .i64 ((p.take k).count (v : Int) : Nat) ∧ w = wr) (fun _ i _ => L - (intOf i).toNat)
        case atStart => exact ⟨0, by omega, rfl, by simp, rfl⟩
        case round =>
          obtain ⟨k, hk, rfl, rfl, rfl⟩ := hrel
          have hcl : (p.take k).count (v : Int) ≤ k := Nat.le_trans List.count_le_length (by rw [List.length_take]; omega)
          by_cases hlk : k < L
          · obtain ⟨x, hx⟩ : ∃ x, p[k]? = some x := ⟨_, List.getElem?_eq_getElem (by rw [← HL.out]; exact hlk)⟩
            obtain ⟨b, o, hA, hb, hc⟩ := H.out.at1 hx
            subst hA
            have hk0 : (0 : Int) ≤ k := by omega
            have hk1 : (k : Int) < L := by omega
            have hst : (p.take (k + 1)).count (v : Int) = (p.take k).count (v : Int) + (if x = (v : Int) then 1 else 0) := by
              rw [take_add1 hx, List.count_append, List.count_singleton]
              congr 1
              by_cases hxv : x = v <;> simp [hxv]
            have HST := Lib.hid hst
            clear hst hx
            generalize (p.take k).count (v : Int) = cc at *
            by_cases hxv : x = (v : Int)
            · rw [if_pos hxv] at HST
              subst hxv
              go_wp2
              go_roundw
              case rel => exact ⟨k + 1, by omega, by go_num, by rw [HST.out]; go_num, trivial⟩
              case measure => simp [intOf]; omega
            · rw [if_neg hxv] at HST
              go_wp2
              go_roundw
              case rel => exact ⟨k + 1, by omega, by go_num, by rw [HST.out]; rfl, trivial⟩
              case measure => simp [intOf]; omega
          · obtain rfl : k = L := by omega
            rw [show (p.take k).count (v : Int) = p.count (v : Int) by rw [List.take_of_length_le (by rw [← HL.out]; exact Nat.le_refl _)]]
            by_cases h1 : p.count (v : Int) = 1
            · have H1 := Lib.hid h1
              rw [h1]
              clear h1
              go_wp2
              go_roundw
              case rel => exact ⟨v + 1, by omega, by go_num, fun u hu => by
                by_cases huv : u < v
                · exact HALL.out u huv
                · obtain rfl : u = v := by omega
                  exact H1.out, trivial⟩
              case measure => simp [intOf]; omega
            · have hf : r = false := by
                rw [← HR.out]
                cases hp : prmB k p with
                | false => rfl
                | true => exact absurd ((prmB_true.1 hp).count hlt) h1
              subst hf
              have h2 : ((p.count (v : Int) : Nat) : Int) ≠ 1 := by omega
              have h3 : ¬ p.count (v : Int) = 1 := h1
              generalize p.count (v : Int) = cc at *
              go_wp2
              go_ret
              exact ⟨rfl, rfl⟩
      · obtain rfl : v = L := by omega
        have hf : r = true := by rw [← HR.out]; exact prmB_true.2 (prm_of_count HL.out.symm HALL.out)
        subst hf
        go_wp2
        go_ret
        exact ⟨rfl, rfl⟩
  · have hf : r = false := by
      rw [← hr]
      cases hp : prmB n p with
      | false => rfl
      | true => exact absurd ((hl.trans (prmB_true.1 hp).len)) hln
    subst hf
    have h3 : (L : Int) ≠ n := by omega
    clear hr hl h
    go_enter Try.func74, Try.ntmps74
    go_wp2
    go_ret
    exact ⟨rfl, rfl⟩
end Go.Proofs.Ytlggmoghgoeiiaa


/- Truth tables: the reference's DocRenamed. -/
namespace Go.Proofs.Ytlggmoghgoeiiaa
open Go.RowKit Go.Tk

def rnE (N : Int) (p : List Int) (ws : List Nat) : Int := if frm N ws then (if prmB N.toNat p then 0 else 4) else 5
theorem renP_zero_vals (n M : Nat) (p : List Int) (ws : List Nat) : vals M (renP n p ws 0) = List.replicate M false := by
  rw [← vals_false M]
  exact vals_congr fun i _ => renP_zero i
set_option maxRecDepth 100000 in
set_option maxHeartbeats 8000000 in
theorem docRenamed_any (Na : Int) (Aa : Option Addr) (Ca : Nat) (wsa : List Nat) (Ap : Option Addr) (Lp Cp : Nat) (p : List Int) (w : World) (h : TbOk w ⟨Na, Aa, Ca, wsa⟩) (hp : IL w Ap Lp p) (hLp : Lp ≤ 1000000000000000000) : Calls Try.prog 39 #[.agg #[.int .i64 Na, .slice Aa wsa.length Ca], .slice Ap Lp Cp] w (RetA w Na (tab Na.toNat (renF Na.toNat p wsa)) (rnE Na p wsa)) := by
  have Ha := Lib.hid h
  have HP := Lib.hid hp
  have hrf := fun (w' : World) (hs : Same w w') => rForm_any Na Aa _ Ca wsa w' (Sl.same h.wl hs) h.small
  simp only at hrf
  unfold rnE
  clear h
  cases hfr : frm Na wsa with
  | false =>
    rw [if_neg (by decide)]
    unfold RetA
    rw [show ansN Na 5 = 0 from rfl, show ansL (tab Na.toNat (renF Na.toNat p wsa)) 5 = [] from rfl]
    rw [hfr] at hrf
    have HRF := Lib.hid hrf
    clear hfr hrf hp
    go_enter Try.func39, Try.ntmps39
    go_upto_region 1 with fail
    refine wp_world fun w1 hw1 => ?_
    have hs1 : Same w w1 := by rw [hw1]; exact ((Frm.refl _ _).alloc _).alloc _
    have hBXa : Blk w1 (w.heap.size) 24 #[.int .i64 Na, .slice Aa wsa.length Ca] := by
      rw [hw1]
      have := ((Blk.new w 24 #[.int .i64 Na, .slice Aa wsa.length Ca]).alloc (.cells #[.int .i64 0, .slice none 0 0] 24))
      simpa using this
    have hBR : Blk w1 (w.heap.size + 1) 24 #[.int .i64 0, .slice none 0 0] := by
      rw [hw1]
      have := (Blk.new (w.alloc (.cells #[.int .i64 Na, .slice Aa wsa.length Ca] 24)) 24 #[.int .i64 0, .slice none 0 0])
      simpa using this
    clear hw1
    obtain ⟨R, hR⟩ : ∃ b, w.heap.size + 1 = b := ⟨_, rfl⟩
    rw [hR] at hBR ⊢
    have leR : w.heap.size ≤ R := by omega
    have neXaR : w.heap.size ≠ R := by omega
    clear hR
    have cXa0 : w1.cell? ⟨w.heap.size, 0, none⟩ = some (.int .i64 Na) := hBXa.cell 0
    have cXa1 : w1.cell? ⟨w.heap.size, 1, none⟩ = some (.slice Aa wsa.length Ca) := hBXa.cell 1
    have lXa := hBXa.lt
    have fXa0 := hBXa.free 0
    have fXa1 := hBXa.free 1
    have HBXa := Lib.hid hBXa
    have cR0 : w1.cell? ⟨R, 0, none⟩ = some (.int .i64 0) := hBR.cell 0
    have cR1 : w1.cell? ⟨R, 1, none⟩ = some (.slice none 0 0) := hBR.cell 1
    have lR := hBR.lt
    have fR0 := hBR.free 0
    have fR1 := hBR.free 1
    have HBR := Lib.hid hBR
    have HS1 := Lib.hid hs1
    clear hs1 hBXa hBR
    go_wp2_with (fail)
    refine (HRF.out w1 HS1.out).mono ?_
    rintro e w2 ⟨rfl, hsv⟩
    replace HBXa := Lib.hid (HBXa.out.frm hsv id)
    replace cXa0 : w2.cell? ⟨w.heap.size, 0, none⟩ = some (.int .i64 Na) := HBXa.out.cell 0
    replace cXa1 : w2.cell? ⟨w.heap.size, 1, none⟩ = some (.slice Aa wsa.length Ca) := HBXa.out.cell 1
    replace lXa := HBXa.out.lt
    replace fXa0 := HBXa.out.free 0
    replace fXa1 := HBXa.out.free 1
    replace HBR := Lib.hid (HBR.out.frm hsv id)
    replace cR0 : w2.cell? ⟨R, 0, none⟩ = some (.int .i64 0) := HBR.out.cell 0
    replace cR1 : w2.cell? ⟨R, 1, none⟩ = some (.slice none 0 0) := HBR.out.cell 1
    replace lR := HBR.out.lt
    replace fR0 := HBR.out.free 0
    replace fR1 := HBR.out.free 1
    replace HS1 := Lib.hid (HS1.out.trans hsv (fun _ _ h => h))
    clear hsv
    go_wp2
    refine wp_post fun we hwe => ?_
    have hBE : Blk we R 24 #[.int .i64 0, .slice none 0 0] := by
      rw [hwe]
      have := (HBR.out.set 0 (.int .i64 0)).set 1 (.slice none 0 0)
      simpa using this
    have hSE : Same w we := by rw [hwe]; exact (HS1.out.setNew 0 _ leR).setNew 1 _ leR
    have hr0 : we.cell? ⟨R, 0, none⟩ = some (.int .i64 0) := hBE.cell 0
    have hr1 : we.cell? ⟨R, 1, none⟩ = some (.slice none 0 0) := hBE.cell 1
    clear hwe hBE
    refine bodyPost_ret (v := .tuple #[.agg #[.int .i64 0, .slice none 0 0], .int .i64 5]) (by simp [results, Try.results39, go_sem, hr0, hr1]) rfl ?_
    exact ⟨none, 0, rfl, NewT.nil hSE⟩
  | true =>
    rw [if_pos rfl]
    rw [hfr] at hrf
    obtain ⟨n, rfl, hform⟩ := frm_true hfr
    have hn := hform.n16
    rw [Int.toNat_natCast]
    have hpm := fun (w' : World) (hs : Same w w') => permutation_any Ap Lp Cp n p w' (Sl.same hp hs) hn hLp
    cases hpr : prmB n p with
    | false =>
      rw [if_neg (by decide)]
      unfold RetA
      rw [show ansN n 4 = 0 from rfl, show ansL (tab n (renF n p wsa)) 4 = [] from rfl]
      rw [hpr] at hpm
      have HRF := Lib.hid hrf
      have HPM := Lib.hid hpm
      clear hfr hrf hp hpr hpm hform
      go_enter Try.func39, Try.ntmps39
      go_upto_region 1 with fail
      refine wp_world fun w1 hw1 => ?_
      have hs1 : Same w w1 := by rw [hw1]; exact ((Frm.refl _ _).alloc _).alloc _
      have hBXa : Blk w1 (w.heap.size) 24 #[.int .i64 n, .slice Aa wsa.length Ca] := by
        rw [hw1]
        have := ((Blk.new w 24 #[.int .i64 n, .slice Aa wsa.length Ca]).alloc (.cells #[.int .i64 0, .slice none 0 0] 24))
        simpa using this
      have hBR : Blk w1 (w.heap.size + 1) 24 #[.int .i64 0, .slice none 0 0] := by
        rw [hw1]
        have := (Blk.new (w.alloc (.cells #[.int .i64 n, .slice Aa wsa.length Ca] 24)) 24 #[.int .i64 0, .slice none 0 0])
        simpa using this
      clear hw1
      obtain ⟨R, hR⟩ : ∃ b, w.heap.size + 1 = b := ⟨_, rfl⟩
      rw [hR] at hBR ⊢
      have leR : w.heap.size ≤ R := by omega
      have neXaR : w.heap.size ≠ R := by omega
      clear hR
      have cXa0 : w1.cell? ⟨w.heap.size, 0, none⟩ = some (.int .i64 n) := hBXa.cell 0
      have cXa1 : w1.cell? ⟨w.heap.size, 1, none⟩ = some (.slice Aa wsa.length Ca) := hBXa.cell 1
      have lXa := hBXa.lt
      have fXa0 := hBXa.free 0
      have fXa1 := hBXa.free 1
      have HBXa := Lib.hid hBXa
      have cR0 : w1.cell? ⟨R, 0, none⟩ = some (.int .i64 0) := hBR.cell 0
      have cR1 : w1.cell? ⟨R, 1, none⟩ = some (.slice none 0 0) := hBR.cell 1
      have lR := hBR.lt
      have fR0 := hBR.free 0
      have fR1 := hBR.free 1
      have HBR := Lib.hid hBR
      have HS1 := Lib.hid hs1
      clear hs1 hBXa hBR
      go_wp2_with (fail)
      refine (HRF.out w1 HS1.out).mono ?_
      rintro e w2 ⟨rfl, hsv⟩
      replace HBXa := Lib.hid (HBXa.out.frm hsv id)
      replace cXa0 : w2.cell? ⟨w.heap.size, 0, none⟩ = some (.int .i64 n) := HBXa.out.cell 0
      replace cXa1 : w2.cell? ⟨w.heap.size, 1, none⟩ = some (.slice Aa wsa.length Ca) := HBXa.out.cell 1
      replace lXa := HBXa.out.lt
      replace fXa0 := HBXa.out.free 0
      replace fXa1 := HBXa.out.free 1
      replace HBR := Lib.hid (HBR.out.frm hsv id)
      replace cR0 : w2.cell? ⟨R, 0, none⟩ = some (.int .i64 0) := HBR.out.cell 0
      replace cR1 : w2.cell? ⟨R, 1, none⟩ = some (.slice none 0 0) := HBR.out.cell 1
      replace lR := HBR.out.lt
      replace fR0 := HBR.out.free 0
      replace fR1 := HBR.out.free 1
      replace HS1 := Lib.hid (HS1.out.trans hsv (fun _ _ h => h))
      clear hsv
      go_wp2_with (fail)
      refine (HPM.out w2 HS1.out).mono ?_
      rintro e w3 ⟨rfl, rfl⟩
      go_wp2
      refine wp_post fun we hwe => ?_
      have hBE : Blk we R 24 #[.int .i64 0, .slice none 0 0] := by
        rw [hwe]
        have := (HBR.out.set 0 (.int .i64 0)).set 1 (.slice none 0 0)
        simpa using this
      have hSE : Same w we := by rw [hwe]; exact (HS1.out.setNew 0 _ leR).setNew 1 _ leR
      have hr0 : we.cell? ⟨R, 0, none⟩ = some (.int .i64 0) := hBE.cell 0
      have hr1 : we.cell? ⟨R, 1, none⟩ = some (.slice none 0 0) := hBE.cell 1
      clear hwe hBE
      refine bodyPost_ret (v := .tuple #[.agg #[.int .i64 0, .slice none 0 0], .int .i64 4]) (by simp [results, Try.results39, go_sem, hr0, hr1]) rfl ?_
      exact ⟨none, 0, rfl, NewT.nil hSE⟩
    | true =>
      rw [if_pos rfl]
      unfold RetA
      rw [show ansN n 0 = n from rfl, show ansL (tab n (renF n p wsa)) 0 = tab n (renF n p wsa) from rfl]
      rw [hpr] at hpm
      have hP := prmB_true.1 hpr
      have HRF := Lib.hid hrf
      have HPM := Lib.hid hpm
      have HFa := Lib.hid hform
      have hLn : Lp = n := hp.len.trans hP.len
      have hpl := hp.len
      have hsgl := fun (j k : Nat) (h : k ≤ n) => sg_lt hP j k h
      have hset := fun (k : Nat) (h : k < 2 ^ n) => ren_set (ws := wsa) hP h
      have hfull : vals (2 ^ n) (renP n p wsa (2 ^ n)) = vals (2 ^ n) (renF n p wsa) := vals_congr fun i _ => renP_full i
      have hpvl := fun (v : Nat) (h : v < n) => hP.lt h
      have hp0 : ∀ x ∈ p, 0 ≤ x := fun x hx => (hP.perm.1 x hx).1
      clear hfr hrf hp hpr hpm hform
      have hp16 := pow_le16 hn
      have hMp0 : 0 < 2 ^ n := Nat.pow_pos (by omega)
      obtain ⟨M, hM⟩ : ∃ M, 2 ^ n = M := ⟨_, rfl⟩
      have hMp : 0 < M := by omega
      rw [hM] at hp16 hsgl hset hfull
      have HM := Lib.hid hM
      have HSG := Lib.hid hsgl
      have HSET := Lib.hid hset
      have HFULL := Lib.hid hfull
      have HPV := Lib.hid hpvl
      have HP0 := Lib.hid hp0
      have HPL := Lib.hid hpl
      have HLN := Lib.hid hLn
      have hLn1 : Lp ≤ n := by omega
      have hLn2 : n ≤ Lp := by omega
      clear hM hMp0 hsgl hset hfull hpvl hp0 hpl hLn
      obtain ⟨G, hG⟩ : ∃ G, renF n p wsa = G := ⟨_, rfl⟩
      rw [hG]
      have HG := Lib.hid hG
      clear hG
      go_enter Try.func39, Try.ntmps39
      go_upto_region 1 with fail
      refine wp_world fun w1 hw1 => ?_
      have hs1 : Same w w1 := by rw [hw1]; exact ((Frm.refl _ _).alloc _).alloc _
      have hBXa : Blk w1 (w.heap.size) 24 #[.int .i64 n, .slice Aa wsa.length Ca] := by
        rw [hw1]
        have := ((Blk.new w 24 #[.int .i64 n, .slice Aa wsa.length Ca]).alloc (.cells #[.int .i64 0, .slice none 0 0] 24))
        simpa using this
      have hBR : Blk w1 (w.heap.size + 1) 24 #[.int .i64 0, .slice none 0 0] := by
        rw [hw1]
        have := (Blk.new (w.alloc (.cells #[.int .i64 n, .slice Aa wsa.length Ca] 24)) 24 #[.int .i64 0, .slice none 0 0])
        simpa using this
      clear hw1
      obtain ⟨R, hR⟩ : ∃ b, w.heap.size + 1 = b := ⟨_, rfl⟩
      rw [hR] at hBR ⊢
      have leR : w.heap.size ≤ R := by omega
      have neXaR : w.heap.size ≠ R := by omega
      clear hR
      have cXa0 : w1.cell? ⟨w.heap.size, 0, none⟩ = some (.int .i64 n) := hBXa.cell 0
      have cXa1 : w1.cell? ⟨w.heap.size, 1, none⟩ = some (.slice Aa wsa.length Ca) := hBXa.cell 1
      have lXa := hBXa.lt
      have fXa0 := hBXa.free 0
      have fXa1 := hBXa.free 1
      have HBXa := Lib.hid hBXa
      have cR0 : w1.cell? ⟨R, 0, none⟩ = some (.int .i64 0) := hBR.cell 0
      have cR1 : w1.cell? ⟨R, 1, none⟩ = some (.slice none 0 0) := hBR.cell 1
      have lR := hBR.lt
      have fR0 := hBR.free 0
      have fR1 := hBR.free 1
      have HBR := Lib.hid hBR
      have HS1 := Lib.hid hs1
      clear hs1 hBXa hBR
      go_wp2_with (fail)
      refine (HRF.out w1 HS1.out).mono ?_
      rintro e w2 ⟨rfl, hsv⟩
      replace HBXa := Lib.hid (HBXa.out.frm hsv id)
      replace cXa0 : w2.cell? ⟨w.heap.size, 0, none⟩ = some (.int .i64 n) := HBXa.out.cell 0
      replace cXa1 : w2.cell? ⟨w.heap.size, 1, none⟩ = some (.slice Aa wsa.length Ca) := HBXa.out.cell 1
      replace lXa := HBXa.out.lt
      replace fXa0 := HBXa.out.free 0
      replace fXa1 := HBXa.out.free 1
      replace HBR := Lib.hid (HBR.out.frm hsv id)
      replace cR0 : w2.cell? ⟨R, 0, none⟩ = some (.int .i64 0) := HBR.out.cell 0
      replace cR1 : w2.cell? ⟨R, 1, none⟩ = some (.slice none 0 0) := HBR.out.cell 1
      replace lR := HBR.out.lt
      replace fR0 := HBR.out.free 0
      replace fR1 := HBR.out.free 1
      replace HS1 := Lib.hid (HS1.out.trans hsv (fun _ _ h => h))
      clear hsv
      go_wp2_with (fail)
      refine (HPM.out w2 HS1.out).mono ?_
      rintro e w3 ⟨rfl, rfl⟩
      go_wp2_with (fail)
      refine (values_any n Ca Aa wsa w2 (Ha.out.same HS1.out) HFa.out).mono ?_
      rintro e w4 ⟨Al, CL, rfl, hNB⟩
      rw [HM.out] at hNB ⊢
      obtain ⟨L, rfl, hLl⟩ := Own.form1 hNB.1 (by rw [vals_len]; exact hMp)
      have hLn : w2.heap.size ≤ L := hNB.2.1 L ⟨_, rfl, rfl⟩
      have hsv := hNB.2.2
      have hOL := hNB.1
      rw [vals_len] at hOL
      have HOL := Lib.hid hOL
      clear hNB hOL
      have hneXaL : w.heap.size ≠ L := by have := HBXa.out.lt; omega
      have hneRL : R ≠ L := by have := HBR.out.lt; omega
      replace HBXa := Lib.hid (HBXa.out.frm hsv id)
      replace cXa0 : w4.cell? ⟨w.heap.size, 0, none⟩ = some (.int .i64 n) := HBXa.out.cell 0
      replace cXa1 : w4.cell? ⟨w.heap.size, 1, none⟩ = some (.slice Aa wsa.length Ca) := HBXa.out.cell 1
      replace lXa := HBXa.out.lt
      replace fXa0 := HBXa.out.free 0
      replace fXa1 := HBXa.out.free 1
      replace HBR := Lib.hid (HBR.out.frm hsv id)
      replace cR0 : w4.cell? ⟨R, 0, none⟩ = some (.int .i64 0) := HBR.out.cell 0
      replace cR1 : w4.cell? ⟨R, 1, none⟩ = some (.slice none 0 0) := HBR.out.cell 1
      replace lR := HBR.out.lt
      replace fR0 := HBR.out.free 0
      replace fR1 := HBR.out.free 1
      replace HS1 := Lib.hid (HS1.out.trans hsv (fun _ _ h => h))
      clear hsv
      have hmk := fun w => run_make_n (P := Try.prog) Try.underlying26 info_bool .i64 .i64 M (show 1 * M ≤ 281474976710656 by omega) (show M ≤ 9223372036854775807 by omega) w
      go_upto_region 7 with fail
      refine wp_world fun w5 hw5 => ?_
      have hsv : Same w4 w5 := by rw [hw5]; exact (Frm.refl _ _).alloc _
      have hOD : OwnB w5 (some ⟨w4.heap.size, 0, none⟩) M M (vals M (renP n p wsa 0)) := by
        rw [renP_zero_vals, hw5]
        have := Own.ofMade (m := 1) w4 4 (fun b : Bool => [.bool b]) (fun _ => rfl) (by decide) false M (show M ≤ 9223372036854775807 by omega) rfl
        simpa using this
      clear hw5 hmk
      obtain ⟨D, hD⟩ : ∃ D, w4.heap.size = D := ⟨_, rfl⟩
      rw [hD] at hOD ⊢
      have hneLD : L ≠ D := by omega
      have hneXaD : w.heap.size ≠ D := by have := HBXa.out.lt; omega
      have hneRD : R ≠ D := by have := HBR.out.lt; omega
      have hDn : w.heap.size ≤ D := by have := HS1.out.size; omega
      replace HOL := Lib.hid (Own.frm HOL.out hsv (fun _ _ => id))
      have HOD := Lib.hid hOD
      clear hD hOD hLl hLn
      replace HBXa := Lib.hid (HBXa.out.frm hsv id)
      replace cXa0 : w5.cell? ⟨w.heap.size, 0, none⟩ = some (.int .i64 n) := HBXa.out.cell 0
      replace cXa1 : w5.cell? ⟨w.heap.size, 1, none⟩ = some (.slice Aa wsa.length Ca) := HBXa.out.cell 1
      replace lXa := HBXa.out.lt
      replace fXa0 := HBXa.out.free 0
      replace fXa1 := HBXa.out.free 1
      replace HBR := Lib.hid (HBR.out.frm hsv id)
      replace cR0 : w5.cell? ⟨R, 0, none⟩ = some (.int .i64 0) := HBR.out.cell 0
      replace cR1 : w5.cell? ⟨R, 1, none⟩ = some (.slice none 0 0) := HBR.out.cell 1
      replace lR := HBR.out.lt
      replace fR0 := HBR.out.free 0
      replace fR1 := HBR.out.free 1
      replace HS1 := Lib.hid (HS1.out.trans hsv (fun _ _ h => h))
      clear hsv
      go_wp2
      go_loopw [29] (fun i wr => ∃ k : Nat, k ≤ M ∧ i = .int .i64 k ∧ Same w wr ∧ Blk wr w.heap.size 24 #[.int .i64 n, .slice Aa wsa.length Ca] ∧ Blk wr R 24 #[.int .i64 0, .slice none 0 0] ∧ OwnB wr (some ⟨L, 0, none⟩) M CL (vals M (vb wsa)) ∧ OwnB wr (some ⟨D, 0, none⟩) M M (vals M (renP n p wsa k))) (fun i _ => M - (intOf i).toNat)
      case atStart => exact ⟨0, by omega, rfl, HS1.out, HBXa.out, HBR.out, HOL.out, HOD.out⟩
      case round =>
        obtain ⟨k, hk, rfl, hs, hBXa, hBR, hOL, hOD⟩ := hrel
        have HSr := Lib.hid hs
        have HBrXa := Lib.hid hBXa
        have HBrR := Lib.hid hBR
        have HOrL := Lib.hid hOL
        have HOrD := Lib.hid hOD
        clear cXa0 cXa1 fXa0 fXa1 lXa cR0 cR1 fR0 fR1 lR HBXa HBR HOL HOD HS1
        by_cases hlt : k < M
        · have hk0 : (0 : Int) ≤ k := by omega
          have hk1 : (k : Int) < M := by omega
          clear hs hBXa hBR hOL hOD
          go_wp2
          refine wp_world fun wq hwq => ?_
          subst hwq
          go_loopw [9, 34] (fun s i wi => ∃ m : Nat, m ≤ Lp ∧ i = .int .i64 m ∧ s = .int .i64 (sg p k m : Nat) ∧ wq = wi) (fun _ i _ => Lp - (intOf i).toNat)
          case atStart => exact ⟨0, by omega, rfl, rfl, rfl⟩
          case round =>
            obtain ⟨m, hm, rfl, rfl, rfl⟩ := hrel
            have hsl := HSG.out k m (by omega)
            by_cases hlm : m < Lp
            · obtain ⟨x, hx⟩ : ∃ x, p[m]? = some x := ⟨_, List.getElem?_eq_getElem (by rw [← HPL.out]; exact hlm)⟩
              obtain ⟨bp, op, hA, hb, hc⟩ := (Sl.same HP.out HSr.out).at1 hx
              have hpv := HPV.out m (by omega)
              have hx0 := HP0.out x (List.mem_of_getElem? hx)
              rw [pv_get hx] at hpv
              obtain ⟨u, rfl⟩ := Int.eq_ofNat_of_zero_le hx0
              rw [Int.toNat_natCast] at hpv
              have hst : sg p k (m + 1) = wth (sg p k m) u (k.testBit m) := by rw [sg, pv_get hx, Int.toNat_natCast]
              have HST := Lib.hid hst
              subst hA
              have hm0 : (0 : Int) ≤ m := by omega
              have hm1 : (m : Int) < Lp := by omega
              have hbt := fun w => bit_any k m w (by omega)
              have hwt := fun b w => with_any (sg p k m) u b w (by omega) (by omega)
              have HBT := Lib.hid hbt
              have HWT := Lib.hid hwt
              clear hst hx hbt hwt
              generalize sg p k m = sk at *
              go_wp2_with (fail)
              refine (HBT.out _).mono ?_
              rintro e w6 ⟨rfl, rfl⟩
              go_wp2_with (fail)
              refine (HWT.out _ _).mono ?_
              rintro e w6 ⟨rfl, rfl⟩
              go_wp2
              go_roundw
              case rel => exact ⟨m + 1, by omega, by go_num, by rw [HST.out], trivial⟩
              case measure => simp [intOf]; omega
            · have hmn : m = n := by omega
              subst hmn
              obtain ⟨hLl, hLc⟩ := OwnB.cell HOrL.out hlt
              obtain ⟨hDl, hDc⟩ := OwnB.cell HOrD.out hsl
              have hDf := Own.free HOrD.out (sg p k m)
              have hst := Own.put1 (c := fun b : Bool => .bool b) HOrD.out (i := sg p k m) (by rw [vals_len]; exact hsl) (vb wsa k)
              rw [HSET.out k hlt] at hst
              have HST := Lib.hid hst
              have hs0 : (0 : Int) ≤ (sg p k m : Nat) := by omega
              have hs1 : ((sg p k m : Nat) : Int) < M := by omega
              clear hst
              generalize sg p k m = sk at *
              generalize vb wsa k = v at *
              go_wp2
              go_roundw
              case rel => exact ⟨k + 1, by omega, by go_num, HSr.out.setNew sk _ hDn, HBrXa.out.far (p := ⟨D, sk, none⟩) hneXaD _, HBrR.out.far (p := ⟨D, sk, none⟩) hneRD _, Own.far (p := ⟨D, sk, none⟩) HOrL.out (fun a ha h => by injection ha with ha; subst ha; exact hneLD h) _, HST.out⟩
              case measure => simp [intOf]; omega
        · obtain rfl : k = M := by omega
          rw [HFULL.out, HG.out] at hOD
          have HODr := Lib.hid hOD
          have cXa0 : wr.cell? ⟨w.heap.size, 0, none⟩ = some (.int .i64 n) := hBXa.cell 0
          have lXa := hBXa.lt
          have cR0 : wr.cell? ⟨R, 0, none⟩ = some (.int .i64 0) := hBR.cell 0
          have cR1 : wr.cell? ⟨R, 1, none⟩ = some (.slice none 0 0) := hBR.cell 1
          have lR := hBR.lt
          have fR0 := hBR.free 0
          have fR1 := hBR.free 1
          clear hs hBXa hBR hOL hOD
          go_wp2_with (fail)
          rw [← HM.out] at HODr ⊢
          refine (rof_any n _ (some ⟨D, 0, none⟩) G wr hn (Own.sl (fun _ => rfl) HODr.out)).mono ?_
          rintro e w8 ⟨Aq, Cq, rfl, hNT⟩
          have hoq := hNT.1
          have hfq := hNT.2.1
          have hsq := hNT.2.2
          have hRq : ∀ a, Aq = some a → a.block ≠ R := fun a ha h => by
            have := hfq a.block ⟨a, ha, rfl⟩
            omega
          have HBRq := Lib.hid (HBrR.out.frm hsq id)
          have HSq := Lib.hid (HSr.out.trans hsq (fun _ _ h => h))
          have hfq' : Fresh w.heap.size Aq := fun b hb => by have := hfq b hb; have := HSr.out.size; omega
          have HOQ := Lib.hid hoq
          have HFQ := Lib.hid hfq'
          have hcR0 : w8.cell? ⟨R, 0, none⟩ = some (.int .i64 0) := HBRq.out.cell 0
          have hcR1 : w8.cell? ⟨R, 1, none⟩ = some (.slice none 0 0) := HBRq.out.cell 1
          have hfR0 := HBRq.out.free 0
          have hfR1 := HBRq.out.free 1
          have hlR := HBRq.out.lt
          clear hNT hoq hfq hsq hfq'
          go_wp2
          refine wp_post fun we hwe => ?_
          have hBE : Blk we R 24 #[.int .i64 n, .slice Aq (tab n G).length Cq] := by
            rw [hwe]
            have := (HBRq.out.set 0 (.int .i64 n)).set 1 (.slice Aq (tab n G).length Cq)
            simpa using this
          have hSE : Same w we := by rw [hwe]; exact (HSq.out.setNew 0 _ leR).setNew 1 _ leR
          have hOE : OwnW we Aq (tab n G).length Cq (tab n G) := by
            rw [hwe]
            exact (Own.far (p := ⟨R, 0, none⟩) HOQ.out hRq _).far (p := ⟨R, 1, none⟩) hRq _
          have hr0 : we.cell? ⟨R, 0, none⟩ = some (.int .i64 n) := hBE.cell 0
          have hr1 : we.cell? ⟨R, 1, none⟩ = some (.slice Aq (tab n G).length Cq) := hBE.cell 1
          clear hwe hBE
          refine bodyPost_ret (v := .tuple #[.agg #[.int .i64 n, .slice Aq (tab n G).length Cq], .int .i64 0]) (by simp [results, Try.results39, go_sem, hr0, hr1]) rfl ?_
          exact ⟨Aq, Cq, rfl, hOE, HFQ.out, hSE⟩
end Go.Proofs.Ytlggmoghgoeiiaa
