/- Truth tables: not and two of the law. -/
import Derived.Test.YtlggmoghgoeiiaaTrTells
namespace Go.Proofs.Ytlggmoghgoeiiaa
open Go.RowKit Go.Tk

set_option maxRecDepth 100000 in
set_option maxHeartbeats 4000000 in
theorem notT_any (n : Nat) (Aa : Option Addr) (Ca : Nat) (wsa : List Nat) (w : World) (ha : TbOk w ⟨n, Aa, Ca, wsa⟩) (hfa : FormN n wsa) : Calls Try.prog 36 #[.agg #[.int .i64 n, .slice Aa wsa.length Ca]] w (RetT w n (tab n (notF wsa))) := by
  have Ha := Lib.hid ha
  have hn := hfa.n16
  have hP := fun w h => Not_any n Aa Ca wsa w h
  rw [frm_nat.2 hfa, show fmE true = 0 from rfl] at hP
  unfold RetA at hP
  rw [show ansN n 0 = n from rfl, show ansL (tab (n : Int).toNat (notF wsa)) 0 = tab n (notF wsa) from rfl] at hP
  have HP := Lib.hid hP
  clear hP
  clear ha hn hfa
  go_enter Try.func36, Try.ntmps36
  go_upto_region 1 with fail
  refine wp_world fun w1 hw1 => ?_
  have hs1 : Same w w1 := by rw [hw1]; exact ((Frm.refl _ _).alloc _).alloc _
  have hBXa : Blk w1 (w.heap.size) 24 #[.int .i64 n, .slice Aa wsa.length Ca] := by
    rw [hw1]
    have := ((Blk.new w 24 #[.int .i64 n, .slice Aa wsa.length Ca]).alloc (.cells #[.int .i64 0, .slice none 0 0] 24))
    simpa using this
  have hBR : Blk w1 (w.heap.size + 1) 24 #[.int .i64 0, .slice none 0 0] := by
    rw [hw1]
    have := (Blk.new (w.alloc (.cells #[.int .i64 n, .slice Aa wsa.length Ca] 24)) 24 #[.int .i64 0, .slice none 0 0])
    simpa using this
  clear hw1
  obtain ⟨R, hR⟩ : ∃ b, w.heap.size + 1 = b := ⟨_, rfl⟩
  rw [hR] at hBR ⊢
  have leR : w.heap.size ≤ R := by omega
  have neXaR : w.heap.size ≠ R := by omega
  clear hR
  have cXa0 : w1.cell? ⟨w.heap.size, 0, none⟩ = some (.int .i64 n) := hBXa.cell 0
  have cXa1 : w1.cell? ⟨w.heap.size, 1, none⟩ = some (.slice Aa wsa.length Ca) := hBXa.cell 1
  have lXa := hBXa.lt
  have fXa0 := hBXa.free 0
  have fXa1 := hBXa.free 1
  have HBXa := Lib.hid hBXa
  have cR0 : w1.cell? ⟨R, 0, none⟩ = some (.int .i64 0) := hBR.cell 0
  have cR1 : w1.cell? ⟨R, 1, none⟩ = some (.slice none 0 0) := hBR.cell 1
  have lR := hBR.lt
  have fR0 := hBR.free 0
  have fR1 := hBR.free 1
  have HBR := Lib.hid hBR
  have HS1 := Lib.hid hs1
  clear hs1 hBXa hBR
  go_wp2_with (fail)
  refine (HP.out w1 (Ha.out.same HS1.out)).mono ?_
  rintro e w4 ⟨Aq, Cq, rfl, hNT⟩
  have hoq := hNT.1
  have hfq := hNT.2.1
  have hsq := hNT.2.2
  have hRq : ∀ a, Aq = some a → a.block ≠ R := fun a ha h => by
    have := hfq a.block ⟨a, ha, rfl⟩
    omega
  have HBRq := Lib.hid (HBR.out.frm hsq id)
  have HSq := Lib.hid (HS1.out.trans hsq (fun _ _ h => h))
  have hfq' : Fresh w.heap.size Aq := fun b hb => by have := hfq b hb; have := HS1.out.size; omega
  have HOQ := Lib.hid hoq
  have HFQ := Lib.hid hfq'
  have hcR0 : w4.cell? ⟨R, 0, none⟩ = some (.int .i64 0) := HBRq.out.cell 0
  have hcR1 : w4.cell? ⟨R, 1, none⟩ = some (.slice none 0 0) := HBRq.out.cell 1
  have hfR0 := HBRq.out.free 0
  have hfR1 := HBRq.out.free 1
  have hlR := HBRq.out.lt
  clear hNT hoq hfq hsq hfq'
  go_wp2
  refine wp_post fun we hwe => ?_
  have hBE : Blk we R 24 #[.int .i64 n, .slice Aq (tab n (notF wsa)).length Cq] := by
    rw [hwe]
    have := ((HBRq.out.set 0 (.int .i64 n)).set 1 (.slice Aq (tab n (notF wsa)).length Cq)).alloc (.cells #[.int .i64 n, .slice Aq (tab n (notF wsa)).length Cq] 24)
    simpa using this
  have hSE : Same w we := by rw [hwe]; exact ((HSq.out.setNew 0 _ leR).setNew 1 _ leR).alloc _
  have hOE : OwnW we Aq (tab n (notF wsa)).length Cq (tab n (notF wsa)) := by
    rw [hwe]
    exact Own.frm ((Own.far (p := ⟨R, 0, none⟩) HOQ.out hRq _).far (p := ⟨R, 1, none⟩) hRq _) ((Frm.refl (fun _ => False) _).alloc _) (fun _ _ => id)
  have hr0 : we.cell? ⟨R, 0, none⟩ = some (.int .i64 n) := hBE.cell 0
  have hr1 : we.cell? ⟨R, 1, none⟩ = some (.slice Aq (tab n (notF wsa)).length Cq) := hBE.cell 1
  clear hwe hBE
  refine bodyPost_ret (v := .agg #[.int .i64 n, .slice Aq (tab n (notF wsa)).length Cq]) (by simp [results, Try.results36, go_sem, hr0, hr1]) rfl ?_
  exact ⟨Aq, Cq, rfl, hOE, HFQ.out, hSE⟩
set_option maxRecDepth 100000 in
set_option maxHeartbeats 4000000 in
theorem twoT_any (n : Nat) (op : Nat) (Aa : Option Addr) (Ca : Nat) (wsa : List Nat) (Ab : Option Addr) (Cb : Nat) (wsb : List Nat) (w : World) (hop : op ≤ 15) (ha : TbOk w ⟨n, Aa, Ca, wsa⟩) (hfa : FormN n wsa) (hb : TbOk w ⟨n, Ab, Cb, wsb⟩) (hfb : FormN n wsb) : Calls Try.prog 37 #[.int .u8 op, .agg #[.int .i64 n, .slice Aa wsa.length Ca], .agg #[.int .i64 n, .slice Ab wsb.length Cb]] w (RetT w n (tab n (binF op wsa wsb))) := by
  have Ha := Lib.hid ha
  have Hb := Lib.hid hb
  have hn := hfa.n16
  have hP := fun w ha hb => Binary_any op n Aa Ca wsa n Ab Cb wsb w (by omega) ha hb
  rw [show fm [⟨n, Aa, Ca, wsa⟩, ⟨n, Ab, Cb, wsb⟩] = true by simp [fm, Tb.frm, frm_nat.2 hfa, frm_nat.2 hfb], show binE op true = 0 by unfold binE; rw [if_neg (by omega)]; rfl] at hP
  unfold RetA at hP
  rw [show ansN n 0 = n from rfl, show ansL (tab (n : Int).toNat (binF op wsa wsb)) 0 = tab n (binF op wsa wsb) from rfl] at hP
  have HP := Lib.hid hP
  clear hP hop
  clear ha hb hn hfa hfb
  go_enter Try.func37, Try.ntmps37
  go_upto_region 1 with fail
  refine wp_world fun w1 hw1 => ?_
  have hs1 : Same w w1 := by rw [hw1]; exact (((Frm.refl _ _).alloc _).alloc _).alloc _
  have hBXa : Blk w1 (w.heap.size) 24 #[.int .i64 n, .slice Aa wsa.length Ca] := by
    rw [hw1]
    have := (((Blk.new w 24 #[.int .i64 n, .slice Aa wsa.length Ca]).alloc (.cells #[.int .i64 n, .slice Ab wsb.length Cb] 24)).alloc (.cells #[.int .i64 0, .slice none 0 0] 24))
    simpa using this
  have hBXb : Blk w1 (w.heap.size + 1) 24 #[.int .i64 n, .slice Ab wsb.length Cb] := by
    rw [hw1]
    have := ((Blk.new (w.alloc (.cells #[.int .i64 n, .slice Aa wsa.length Ca] 24)) 24 #[.int .i64 n, .slice Ab wsb.length Cb]).alloc (.cells #[.int .i64 0, .slice none 0 0] 24))
    simpa using this
  have hBR : Blk w1 (w.heap.size + 1 + 1) 24 #[.int .i64 0, .slice none 0 0] := by
    rw [hw1]
    have := (Blk.new ((w.alloc (.cells #[.int .i64 n, .slice Aa wsa.length Ca] 24)).alloc (.cells #[.int .i64 n, .slice Ab wsb.length Cb] 24)) 24 #[.int .i64 0, .slice none 0 0])
    simpa using this
  clear hw1
  obtain ⟨R, hR⟩ : ∃ b, w.heap.size + 1 + 1 = b := ⟨_, rfl⟩
  rw [hR] at hBR ⊢
  obtain ⟨Xb, hXb⟩ : ∃ b, w.heap.size + 1 = b := ⟨_, rfl⟩
  rw [hXb] at hBXb ⊢
  have leXb : w.heap.size ≤ Xb := by omega
  have leR : w.heap.size ≤ R := by omega
  have neXaXb : w.heap.size ≠ Xb := by omega
  have neXaR : w.heap.size ≠ R := by omega
  have neXbR : Xb ≠ R := by omega
  clear hXb hR
  have cXa0 : w1.cell? ⟨w.heap.size, 0, none⟩ = some (.int .i64 n) := hBXa.cell 0
  have cXa1 : w1.cell? ⟨w.heap.size, 1, none⟩ = some (.slice Aa wsa.length Ca) := hBXa.cell 1
  have lXa := hBXa.lt
  have fXa0 := hBXa.free 0
  have fXa1 := hBXa.free 1
  have HBXa := Lib.hid hBXa
  have cXb0 : w1.cell? ⟨Xb, 0, none⟩ = some (.int .i64 n) := hBXb.cell 0
  have cXb1 : w1.cell? ⟨Xb, 1, none⟩ = some (.slice Ab wsb.length Cb) := hBXb.cell 1
  have lXb := hBXb.lt
  have fXb0 := hBXb.free 0
  have fXb1 := hBXb.free 1
  have HBXb := Lib.hid hBXb
  have cR0 : w1.cell? ⟨R, 0, none⟩ = some (.int .i64 0) := hBR.cell 0
  have cR1 : w1.cell? ⟨R, 1, none⟩ = some (.slice none 0 0) := hBR.cell 1
  have lR := hBR.lt
  have fR0 := hBR.free 0
  have fR1 := hBR.free 1
  have HBR := Lib.hid hBR
  have HS1 := Lib.hid hs1
  clear hs1 hBXa hBXb hBR
  go_wp2_with (fail)
  refine (HP.out w1 (Ha.out.same HS1.out) (Hb.out.same HS1.out)).mono ?_
  rintro e w4 ⟨Aq, Cq, rfl, hNT⟩
  have hoq := hNT.1
  have hfq := hNT.2.1
  have hsq := hNT.2.2
  have hRq : ∀ a, Aq = some a → a.block ≠ R := fun a ha h => by
    have := hfq a.block ⟨a, ha, rfl⟩
    omega
  have HBRq := Lib.hid (HBR.out.frm hsq id)
  have HSq := Lib.hid (HS1.out.trans hsq (fun _ _ h => h))
  have hfq' : Fresh w.heap.size Aq := fun b hb => by have := hfq b hb; have := HS1.out.size; omega
  have HOQ := Lib.hid hoq
  have HFQ := Lib.hid hfq'
  have hcR0 : w4.cell? ⟨R, 0, none⟩ = some (.int .i64 0) := HBRq.out.cell 0
  have hcR1 : w4.cell? ⟨R, 1, none⟩ = some (.slice none 0 0) := HBRq.out.cell 1
  have hfR0 := HBRq.out.free 0
  have hfR1 := HBRq.out.free 1
  have hlR := HBRq.out.lt
  clear hNT hoq hfq hsq hfq'
  go_wp2
  refine wp_post fun we hwe => ?_
  have hBE : Blk we R 24 #[.int .i64 n, .slice Aq (tab n (binF op wsa wsb)).length Cq] := by
    rw [hwe]
    have := ((HBRq.out.set 0 (.int .i64 n)).set 1 (.slice Aq (tab n (binF op wsa wsb)).length Cq)).alloc (.cells #[.int .i64 n, .slice Aq (tab n (binF op wsa wsb)).length Cq] 24)
    simpa using this
  have hSE : Same w we := by rw [hwe]; exact ((HSq.out.setNew 0 _ leR).setNew 1 _ leR).alloc _
  have hOE : OwnW we Aq (tab n (binF op wsa wsb)).length Cq (tab n (binF op wsa wsb)) := by
    rw [hwe]
    exact Own.frm ((Own.far (p := ⟨R, 0, none⟩) HOQ.out hRq _).far (p := ⟨R, 1, none⟩) hRq _) ((Frm.refl (fun _ => False) _).alloc _) (fun _ _ => id)
  have hr0 : we.cell? ⟨R, 0, none⟩ = some (.int .i64 n) := hBE.cell 0
  have hr1 : we.cell? ⟨R, 1, none⟩ = some (.slice Aq (tab n (binF op wsa wsb)).length Cq) := hBE.cell 1
  clear hwe hBE
  refine bodyPost_ret (v := .agg #[.int .i64 n, .slice Aq (tab n (binF op wsa wsb)).length Cq]) (by simp [results, Try.results37, go_sem, hr0, hr1]) rfl ?_
  exact ⟨Aq, Cq, rfl, hOE, HFQ.out, hSE⟩
end Go.Proofs.Ytlggmoghgoeiiaa
