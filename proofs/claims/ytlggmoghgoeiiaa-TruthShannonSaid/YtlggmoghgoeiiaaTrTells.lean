/- Truth tables: TruthTells: the walk. -/
import Derived.Test.YtlggmoghgoeiiaaTrSup2
namespace Go.Proofs.Ytlggmoghgoeiiaa
open Go.RowKit Go.Tk

set_option maxRecDepth 100000 in
set_option maxHeartbeats 8000000 in
theorem tells_walk (Na : Int) (Aa : Option Addr) (Ca : Nat) (wsa : List Nat) (x : Nat) (w : World) (hx : x < 18446744073709551616) (h : TbIn w ⟨Na, Aa, Ca, wsa⟩) : Calls Try.prog 9 #[.agg #[.int .i64 Na, .slice Aa wsa.length Ca], .int .u64 x] w fun e w' => e = .returned (.bool true) ∧ Below w.heap.size w w' := by
  have H := Lib.hid h
  have hroom := h.room
  simp only at hroom
  clear h
  have hP := fun A C w h => At_any Na A C wsa x w hx h
  have hD := fun w h => docAt_any Na Aa Ca wsa x w hx h
  generalize atB Na wsa x = p at hP hD
  generalize atE (frm Na wsa) Na x = q at hP hD
  have HP := Lib.hid hP
  have HD := Lib.hid hD
  clear hP hD
  go_enter Try.func9, Try.ntmps9
  go_upto_region 1 with fail
  refine wp_world fun w1 hw1 => ?_
  have hs1 : Same w w1 := by rw [hw1]; exact (Frm.refl _ _).alloc _
  have hBXa : Blk w1 (w.heap.size) 24 #[.int .i64 Na, .slice Aa wsa.length Ca] := by
    rw [hw1]
    have := (Blk.new w 24 #[.int .i64 Na, .slice Aa wsa.length Ca])
    simpa using this
  clear hw1
  have cXa0 : w1.cell? ⟨w.heap.size, 0, none⟩ = some (.int .i64 Na) := hBXa.cell 0
  have cXa1 : w1.cell? ⟨w.heap.size, 1, none⟩ = some (.slice Aa wsa.length Ca) := hBXa.cell 1
  have lXa := hBXa.lt
  have fXa0 := hBXa.free 0
  have fXa1 := hBXa.free 1
  have HBXa := Lib.hid hBXa
  have HS1 := Lib.hid hs1
  clear hs1 hBXa
  go_wp2_with (fail)
  refine (awake_any w1).mono ?_
  rintro e w2 ⟨rfl, hs⟩
  replace HBXa := Lib.hid (HBXa.out.frm hs id)
  replace HS1 := Lib.hid (HS1.out.trans hs (fun _ _ h => h))
  clear hs cXa0 cXa1 fXa0 fXa1 lXa hx
  have cX0 : w2.cell? ⟨w.heap.size, 0, none⟩ = some (.int .i64 Na) := HBXa.out.cell 0
  have cX1 : w2.cell? ⟨w.heap.size, 1, none⟩ = some (.slice Aa wsa.length Ca) := HBXa.out.cell 1
  have lX := HBXa.out.lt
  go_wp2_with (fail)
  refine (rtwin_any Na Aa Ca wsa w2 (Sl.same H.out.ok.wl HS1.out) hroom).mono ?_
  rintro e wb ⟨At, Ct, rfl, hNT⟩
  have hs := hNT.2.2
  have hot := hNT.1
  clear hNT cX0 cX1 lX
  go_wp2_with (fail)
  refine (HP.out At Ct wb ⟨hot.sl ucell_len, H.out.ok.small⟩).mono ?_
  rintro e wc ⟨rfl, hsv⟩
  have hs := hs.trans hsv (fun _ _ h => h)
  clear hot hsv
  replace HBXa := Lib.hid (HBXa.out.frm hs id)
  replace HS1 := Lib.hid (HS1.out.trans hs (fun _ _ h => h))
  clear hs
  have cX0 : wc.cell? ⟨w.heap.size, 0, none⟩ = some (.int .i64 Na) := HBXa.out.cell 0
  have cX1 : wc.cell? ⟨w.heap.size, 1, none⟩ = some (.slice Aa wsa.length Ca) := HBXa.out.cell 1
  have lX := HBXa.out.lt
  go_wp2_with (fail)
  refine (HD.out wc (H.out.ok.same HS1.out)).mono ?_
  rintro e w3 ⟨rfl, hs⟩
  replace HBXa := Lib.hid (HBXa.out.frm hs id)
  replace HS1 := Lib.hid (HS1.out.trans hs (fun _ _ h => h))
  clear hs cX0 cX1 lX
  clear HP HD
  have hP := fun A C w h => Support_any Na A C wsa w h
  have hD := fun w h => docSupport_any Na Aa Ca wsa w h
  generalize ((supN Na wsa : Nat) : Int) = p at hP hD
  generalize fmE (frm Na wsa) = q at hP hD
  have HP := Lib.hid hP
  have HD := Lib.hid hD
  clear hP hD
  have cX0 : w3.cell? ⟨w.heap.size, 0, none⟩ = some (.int .i64 Na) := HBXa.out.cell 0
  have cX1 : w3.cell? ⟨w.heap.size, 1, none⟩ = some (.slice Aa wsa.length Ca) := HBXa.out.cell 1
  have lX := HBXa.out.lt
  go_wp2_with (fail)
  refine (rtwin_any Na Aa Ca wsa w3 (Sl.same H.out.ok.wl HS1.out) hroom).mono ?_
  rintro e wb ⟨At, Ct, rfl, hNT⟩
  have hs := hNT.2.2
  have hot := hNT.1
  clear hNT cX0 cX1 lX
  go_wp2_with (fail)
  refine (HP.out At Ct wb ⟨hot.sl ucell_len, H.out.ok.small⟩).mono ?_
  rintro e wc ⟨rfl, hsv⟩
  have hs := hs.trans hsv (fun _ _ h => h)
  clear hot hsv
  replace HBXa := Lib.hid (HBXa.out.frm hs id)
  replace HS1 := Lib.hid (HS1.out.trans hs (fun _ _ h => h))
  clear hs
  have cX0 : wc.cell? ⟨w.heap.size, 0, none⟩ = some (.int .i64 Na) := HBXa.out.cell 0
  have cX1 : wc.cell? ⟨w.heap.size, 1, none⟩ = some (.slice Aa wsa.length Ca) := HBXa.out.cell 1
  have lX := HBXa.out.lt
  go_wp2_with (fail)
  refine (HD.out wc (H.out.ok.same HS1.out)).mono ?_
  rintro e w4 ⟨rfl, hs⟩
  replace HBXa := Lib.hid (HBXa.out.frm hs id)
  replace HS1 := Lib.hid (HS1.out.trans hs (fun _ _ h => h))
  clear hs cX0 cX1 lX
  clear HP HD
  have hP := fun A C w h => Count_any Na A C wsa w h
  have hD := fun w h => docCount_any Na Aa Ca wsa w h
  generalize ((if frm Na wsa = true then popS wsa wsa.length else 0 : Nat) : Int) = p at hP hD
  generalize fmE (frm Na wsa) = q at hP hD
  have HP := Lib.hid hP
  have HD := Lib.hid hD
  clear hP hD
  have cX0 : w4.cell? ⟨w.heap.size, 0, none⟩ = some (.int .i64 Na) := HBXa.out.cell 0
  have cX1 : w4.cell? ⟨w.heap.size, 1, none⟩ = some (.slice Aa wsa.length Ca) := HBXa.out.cell 1
  have lX := HBXa.out.lt
  go_wp2_with (fail)
  refine (rtwin_any Na Aa Ca wsa w4 (Sl.same H.out.ok.wl HS1.out) hroom).mono ?_
  rintro e wb ⟨At, Ct, rfl, hNT⟩
  have hs := hNT.2.2
  have hot := hNT.1
  clear hNT cX0 cX1 lX
  go_wp2_with (fail)
  refine (HP.out At Ct wb ⟨hot.sl ucell_len, H.out.ok.small⟩).mono ?_
  rintro e wc ⟨rfl, hsv⟩
  have hs := hs.trans hsv (fun _ _ h => h)
  clear hot hsv
  replace HBXa := Lib.hid (HBXa.out.frm hs id)
  replace HS1 := Lib.hid (HS1.out.trans hs (fun _ _ h => h))
  clear hs
  have cX0 : wc.cell? ⟨w.heap.size, 0, none⟩ = some (.int .i64 Na) := HBXa.out.cell 0
  have cX1 : wc.cell? ⟨w.heap.size, 1, none⟩ = some (.slice Aa wsa.length Ca) := HBXa.out.cell 1
  have lX := HBXa.out.lt
  go_wp2_with (fail)
  refine (HD.out wc (H.out.ok.same HS1.out)).mono ?_
  rintro e w5 ⟨rfl, hs⟩
  replace HBXa := Lib.hid (HBXa.out.frm hs id)
  replace HS1 := Lib.hid (HS1.out.trans hs (fun _ _ h => h))
  clear hs cX0 cX1 lX
  go_wp2
  go_ret
  exact ⟨rfl, HS1.out.to_below (Nat.le_refl _) (fun _ _ => id)⟩
end Go.Proofs.Ytlggmoghgoeiiaa
