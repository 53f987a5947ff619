/- Truth tables: TruthGives: the walk. -/
import Derived.Test.YtlggmoghgoeiiaaTrAwake
namespace Go.Tk
open Go.RowKit
theorem Sl.map {w : World} {m n : Nat} {α β : Type} {f : β → List Value} {A : Option Addr} {xs : List α} (g : α → β) (h : Sl w m (fun x => f (g x)) A n xs) : Sl w m f A n (xs.map g) :=
  ⟨by rw [List.length_map]; exact h.len, fun i y hy => by
    rw [List.getElem?_map] at hy
    obtain ⟨x, hx, rfl⟩ := Option.map_eq_some_iff.1 hy
    exact h.get i x hx⟩
end Go.Tk
namespace Go.Proofs.Ytlggmoghgoeiiaa
open Go.RowKit Go.Tk

abbrev tKs : List Leaf := [.int .i64, .slice 8 [.int .u64]]
def Tb.cells (t : Tb) : List Value := [.int .i64 t.N, .slice t.A t.ws.length t.C]
/-- a table that came in -/
structure TbIn (w : World) (t : Tb) : Prop where
  ok : TbOk w t
  room : t.ws.length * 8 ≤ 140737488351232
theorem u_of {w : World} : ∀ l, CellsOk w [.int .u64] l → ∃ x : {x : Nat // x < 18446744073709551616}, l = ucell x.1 := by
  rintro l ⟨v, vs, rfl, ⟨x, rfl, hx⟩, rfl⟩
  obtain ⟨h0, h1⟩ := bounds_u64 hx
  obtain ⟨n, rfl⟩ := Int.eq_ofNat_of_zero_le h0
  exact ⟨⟨n, by omega⟩, rfl⟩
theorem tb_of {w : World} : ∀ l, CellsOk w tKs l → ∃ t : {t : Tb // TbIn w t}, l = t.1.cells := by
  rintro l ⟨v, vs, rfl, ⟨N, rfl, _⟩, v2, vs2, rfl, h2, rfl⟩
  obtain ⟨A, n, C, xs, rfl, hnc, _, hb, hs⟩ := slice_ok (fun x : {x : Nat // x < 18446744073709551616} => ucell x.1) (by decide) u_of h2
  have h := Sl.map (f := ucell) Subtype.val hs
  obtain rfl := h.len
  refine ⟨⟨⟨N, A, C, xs.map Subtype.val⟩, ⟨⟨h, fun x hx => ?_⟩, Nat.le_trans (Nat.mul_le_mul_right 8 hnc) hb⟩⟩, rfl⟩
  obtain ⟨y, _, rfl⟩ := List.mem_map.1 hx
  exact y.2
theorem ofE_len {N v : Int} {ws : List Nat} {F : Nat → Bool} : (ansL (tab N.toNat F) (ofE N v ws)).length ≤ 1000000000000000000 := by
  unfold ansL
  split
  · rename_i h
    obtain ⟨n, V, rfl, _, hf, _⟩ := ofE_ok h
    rw [tab_len]
    have := nw_le hf.n16
    have h2 : ((n : Int)).toNat = n := Int.toNat_natCast n
    rw [h2]
    omega
  · simp
theorem sm_self (N : Int) (ws : List Nat) : sm N N ws ws = true := by simp [sm]
set_option maxRecDepth 100000 in
set_option maxHeartbeats 8000000 in
theorem gives_walk (Na : Int) (Aa : Option Addr) (Ca : Nat) (wsa : List Nat) (v : Int) (w : World) (h : TbIn w ⟨Na, Aa, Ca, wsa⟩) : Calls Try.prog 3 #[.agg #[.int .i64 Na, .slice Aa wsa.length Ca], .int .i64 v] w fun e w' => e = .returned (.bool true) ∧ Below w.heap.size w w' := by
  have H := Lib.hid h
  have hroom := h.room
  simp only at hroom
  clear h
  go_enter Try.func3, Try.ntmps3
  go_upto_region 1 with fail
  refine wp_world fun w1 hw1 => ?_
  have hs1 : Same w w1 := by rw [hw1]; exact (Frm.refl _ _).alloc _
  have hBXa : Blk w1 (w.heap.size) 24 #[.int .i64 Na, .slice Aa wsa.length Ca] := by
    rw [hw1]
    have := (Blk.new w 24 #[.int .i64 Na, .slice Aa wsa.length Ca])
    simpa using this
  clear hw1
  have cXa0 : w1.cell? ⟨w.heap.size, 0, none⟩ = some (.int .i64 Na) := hBXa.cell 0
  have cXa1 : w1.cell? ⟨w.heap.size, 1, none⟩ = some (.slice Aa wsa.length Ca) := hBXa.cell 1
  have lXa := hBXa.lt
  have fXa0 := hBXa.free 0
  have fXa1 := hBXa.free 1
  have HBXa := Lib.hid hBXa
  have HS1 := Lib.hid hs1
  clear hs1 hBXa
  go_wp2_with (fail)
  refine (awake_any w1).mono ?_
  rintro e w2 ⟨rfl, hs13⟩
  replace HBXa := Lib.hid (HBXa.out.frm hs13 id)
  replace cXa0 : w2.cell? ⟨w.heap.size, 0, none⟩ = some (.int .i64 Na) := HBXa.out.cell 0
  replace cXa1 : w2.cell? ⟨w.heap.size, 1, none⟩ = some (.slice Aa wsa.length Ca) := HBXa.out.cell 1
  replace lXa := HBXa.out.lt
  replace fXa0 := HBXa.out.free 0
  replace fXa1 := HBXa.out.free 1
  replace HS1 := Lib.hid (HS1.out.trans hs13 (fun _ _ h => h))
  clear hs13
  have hXl := lXa
  go_upto_region 4 with fail
  refine wp_world fun w3 hw3 => ?_
  have hs23 : Same w2 w3 := by rw [hw3]; exact (Frm.refl _ _).alloc _
  have hBL : Blk w3 w2.heap.size 4 #[.bool false, .bool true] := by rw [hw3]; exact Blk.new _ _ _
  clear hw3
  replace HBXa := Lib.hid (HBXa.out.frm hs23 id)
  replace cXa0 : w3.cell? ⟨w.heap.size, 0, none⟩ = some (.int .i64 Na) := HBXa.out.cell 0
  replace cXa1 : w3.cell? ⟨w.heap.size, 1, none⟩ = some (.slice Aa wsa.length Ca) := HBXa.out.cell 1
  replace lXa := HBXa.out.lt
  replace fXa0 := HBXa.out.free 0
  replace fXa1 := HBXa.out.free 1
  replace HS1 := Lib.hid (HS1.out.trans hs23 (fun _ _ h => h))
  clear hs23
  generalize w2.heap.size = L at *
  have HBL := Lib.hid hBL
  clear hBL hXl fXa0 fXa1
  go_wp2
  go_loopw [19] (fun i wr => ∃ k : Nat, k ≤ 2 ∧ i = .int .i64 k ∧ Same w3 wr) (fun i _ => 2 - (intOf i).toNat)
  case atStart => exact ⟨0, by omega, rfl, Frm.refl _ _⟩
  case round =>
    obtain ⟨k, hk, rfl, hs0⟩ := hrel
    replace HBXa := Lib.hid (HBXa.out.frm hs0 id)
    replace HS1 := Lib.hid (HS1.out.trans hs0 (fun _ _ h => h))
    have eL0 : wr.cell? ⟨L, 0, none⟩ = some (.bool false) := (HBL.out.frm hs0 id).cell 0
    have eL1 : wr.cell? ⟨L, 1, none⟩ = some (.bool true) := (HBL.out.frm hs0 id).cell 1
    have lL := (HBL.out.frm hs0 id).lt
    clear cXa0 cXa1 lXa
    obtain rfl | rfl | rfl : k = 0 ∨ k = 1 ∨ k = 2 := by omega
    · rw [show ((0 : Nat) : Int) = 0 from rfl]
      have hP := fun A C w h => Cofactor_any Na A C wsa v false w h
      have hD := fun A C w h => docCofactor_any Na A C wsa v false w h
      have hrl := ofE_len (N := Na) (v := v) (ws := wsa) (F := hfF v.toNat false wsa)
      unfold RetA at hP hD
      generalize ansN Na (ofE Na v wsa) = rn at hP hD
      generalize ansL (tab Na.toNat (hfF v.toNat false wsa)) (ofE Na v wsa) = rws at hP hD hrl
      generalize ofE Na v wsa = re at hP hD
      have HP := Lib.hid hP
      have HD := Lib.hid hD
      clear hP hD
      have cX0 : wr.cell? ⟨w.heap.size, 0, none⟩ = some (.int .i64 Na) := HBXa.out.cell 0
      have cX1 : wr.cell? ⟨w.heap.size, 1, none⟩ = some (.slice Aa wsa.length Ca) := HBXa.out.cell 1
      have lX := HBXa.out.lt
      go_wp2_with (fail)
      refine (rtwin_any Na Aa Ca wsa wr (Sl.same H.out.ok.wl HS1.out) hroom).mono ?_
      rintro e wb ⟨At, Ct, rfl, hNT⟩
      have hs : Same wr wb := hNT.2.2
      have hot := hNT.1
      clear hNT cX0 cX1 lX
      go_wp2_with (fail)
      refine (HP.out At Ct wb ⟨hot.sl ucell_len, H.out.ok.small⟩).mono ?_
      rintro e wc ⟨Ap, Cp, rfl, hNT⟩
      have hs := hs.trans hNT.2.2 (fun _ _ h => h)
      have hop := hNT.1
      clear hNT hot
      have cX0 : wc.cell? ⟨w.heap.size, 0, none⟩ = some (.int .i64 Na) := (HBXa.out.frm hs id).cell 0
      have cX1 : wc.cell? ⟨w.heap.size, 1, none⟩ = some (.slice Aa wsa.length Ca) := (HBXa.out.frm hs id).cell 1
      have lX := (HBXa.out.frm hs id).lt
      go_wp2_with (fail)
      refine call_world fun wd hwd => ?_
      have hsv : Same wc wd := by rw [hwd]; exact (Frm.refl _ _).alloc _
      have hop := Own.frm hop hsv (fun _ _ => id)
      have hs := hs.trans hsv (fun _ _ h => h)
      have hBp : Blk wd wc.heap.size 24 #[.int .i64 rn, .slice Ap rws.length Cp] := by rw [hwd]; exact Blk.new _ _ _
      clear hwd hsv cX0 cX1 lX
      generalize wc.heap.size = Tp at *
      refine (HD.out Aa Ca wd ((H.out.ok).same (HS1.out.trans hs (fun _ _ h => h)))).mono ?_
      rintro e we ⟨Aq, Cq, rfl, hNT⟩
      have hs := hs.trans hNT.2.2 (fun _ _ h => h)
      have hop := Own.frm hop hNT.2.2 (fun _ _ => id)
      have hBp := hBp.frm hNT.2.2 id
      have hoq := hNT.1
      clear hNT
      have hcp0 : we.cell? ⟨Tp, 0, none⟩ = some (.int .i64 rn) := hBp.cell 0
      have hcp1 : we.cell? ⟨Tp, 1, none⟩ = some (.slice Ap rws.length Cp) := hBp.cell 1
      have hlp := hBp.lt
      clear hBp
      go_wp2_with (fail)
      refine call_world fun wf hwf => ?_
      have hsv : Same we wf := by rw [hwf]; exact (Frm.refl _ _).alloc _
      have hop := Own.frm hop hsv (fun _ _ => id)
      have hoq := Own.frm hoq hsv (fun _ _ => id)
      have hs := hs.trans hsv (fun _ _ h => h)
      clear hwf hsv hcp0 hcp1 hlp
      refine (alike_any rn Ap rws.length Cp rws re rn Aq rws.length Cq rws re wf (hop.sl ucell_len) (hoq.sl ucell_len) hrl).mono ?_
      rintro e wg ⟨rfl, hsv⟩
      rw [sm_self, beq_self_eq_true, Bool.and_true]
      have hs := hs.trans hsv (fun _ _ h => h)
      clear hop hoq hsv
      go_wp2
      go_roundw
      case rel => exact ⟨1, by omega, rfl, hs0.trans hs (fun _ _ h => h)⟩
      case measure => simp [intOf]
    · rw [show ((1 : Nat) : Int) = 1 from rfl]
      have hP := fun A C w h => Cofactor_any Na A C wsa v true w h
      have hD := fun A C w h => docCofactor_any Na A C wsa v true w h
      have hrl := ofE_len (N := Na) (v := v) (ws := wsa) (F := hfF v.toNat true wsa)
      unfold RetA at hP hD
      generalize ansN Na (ofE Na v wsa) = rn at hP hD
      generalize ansL (tab Na.toNat (hfF v.toNat true wsa)) (ofE Na v wsa) = rws at hP hD hrl
      generalize ofE Na v wsa = re at hP hD
      have HP := Lib.hid hP
      have HD := Lib.hid hD
      clear hP hD
      have cX0 : wr.cell? ⟨w.heap.size, 0, none⟩ = some (.int .i64 Na) := HBXa.out.cell 0
      have cX1 : wr.cell? ⟨w.heap.size, 1, none⟩ = some (.slice Aa wsa.length Ca) := HBXa.out.cell 1
      have lX := HBXa.out.lt
      go_wp2_with (fail)
      refine (rtwin_any Na Aa Ca wsa wr (Sl.same H.out.ok.wl HS1.out) hroom).mono ?_
      rintro e wb ⟨At, Ct, rfl, hNT⟩
      have hs : Same wr wb := hNT.2.2
      have hot := hNT.1
      clear hNT cX0 cX1 lX
      go_wp2_with (fail)
      refine (HP.out At Ct wb ⟨hot.sl ucell_len, H.out.ok.small⟩).mono ?_
      rintro e wc ⟨Ap, Cp, rfl, hNT⟩
      have hs := hs.trans hNT.2.2 (fun _ _ h => h)
      have hop := hNT.1
      clear hNT hot
      have cX0 : wc.cell? ⟨w.heap.size, 0, none⟩ = some (.int .i64 Na) := (HBXa.out.frm hs id).cell 0
      have cX1 : wc.cell? ⟨w.heap.size, 1, none⟩ = some (.slice Aa wsa.length Ca) := (HBXa.out.frm hs id).cell 1
      have lX := (HBXa.out.frm hs id).lt
      go_wp2_with (fail)
      refine call_world fun wd hwd => ?_
      have hsv : Same wc wd := by rw [hwd]; exact (Frm.refl _ _).alloc _
      have hop := Own.frm hop hsv (fun _ _ => id)
      have hs := hs.trans hsv (fun _ _ h => h)
      have hBp : Blk wd wc.heap.size 24 #[.int .i64 rn, .slice Ap rws.length Cp] := by rw [hwd]; exact Blk.new _ _ _
      clear hwd hsv cX0 cX1 lX
      generalize wc.heap.size = Tp at *
      refine (HD.out Aa Ca wd ((H.out.ok).same (HS1.out.trans hs (fun _ _ h => h)))).mono ?_
      rintro e we ⟨Aq, Cq, rfl, hNT⟩
      have hs := hs.trans hNT.2.2 (fun _ _ h => h)
      have hop := Own.frm hop hNT.2.2 (fun _ _ => id)
      have hBp := hBp.frm hNT.2.2 id
      have hoq := hNT.1
      clear hNT
      have hcp0 : we.cell? ⟨Tp, 0, none⟩ = some (.int .i64 rn) := hBp.cell 0
      have hcp1 : we.cell? ⟨Tp, 1, none⟩ = some (.slice Ap rws.length Cp) := hBp.cell 1
      have hlp := hBp.lt
      clear hBp
      go_wp2_with (fail)
      refine call_world fun wf hwf => ?_
      have hsv : Same we wf := by rw [hwf]; exact (Frm.refl _ _).alloc _
      have hop := Own.frm hop hsv (fun _ _ => id)
      have hoq := Own.frm hoq hsv (fun _ _ => id)
      have hs := hs.trans hsv (fun _ _ h => h)
      clear hwf hsv hcp0 hcp1 hlp
      refine (alike_any rn Ap rws.length Cp rws re rn Aq rws.length Cq rws re wf (hop.sl ucell_len) (hoq.sl ucell_len) hrl).mono ?_
      rintro e wg ⟨rfl, hsv⟩
      rw [sm_self, beq_self_eq_true, Bool.and_true]
      have hs := hs.trans hsv (fun _ _ h => h)
      clear hop hoq hsv
      go_wp2
      go_roundw
      case rel => exact ⟨2, by omega, rfl, hs0.trans hs (fun _ _ h => h)⟩
      case measure => simp [intOf]
    · rw [show ((2 : Nat) : Int) = 2 from rfl]
      have hP := fun A C w h => Exists_any Na A C wsa v w h
      have hD := fun A C w h => docExists_any Na A C wsa v w h
      have hrl := ofE_len (N := Na) (v := v) (ws := wsa) (F := exF v.toNat wsa)
      unfold RetA at hP hD
      generalize ansN Na (ofE Na v wsa) = rn at hP hD
      generalize ansL (tab Na.toNat (exF v.toNat wsa)) (ofE Na v wsa) = rws at hP hD hrl
      generalize ofE Na v wsa = re at hP hD
      have HP := Lib.hid hP
      have HD := Lib.hid hD
      clear hP hD
      have cX0 : wr.cell? ⟨w.heap.size, 0, none⟩ = some (.int .i64 Na) := HBXa.out.cell 0
      have cX1 : wr.cell? ⟨w.heap.size, 1, none⟩ = some (.slice Aa wsa.length Ca) := HBXa.out.cell 1
      have lX := HBXa.out.lt
      go_wp2_with (fail)
      refine (rtwin_any Na Aa Ca wsa wr (Sl.same H.out.ok.wl HS1.out) hroom).mono ?_
      rintro e wb ⟨At, Ct, rfl, hNT⟩
      have hs : Same wr wb := hNT.2.2
      have hot := hNT.1
      clear hNT cX0 cX1 lX
      go_wp2_with (fail)
      refine (HP.out At Ct wb ⟨hot.sl ucell_len, H.out.ok.small⟩).mono ?_
      rintro e wc ⟨Ap, Cp, rfl, hNT⟩
      have hs := hs.trans hNT.2.2 (fun _ _ h => h)
      have hop := hNT.1
      clear hNT hot
      have cX0 : wc.cell? ⟨w.heap.size, 0, none⟩ = some (.int .i64 Na) := (HBXa.out.frm hs id).cell 0
      have cX1 : wc.cell? ⟨w.heap.size, 1, none⟩ = some (.slice Aa wsa.length Ca) := (HBXa.out.frm hs id).cell 1
      have lX := (HBXa.out.frm hs id).lt
      go_wp2_with (fail)
      refine call_world fun wd hwd => ?_
      have hsv : Same wc wd := by rw [hwd]; exact (Frm.refl _ _).alloc _
      have hop := Own.frm hop hsv (fun _ _ => id)
      have hs := hs.trans hsv (fun _ _ h => h)
      have hBp : Blk wd wc.heap.size 24 #[.int .i64 rn, .slice Ap rws.length Cp] := by rw [hwd]; exact Blk.new _ _ _
      clear hwd hsv cX0 cX1 lX
      generalize wc.heap.size = Tp at *
      refine (HD.out Aa Ca wd ((H.out.ok).same (HS1.out.trans hs (fun _ _ h => h)))).mono ?_
      rintro e we ⟨Aq, Cq, rfl, hNT⟩
      have hs := hs.trans hNT.2.2 (fun _ _ h => h)
      have hop := Own.frm hop hNT.2.2 (fun _ _ => id)
      have hBp := hBp.frm hNT.2.2 id
      have hoq := hNT.1
      clear hNT
      have hcp0 : we.cell? ⟨Tp, 0, none⟩ = some (.int .i64 rn) := hBp.cell 0
      have hcp1 : we.cell? ⟨Tp, 1, none⟩ = some (.slice Ap rws.length Cp) := hBp.cell 1
      have hlp := hBp.lt
      clear hBp
      go_wp2_with (fail)
      refine call_world fun wf hwf => ?_
      have hsv : Same we wf := by rw [hwf]; exact (Frm.refl _ _).alloc _
      have hop := Own.frm hop hsv (fun _ _ => id)
      have hoq := Own.frm hoq hsv (fun _ _ => id)
      have hs := hs.trans hsv (fun _ _ h => h)
      clear hwf hsv hcp0 hcp1 hlp
      refine (alike_any rn Ap rws.length Cp rws re rn Aq rws.length Cq rws re wf (hop.sl ucell_len) (hoq.sl ucell_len) hrl).mono ?_
      rintro e wg ⟨rfl, hsv⟩
      rw [sm_self, beq_self_eq_true, Bool.and_true]
      have hs := hs.trans hsv (fun _ _ h => h)
      clear hop hoq hsv
      go_wp2
      go_ret
      exact ⟨rfl, (HS1.out.trans hs (fun _ _ h => h)).to_below (Nat.le_refl _) (fun _ _ => id)⟩
end Go.Proofs.Ytlggmoghgoeiiaa
