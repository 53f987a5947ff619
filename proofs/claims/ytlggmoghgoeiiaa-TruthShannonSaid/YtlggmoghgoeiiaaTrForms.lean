/- Truth tables: TruthForms: the walk. -/
import Derived.Test.YtlggmoghgoeiiaaTrDoc2
namespace Go.Proofs.Ytlggmoghgoeiiaa
open Go.RowKit Go.Tk

theorem tab_len_le {n : Nat} {F : Nat → Bool} (h : n ≤ 16) : (tab n F).length ≤ 1000000000000000000 := by
  rw [tab_len]
  have := nw_le h
  omega
theorem cntE_len {N : Int} {F : Nat → Bool} : (ansL (tab N.toNat F) (cntE N)).length ≤ 1000000000000000000 := by
  unfold ansL
  split
  · rename_i h
    have := cntE_ok h
    exact tab_len_le (by omega)
  · simp
theorem varE_len {N v : Int} {F : Nat → Bool} : (ansL (tab N.toNat F) (varE N v)).length ≤ 1000000000000000000 := by
  unfold ansL
  split
  · rename_i h
    unfold varE at h
    split at h
    · rename_i h2; exact absurd h h2
    · rename_i h2
      have := cntE_ok (Decidable.not_not.1 h2)
      exact tab_len_le (by omega)
  · simp
set_option maxRecDepth 100000 in
set_option maxHeartbeats 8000000 in
theorem forms_walk (Na : Int) (Aa : Option Addr) (Ca : Nat) (wsa : List Nat) (n v : Int) (w : World) (h : TbIn w ⟨Na, Aa, Ca, wsa⟩) : Calls Try.prog 5 #[.agg #[.int .i64 Na, .slice Aa wsa.length Ca], .int .i64 n, .int .i64 v] w fun e w' => e = .returned (.bool true) ∧ Below w.heap.size w w' := by
  have H := Lib.hid h
  have hroom := h.room
  simp only at hroom
  have hfp := fun (w' : World) (A : Option Addr) (C : Nat) (h : WL w' A wsa.length wsa) => Form_any Na A _ C wsa w' h H.out.ok.small
  have hfr := fun (w' : World) (h : WL w' Aa wsa.length wsa) => rForm_any Na Aa _ Ca wsa w' h H.out.ok.small
  obtain ⟨fr, hfe⟩ : ∃ r, frm Na wsa = r := ⟨_, rfl⟩
  rw [hfe] at hfp hfr
  have HFP := Lib.hid hfp
  have HFR := Lib.hid hfr
  clear h hfp hfr hfe
  go_enter Try.func5, Try.ntmps5
  go_upto_region 1 with fail
  refine wp_world fun w1 hw1 => ?_
  have hs1 : Same w w1 := by rw [hw1]; exact (Frm.refl _ _).alloc _
  have hBXa : Blk w1 (w.heap.size) 24 #[.int .i64 Na, .slice Aa wsa.length Ca] := by
    rw [hw1]
    have := (Blk.new w 24 #[.int .i64 Na, .slice Aa wsa.length Ca])
    simpa using this
  clear hw1
  have cXa0 : w1.cell? ⟨w.heap.size, 0, none⟩ = some (.int .i64 Na) := hBXa.cell 0
  have cXa1 : w1.cell? ⟨w.heap.size, 1, none⟩ = some (.slice Aa wsa.length Ca) := hBXa.cell 1
  have lXa := hBXa.lt
  have fXa0 := hBXa.free 0
  have fXa1 := hBXa.free 1
  have HBXa := Lib.hid hBXa
  have HS1 := Lib.hid hs1
  clear hs1 hBXa
  refine wp_phS (fun _ => False) [([], 0), ([1, 2, 3, 6], 4), ([], 5), ([], 7), ([8], 9)] (by kernel_rfl) (by kernel_rfl) ?_
  simp only [wpPh, pick, List.map_cons, List.map_nil, List.getD_cons_zero, List.getD_cons_succ]
  have hs : Same w1 w1.drew := (Frm.refl _ _).drew
  repeat (any_goals (first | go_big_quiet_step (fail) | quiet_step (fail)))
  refine wpQuiet_nil ?_
  refine effStep_plain rfl fun K hK => ?_
  go_simp
  refine (awake_any _).mono ?_
  rintro e u1 ⟨rfl, hsz⟩
  have hs := hs.trans hsz (fun _ _ h => h)
  refine hK _ _ (Lat.mk_ (Frm.mono hs (fun _ _ h => h.elim))) ?_
  clear hK K hsz
  repeat (any_goals (first | go_big_quiet_step (fail) | quiet_step (fail)))
  refine wpQuiet_nil ?_
  refine effStep_on (by rfl) fun K hK => ?_
  go_simp
  refine (rtwin_any Na Aa Ca wsa _ (Sl.same H.out.ok.wl (HS1.out.trans hs (fun _ _ h => h))) hroom).mono ?_
  rintro e u2 ⟨At, Ct, rfl, hNT⟩
  have hs := hs.trans hNT.2.2 (fun _ _ h => h)
  have hot := hNT.1
  refine hK _ _ (Lat.mk_ (Frm.mono hs (fun _ _ h => h.elim))) ?_
  clear hK K hNT
  repeat (any_goals (first | go_big_quiet_step (fail) | quiet_step (fail)))
  refine wpQuiet_nil ?_
  refine effStep_on (by rfl) fun K hK => ?_
  go_simp
  refine (HFP.out _ At Ct (hot.sl ucell_len)).mono ?_
  rintro e u3 ⟨rfl, hsz⟩
  have hs := hs.trans hsz (fun _ _ h => h)
  refine hK _ _ (Lat.mk_ (Frm.mono hs (fun _ _ h => h.elim))) ?_
  clear hK K hsz hot
  repeat (any_goals (first | go_big_quiet_step (fail) | quiet_step (fail)))
  refine wpQuiet_nil ?_
  refine effStep_on (by rfl) fun K hK => ?_
  go_simp
  refine (HFR.out _ (Sl.same H.out.ok.wl (HS1.out.trans hs (fun _ _ h => h)))).mono ?_
  rintro e u4 ⟨rfl, hsz⟩
  have hs13 := hs.trans hsz (fun _ _ h => h)
  refine hK _ _ (Lat.mk_ (Frm.mono hs13 (fun _ _ h => h.elim))) ?_
  have hbe : (fr != fr) = false := by cases fr <;> rfl
  clear hK K hsz hs
  replace HBXa := Lib.hid (HBXa.out.frm hs13 id)
  replace cXa0 : u4.cell? ⟨w.heap.size, 0, none⟩ = some (.int .i64 Na) := HBXa.out.cell 0
  replace cXa1 : u4.cell? ⟨w.heap.size, 1, none⟩ = some (.slice Aa wsa.length Ca) := HBXa.out.cell 1
  replace lXa := HBXa.out.lt
  replace fXa0 := HBXa.out.free 0
  replace fXa1 := HBXa.out.free 1
  replace HS1 := Lib.hid (HS1.out.trans hs13 (fun _ _ h => h))
  clear hs13
  repeat (any_goals (first | go_big_quiet_step (fail) | quiet_step (fail)))
  refine wpQuiet_nil ?_
  go_upto_region 4 with fail
  refine wp_world fun w3 hw3 => ?_
  have hs23 : Same u4 w3 := by rw [hw3]; exact (Frm.refl _ _).alloc _
  have hBL : Blk w3 u4.heap.size 4 #[.bool false, .bool true] := by rw [hw3]; exact Blk.new _ _ _
  clear hw3
  replace HS1 := Lib.hid (HS1.out.trans hs23 (fun _ _ h => h))
  generalize u4.heap.size = L at *
  have HBL := Lib.hid hBL
  clear hBL hs23 fXa0 fXa1 cXa0 cXa1 lXa HBXa
  go_wp2
  go_loopw [29] (fun i wr => ∃ k : Nat, k ≤ 2 ∧ i = .int .i64 k ∧ Same w3 wr) (fun i _ => 2 - (intOf i).toNat)
  case atStart => exact ⟨0, by omega, rfl, Frm.refl _ _⟩
  case round =>
    obtain ⟨k, hk, rfl, hs0⟩ := hrel
    replace HS1 := Lib.hid (HS1.out.trans hs0 (fun _ _ h => h))
    have eL0 : wr.cell? ⟨L, 0, none⟩ = some (.bool false) := (HBL.out.frm hs0 id).cell 0
    have eL1 : wr.cell? ⟨L, 1, none⟩ = some (.bool true) := (HBL.out.frm hs0 id).cell 1
    have lL := (HBL.out.frm hs0 id).lt
    obtain rfl | rfl | rfl : k = 0 ∨ k = 1 ∨ k = 2 := by omega
    · rw [show ((0 : Nat) : Int) = 0 from rfl]
      have hP := fun w => Const_any n false w
      have hD := fun w => docConst_any n false w
      have hrl := cntE_len (N := n) (F := fun _ => false)
      unfold RetA at hP hD
      generalize ansN n (cntE n) = rn at hP hD
      generalize ansL (tab n.toNat (fun _ => false)) (cntE n) = rws at hP hD hrl
      generalize cntE n = re at hP hD
      have HP := Lib.hid hP
      have HD := Lib.hid hD
      clear hP hD
      go_wp2_with (fail)
      refine (HP.out wr).mono ?_
      rintro e wc ⟨Ap, Cp, rfl, hNT⟩
      have hs := hNT.2.2
      have hop := hNT.1
      clear hNT
      go_wp2_with (fail)
      refine call_world fun wd hwd => ?_
      have hsv : Same wc wd := by rw [hwd]; exact (Frm.refl _ _).alloc _
      have hop := Own.frm hop hsv (fun _ _ => id)
      have hs := hs.trans hsv (fun _ _ h => h)
      have hBp : Blk wd wc.heap.size 24 #[.int .i64 rn, .slice Ap rws.length Cp] := by rw [hwd]; exact Blk.new _ _ _
      clear hwd hsv
      generalize wc.heap.size = Tp at *
      refine (HD.out wd).mono ?_
      rintro e we ⟨Aq, Cq, rfl, hNT⟩
      have hs := hs.trans hNT.2.2 (fun _ _ h => h)
      have hop := Own.frm hop hNT.2.2 (fun _ _ => id)
      have hBp := hBp.frm hNT.2.2 id
      have hoq := hNT.1
      clear hNT
      have hcp0 : we.cell? ⟨Tp, 0, none⟩ = some (.int .i64 rn) := hBp.cell 0
      have hcp1 : we.cell? ⟨Tp, 1, none⟩ = some (.slice Ap rws.length Cp) := hBp.cell 1
      have hlp := hBp.lt
      clear hBp
      go_wp2_with (fail)
      refine call_world fun wf hwf => ?_
      have hsv : Same we wf := by rw [hwf]; exact (Frm.refl _ _).alloc _
      have hop := Own.frm hop hsv (fun _ _ => id)
      have hoq := Own.frm hoq hsv (fun _ _ => id)
      have hs := hs.trans hsv (fun _ _ h => h)
      clear hwf hsv hcp0 hcp1 hlp
      refine (alike_any rn Ap rws.length Cp rws re rn Aq rws.length Cq rws re wf (hop.sl ucell_len) (hoq.sl ucell_len) hrl).mono ?_
      rintro e wg ⟨rfl, hsv⟩
      rw [sm_self, beq_self_eq_true, Bool.and_true]
      have hs := hs.trans hsv (fun _ _ h => h)
      clear hop hoq hsv
      go_wp2
      go_roundw
      case rel => exact ⟨1, by omega, rfl, hs0.trans hs (fun _ _ h => h)⟩
      case measure => simp [intOf]
    · rw [show ((1 : Nat) : Int) = 1 from rfl]
      have hP := fun w => Const_any n true w
      have hD := fun w => docConst_any n true w
      have hrl := cntE_len (N := n) (F := fun _ => true)
      unfold RetA at hP hD
      generalize ansN n (cntE n) = rn at hP hD
      generalize ansL (tab n.toNat (fun _ => true)) (cntE n) = rws at hP hD hrl
      generalize cntE n = re at hP hD
      have HP := Lib.hid hP
      have HD := Lib.hid hD
      clear hP hD
      go_wp2_with (fail)
      refine (HP.out wr).mono ?_
      rintro e wc ⟨Ap, Cp, rfl, hNT⟩
      have hs := hNT.2.2
      have hop := hNT.1
      clear hNT
      go_wp2_with (fail)
      refine call_world fun wd hwd => ?_
      have hsv : Same wc wd := by rw [hwd]; exact (Frm.refl _ _).alloc _
      have hop := Own.frm hop hsv (fun _ _ => id)
      have hs := hs.trans hsv (fun _ _ h => h)
      have hBp : Blk wd wc.heap.size 24 #[.int .i64 rn, .slice Ap rws.length Cp] := by rw [hwd]; exact Blk.new _ _ _
      clear hwd hsv
      generalize wc.heap.size = Tp at *
      refine (HD.out wd).mono ?_
      rintro e we ⟨Aq, Cq, rfl, hNT⟩
      have hs := hs.trans hNT.2.2 (fun _ _ h => h)
      have hop := Own.frm hop hNT.2.2 (fun _ _ => id)
      have hBp := hBp.frm hNT.2.2 id
      have hoq := hNT.1
      clear hNT
      have hcp0 : we.cell? ⟨Tp, 0, none⟩ = some (.int .i64 rn) := hBp.cell 0
      have hcp1 : we.cell? ⟨Tp, 1, none⟩ = some (.slice Ap rws.length Cp) := hBp.cell 1
      have hlp := hBp.lt
      clear hBp
      go_wp2_with (fail)
      refine call_world fun wf hwf => ?_
      have hsv : Same we wf := by rw [hwf]; exact (Frm.refl _ _).alloc _
      have hop := Own.frm hop hsv (fun _ _ => id)
      have hoq := Own.frm hoq hsv (fun _ _ => id)
      have hs := hs.trans hsv (fun _ _ h => h)
      clear hwf hsv hcp0 hcp1 hlp
      refine (alike_any rn Ap rws.length Cp rws re rn Aq rws.length Cq rws re wf (hop.sl ucell_len) (hoq.sl ucell_len) hrl).mono ?_
      rintro e wg ⟨rfl, hsv⟩
      rw [sm_self, beq_self_eq_true, Bool.and_true]
      have hs := hs.trans hsv (fun _ _ h => h)
      clear hop hoq hsv
      go_wp2
      go_roundw
      case rel => exact ⟨2, by omega, rfl, hs0.trans hs (fun _ _ h => h)⟩
      case measure => simp [intOf]
    · rw [show ((2 : Nat) : Int) = 2 from rfl]
      have hP := fun w => Var_any n v w
      have hD := fun w => docVar_any n v w
      have hrl := varE_len (N := n) (v := v) (F := varF v.toNat)
      unfold RetA at hP hD
      generalize ansN n (varE n v) = rn at hP hD
      generalize ansL (tab n.toNat (varF v.toNat)) (varE n v) = rws at hP hD hrl
      generalize varE n v = re at hP hD
      have HP := Lib.hid hP
      have HD := Lib.hid hD
      clear hP hD
      go_wp2_with (fail)
      refine (HP.out wr).mono ?_
      rintro e wc ⟨Ap, Cp, rfl, hNT⟩
      have hs := hNT.2.2
      have hop := hNT.1
      clear hNT
      go_wp2_with (fail)
      refine call_world fun wd hwd => ?_
      have hsv : Same wc wd := by rw [hwd]; exact (Frm.refl _ _).alloc _
      have hop := Own.frm hop hsv (fun _ _ => id)
      have hs := hs.trans hsv (fun _ _ h => h)
      have hBp : Blk wd wc.heap.size 24 #[.int .i64 rn, .slice Ap rws.length Cp] := by rw [hwd]; exact Blk.new _ _ _
      clear hwd hsv
      generalize wc.heap.size = Tp at *
      refine (HD.out wd).mono ?_
      rintro e we ⟨Aq, Cq, rfl, hNT⟩
      have hs := hs.trans hNT.2.2 (fun _ _ h => h)
      have hop := Own.frm hop hNT.2.2 (fun _ _ => id)
      have hBp := hBp.frm hNT.2.2 id
      have hoq := hNT.1
      clear hNT
      have hcp0 : we.cell? ⟨Tp, 0, none⟩ = some (.int .i64 rn) := hBp.cell 0
      have hcp1 : we.cell? ⟨Tp, 1, none⟩ = some (.slice Ap rws.length Cp) := hBp.cell 1
      have hlp := hBp.lt
      clear hBp
      go_wp2_with (fail)
      refine call_world fun wf hwf => ?_
      have hsv : Same we wf := by rw [hwf]; exact (Frm.refl _ _).alloc _
      have hop := Own.frm hop hsv (fun _ _ => id)
      have hoq := Own.frm hoq hsv (fun _ _ => id)
      have hs := hs.trans hsv (fun _ _ h => h)
      clear hwf hsv hcp0 hcp1 hlp
      refine (alike_any rn Ap rws.length Cp rws re rn Aq rws.length Cq rws re wf (hop.sl ucell_len) (hoq.sl ucell_len) hrl).mono ?_
      rintro e wg ⟨rfl, hsv⟩
      rw [sm_self, beq_self_eq_true, Bool.and_true]
      have hs := hs.trans hsv (fun _ _ h => h)
      clear hop hoq hsv
      go_wp2
      go_ret
      exact ⟨rfl, (HS1.out.trans hs (fun _ _ h => h)).to_below (Nat.le_refl _) (fun _ _ => id)⟩
end Go.Proofs.Ytlggmoghgoeiiaa
