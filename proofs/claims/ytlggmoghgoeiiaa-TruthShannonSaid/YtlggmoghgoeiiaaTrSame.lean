/- Truth tables: Same of the reference; the error of a table and a variable. -/
import Derived.Test.YtlggmoghgoeiiaaTrOf
namespace Go.Proofs.Ytlggmoghgoeiiaa
open Go.RowKit Go.Tk

/-- alike -/
def sm (Na Nb : Int) (wsa wsb : List Nat) : Bool := decide (Na = Nb ∧ wsa = wsb)
set_option maxRecDepth 100000 in
set_option maxHeartbeats 4000000 in
theorem same_any (Na : Int) (Aa : Option Addr) (La Ca : Nat) (wsa : List Nat) (Nb : Int) (Ab : Option Addr) (Lb Cb : Nat) (wsb : List Nat) (w : World) (ha : WL w Aa La wsa) (hb : WL w Ab Lb wsb) (hbd : La ≤ 1000000000000000000) :
    Calls Try.prog 35 #[.agg #[.int .i64 Na, .slice Aa La Ca], .agg #[.int .i64 Nb, .slice Ab Lb Cb]] w fun e w' => e = .returned (.bool (sm Na Nb wsa wsb)) ∧ Same w w' := by
  have hla := ha.len
  have hlb := hb.len
  obtain ⟨r, hr⟩ : ∃ r, sm Na Nb wsa wsb = r := ⟨_, rfl⟩
  rw [hr]
  have HA := Lib.hid ha
  have HB := Lib.hid hb
  by_cases h1 : Na = Nb
  · by_cases h2 : La = Lb
    · subst h1 h2
      have HR := Lib.hid hr
      have HLA := Lib.hid hla
      have HLB := Lib.hid hlb
      clear hr hla hlb ha hb
      go_enter Try.func35, Try.ntmps35
      go_upto_region 1 with fail
      refine wp_world fun w1 hw1 => ?_
      have hs1 : Same w w1 := by rw [hw1]; exact ((Frm.refl _ _).alloc _).alloc _
      have hBXa : Blk w1 (w.heap.size) 24 #[.int .i64 Na, .slice Aa La Ca] := by
        rw [hw1]
        have := ((Blk.new w 24 #[.int .i64 Na, .slice Aa La Ca]).alloc (.cells #[.int .i64 Na, .slice Ab La Cb] 24))
        simpa using this
      have hBXb : Blk w1 (w.heap.size + 1) 24 #[.int .i64 Na, .slice Ab La Cb] := by
        rw [hw1]
        have := (Blk.new (w.alloc (.cells #[.int .i64 Na, .slice Aa La Ca] 24)) 24 #[.int .i64 Na, .slice Ab La Cb])
        simpa using this
      clear hw1
      obtain ⟨Xb, hXb⟩ : ∃ b, w.heap.size + 1 = b := ⟨_, rfl⟩
      rw [hXb] at hBXb ⊢
      have leXb : w.heap.size ≤ Xb := by omega
      have neXaXb : w.heap.size ≠ Xb := by omega
      clear hXb
      have cXa0 : w1.cell? ⟨w.heap.size, 0, none⟩ = some (.int .i64 Na) := hBXa.cell 0
      have cXa1 : w1.cell? ⟨w.heap.size, 1, none⟩ = some (.slice Aa La Ca) := hBXa.cell 1
      have lXa := hBXa.lt
      have fXa0 := hBXa.free 0
      have fXa1 := hBXa.free 1
      have HBXa := Lib.hid hBXa
      have cXb0 : w1.cell? ⟨Xb, 0, none⟩ = some (.int .i64 Na) := hBXb.cell 0
      have cXb1 : w1.cell? ⟨Xb, 1, none⟩ = some (.slice Ab La Cb) := hBXb.cell 1
      have lXb := hBXb.lt
      have fXb0 := hBXb.free 0
      have fXb1 := hBXb.free 1
      have HBXb := Lib.hid hBXb
      have HS1 := Lib.hid hs1
      clear hs1 hBXa hBXb
      have HS := Lib.hid HS1.out
      have HBa := Lib.hid HBXa.out
      have HBb := Lib.hid HBXb.out
      go_wp2
      go_loopw [23] (fun i wr => ∃ k : Nat, k ≤ La ∧ i = .int .i64 k ∧ (∀ j x y, wsa[j]? = some x → wsb[j]? = some y → j < k → x = y) ∧ Same w1 wr) (fun i _ => La - (intOf i).toNat)
      case atStart => exact ⟨0, by omega, rfl, fun j x y _ _ h => by omega, Frm.refl _ _⟩
      case round =>
        obtain ⟨k, hk, rfl, hall, hs⟩ := hrel
        have HALL := Lib.hid hall
        have HSR := Lib.hid hs
        clear hall
        by_cases hlt : k < La
        · have hk0 : (0 : Int) ≤ k := by omega
          have hk1 : (k : Int) < La := by omega
          obtain ⟨x, hx⟩ : ∃ x, wsa[k]? = some x := ⟨_, List.getElem?_eq_getElem (by rw [← HLA.out]; exact hlt)⟩
          obtain ⟨y, hy⟩ : ∃ x, wsb[k]? = some x := ⟨_, List.getElem?_eq_getElem (by rw [← HLB.out]; exact hlt)⟩
          obtain ⟨ba, offa, hAa, hbla, hca⟩ := WL.at1 (Sl.same (Sl.same HA.out HS.out) hs) hx
          obtain ⟨bb, offb, hAb, hblb, hcb⟩ := WL.at1 (Sl.same (Sl.same HB.out HS.out) hs) hy
          subst hAa hAb
          have HX := Lib.hid hx
          have HY := Lib.hid hy
          have dXa1 : wr.cell? ⟨w.heap.size, 1, none⟩ = some (.slice (some ⟨ba, offa, none⟩) La Ca) := (HBa.out.frm hs id).cell 1
          have dXb1 : wr.cell? ⟨Xb, 1, none⟩ = some (.slice (some ⟨bb, offb, none⟩) La Cb) := (HBb.out.frm hs id).cell 1
          have mXa := (HBa.out.frm hs id).lt
          have mXb := (HBb.out.frm hs id).lt
          clear hx hy hs cXa1 cXb1 lXa lXb
          by_cases hxy : x = y
          · subst hxy
            have hbq : ((x : Int) != (x : Int)) = false := by simp
            go_upto_region 6 with fail
            refine wp_quiet (by kernel_rfl) (by kernel_rfl) ?_
            repeat (any_goals (first | go_big_quiet_step (fail) | quiet_step (fail)))
            refine wpQuiet_nil ?_
            rintro wq ⟨q, hq⟩
            have hsq : Same wr wq := by rw [hq]; exact more_same _ q
            clear hq
            go_wp2
            go_roundw
            case rel => exact ⟨k + 1, by omega, by go_num, fun j x' y' hx' hy' hj => by
              by_cases hjk : j < k
              · exact HALL.out j x' y' hx' hy' hjk
              · obtain rfl : j = k := by omega
                exact (Option.some.inj (hx'.symm.trans HX.out)).trans (Option.some.inj (hy'.symm.trans HY.out)).symm, HSR.out.trans hsq (fun _ _ h => h)⟩
            case measure => simp [intOf]; omega
          · have hf : r = false := by
              rw [← HR.out]
              unfold sm
              rw [decide_eq_false_iff_not]
              rintro ⟨_, hw⟩
              rw [hw] at HX
              exact hxy (Option.some.inj (HX.out.symm.trans HY.out))
            subst hf
            have hxi : (x : Int) ≠ y := by omega
            go_upto_region 6 with fail
            refine wp_quiet (by kernel_rfl) (by kernel_rfl) ?_
            repeat (any_goals (first | go_big_quiet_step (fail) | quiet_step (fail)))
            refine wpQuiet_nil ?_
            rintro wq ⟨q, hq⟩
            have hsq : Same wr wq := by rw [hq]; exact more_same _ q
            clear hq
            go_wp2
            go_ret
            exact ⟨rfl, (HS.out.trans HSR.out (fun _ _ h => h)).trans hsq (fun _ _ h => h)⟩
        · obtain rfl : k = La := by omega
          have hf : r = true := by
            rw [← HR.out]
            unfold sm
            rw [decide_eq_true_eq]
            refine ⟨rfl, List.ext_getElem? fun j => ?_⟩
            by_cases hj : j < k
            · obtain ⟨x, hx⟩ : ∃ x, wsa[j]? = some x := ⟨_, List.getElem?_eq_getElem (by rw [← HLA.out]; exact hj)⟩
              obtain ⟨y, hy⟩ : ∃ x, wsb[j]? = some x := ⟨_, List.getElem?_eq_getElem (by rw [← HLB.out]; exact hj)⟩
              rw [hx, hy, HALL.out j x y hx hy hj]
            · rw [List.getElem?_eq_none (by rw [← HLA.out]; omega), List.getElem?_eq_none (by rw [← HLB.out]; omega)]
          subst hf
          clear hs
          go_wp2
          go_ret
          exact ⟨rfl, HS.out.trans HSR.out (fun _ _ h => h)⟩
    · have hf : r = false := by
        rw [← hr]
        unfold sm
        rw [decide_eq_false_iff_not]
        rintro ⟨_, hw⟩
        rw [hw] at hla
        omega
      subst h1 hf
      have h3 : (La : Int) ≠ Lb := by omega
      clear hr hla hlb ha hb
      go_enter Try.func35, Try.ntmps35
      go_upto_region 1 with fail
      refine wp_world fun w1 hw1 => ?_
      have hs1 : Same w w1 := by rw [hw1]; exact ((Frm.refl _ _).alloc _).alloc _
      have hBXa : Blk w1 (w.heap.size) 24 #[.int .i64 Na, .slice Aa La Ca] := by
        rw [hw1]
        have := ((Blk.new w 24 #[.int .i64 Na, .slice Aa La Ca]).alloc (.cells #[.int .i64 Na, .slice Ab Lb Cb] 24))
        simpa using this
      have hBXb : Blk w1 (w.heap.size + 1) 24 #[.int .i64 Na, .slice Ab Lb Cb] := by
        rw [hw1]
        have := (Blk.new (w.alloc (.cells #[.int .i64 Na, .slice Aa La Ca] 24)) 24 #[.int .i64 Na, .slice Ab Lb Cb])
        simpa using this
      clear hw1
      obtain ⟨Xb, hXb⟩ : ∃ b, w.heap.size + 1 = b := ⟨_, rfl⟩
      rw [hXb] at hBXb ⊢
      have leXb : w.heap.size ≤ Xb := by omega
      have neXaXb : w.heap.size ≠ Xb := by omega
      clear hXb
      have cXa0 : w1.cell? ⟨w.heap.size, 0, none⟩ = some (.int .i64 Na) := hBXa.cell 0
      have cXa1 : w1.cell? ⟨w.heap.size, 1, none⟩ = some (.slice Aa La Ca) := hBXa.cell 1
      have lXa := hBXa.lt
      have fXa0 := hBXa.free 0
      have fXa1 := hBXa.free 1
      have HBXa := Lib.hid hBXa
      have cXb0 : w1.cell? ⟨Xb, 0, none⟩ = some (.int .i64 Na) := hBXb.cell 0
      have cXb1 : w1.cell? ⟨Xb, 1, none⟩ = some (.slice Ab Lb Cb) := hBXb.cell 1
      have lXb := hBXb.lt
      have fXb0 := hBXb.free 0
      have fXb1 := hBXb.free 1
      have HBXb := Lib.hid hBXb
      have HS1 := Lib.hid hs1
      clear hs1 hBXa hBXb
      go_wp2
      go_ret
      exact ⟨rfl, HS1.out⟩
  · have hf : r = false := by
      rw [← hr]
      unfold sm
      rw [decide_eq_false_iff_not]
      exact fun h => h1 h.1
    subst hf
    clear hr hla hlb ha hb
    go_enter Try.func35, Try.ntmps35
    go_upto_region 1 with fail
    refine wp_world fun w1 hw1 => ?_
    have hs1 : Same w w1 := by rw [hw1]; exact ((Frm.refl _ _).alloc _).alloc _
    have hBXa : Blk w1 (w.heap.size) 24 #[.int .i64 Na, .slice Aa La Ca] := by
      rw [hw1]
      have := ((Blk.new w 24 #[.int .i64 Na, .slice Aa La Ca]).alloc (.cells #[.int .i64 Nb, .slice Ab Lb Cb] 24))
      simpa using this
    have hBXb : Blk w1 (w.heap.size + 1) 24 #[.int .i64 Nb, .slice Ab Lb Cb] := by
      rw [hw1]
      have := (Blk.new (w.alloc (.cells #[.int .i64 Na, .slice Aa La Ca] 24)) 24 #[.int .i64 Nb, .slice Ab Lb Cb])
      simpa using this
    clear hw1
    obtain ⟨Xb, hXb⟩ : ∃ b, w.heap.size + 1 = b := ⟨_, rfl⟩
    rw [hXb] at hBXb ⊢
    have leXb : w.heap.size ≤ Xb := by omega
    have neXaXb : w.heap.size ≠ Xb := by omega
    clear hXb
    have cXa0 : w1.cell? ⟨w.heap.size, 0, none⟩ = some (.int .i64 Na) := hBXa.cell 0
    have cXa1 : w1.cell? ⟨w.heap.size, 1, none⟩ = some (.slice Aa La Ca) := hBXa.cell 1
    have lXa := hBXa.lt
    have fXa0 := hBXa.free 0
    have fXa1 := hBXa.free 1
    have HBXa := Lib.hid hBXa
    have cXb0 : w1.cell? ⟨Xb, 0, none⟩ = some (.int .i64 Nb) := hBXb.cell 0
    have cXb1 : w1.cell? ⟨Xb, 1, none⟩ = some (.slice Ab Lb Cb) := hBXb.cell 1
    have lXb := hBXb.lt
    have fXb0 := hBXb.free 0
    have fXb1 := hBXb.free 1
    have HBXb := Lib.hid hBXb
    have HS1 := Lib.hid hs1
    clear hs1 hBXa hBXb
    go_wp2
    go_ret
    exact ⟨rfl, HS1.out⟩
set_option maxHeartbeats 2000000 in
theorem variable_any (N : Int) (A : Option Addr) (C : Nat) (ws : List Nat) (v : Int) (w : World) (h : TbOk w ⟨N, A, C, ws⟩) :
    Calls Try.prog 53 #[.agg #[.int .i64 N, .slice A ws.length C], .int .i64 v] w fun e w' => e = .returned (.int .i64 (ofE N v ws)) ∧ Same w w' := by
  have H := Lib.hid h
  clear h
  unfold ofE
  obtain ⟨r, hr⟩ : ∃ r, frm N ws = r := ⟨_, rfl⟩
  have hform := fun (w' : World) (hs : Same w w') => rForm_any N A _ C ws w' (Sl.same H.out.wl hs) H.out.small
  rw [hr] at hform ⊢
  have HF := Lib.hid hform
  clear hr hform
  have hv : r = false ∨ (r = true ∧ v < 0) ∨ (r = true ∧ ¬ v < 0 ∧ v ≥ N) ∨ (r = true ∧ ¬ v < 0 ∧ ¬ v ≥ N) := by cases r <;> simp <;> omega
  rcases hv with rfl | ⟨rfl, h1⟩ | ⟨rfl, h1, h2⟩ | ⟨rfl, h1, h2⟩
  · rw [if_neg (by decide)]
    go_enter Try.func53, Try.ntmps53
    go_upto_region 1 with fail
    refine wp_world fun w1 hw1 => ?_
    have hs1 : Same w w1 := by rw [hw1]; exact (Frm.refl _ _).alloc _
    have hBXa : Blk w1 (w.heap.size) 24 #[.int .i64 N, .slice A ws.length C] := by
      rw [hw1]
      have := (Blk.new w 24 #[.int .i64 N, .slice A ws.length C])
      simpa using this
    clear hw1
    have cXa0 : w1.cell? ⟨w.heap.size, 0, none⟩ = some (.int .i64 N) := hBXa.cell 0
    have cXa1 : w1.cell? ⟨w.heap.size, 1, none⟩ = some (.slice A ws.length C) := hBXa.cell 1
    have lXa := hBXa.lt
    have fXa0 := hBXa.free 0
    have fXa1 := hBXa.free 1
    have HBXa := Lib.hid hBXa
    have HS1 := Lib.hid hs1
    clear hs1 hBXa
    go_wp2_with (fail)
    refine (HF.out w1 HS1.out).mono ?_
    rintro e w3 ⟨rfl, hs13⟩
    have HBX3 := Lib.hid (HBXa.out.frm hs13 id)
    have dXa0 : w3.cell? ⟨w.heap.size, 0, none⟩ = some (.int .i64 N) := HBX3.out.cell 0
    have lX3 := HBX3.out.lt
    have HS3 := Lib.hid (HS1.out.trans hs13 (fun _ _ h => h))
    clear hs13 cXa0 cXa1 fXa0 fXa1 lXa
    go_wp2
    go_ret
    exact ⟨rfl, HS3.out⟩
  · rw [if_pos rfl, if_pos (.inl h1)]
    go_enter Try.func53, Try.ntmps53
    go_upto_region 1 with fail
    refine wp_world fun w1 hw1 => ?_
    have hs1 : Same w w1 := by rw [hw1]; exact (Frm.refl _ _).alloc _
    have hBXa : Blk w1 (w.heap.size) 24 #[.int .i64 N, .slice A ws.length C] := by
      rw [hw1]
      have := (Blk.new w 24 #[.int .i64 N, .slice A ws.length C])
      simpa using this
    clear hw1
    have cXa0 : w1.cell? ⟨w.heap.size, 0, none⟩ = some (.int .i64 N) := hBXa.cell 0
    have cXa1 : w1.cell? ⟨w.heap.size, 1, none⟩ = some (.slice A ws.length C) := hBXa.cell 1
    have lXa := hBXa.lt
    have fXa0 := hBXa.free 0
    have fXa1 := hBXa.free 1
    have HBXa := Lib.hid hBXa
    have HS1 := Lib.hid hs1
    clear hs1 hBXa
    go_wp2_with (fail)
    refine (HF.out w1 HS1.out).mono ?_
    rintro e w3 ⟨rfl, hs13⟩
    have HBX3 := Lib.hid (HBXa.out.frm hs13 id)
    have dXa0 : w3.cell? ⟨w.heap.size, 0, none⟩ = some (.int .i64 N) := HBX3.out.cell 0
    have lX3 := HBX3.out.lt
    have HS3 := Lib.hid (HS1.out.trans hs13 (fun _ _ h => h))
    clear hs13 cXa0 cXa1 fXa0 fXa1 lXa
    go_wp2
    go_ret
    exact ⟨rfl, HS3.out⟩
  · rw [if_pos rfl, if_pos (.inr (by omega))]
    go_enter Try.func53, Try.ntmps53
    go_upto_region 1 with fail
    refine wp_world fun w1 hw1 => ?_
    have hs1 : Same w w1 := by rw [hw1]; exact (Frm.refl _ _).alloc _
    have hBXa : Blk w1 (w.heap.size) 24 #[.int .i64 N, .slice A ws.length C] := by
      rw [hw1]
      have := (Blk.new w 24 #[.int .i64 N, .slice A ws.length C])
      simpa using this
    clear hw1
    have cXa0 : w1.cell? ⟨w.heap.size, 0, none⟩ = some (.int .i64 N) := hBXa.cell 0
    have cXa1 : w1.cell? ⟨w.heap.size, 1, none⟩ = some (.slice A ws.length C) := hBXa.cell 1
    have lXa := hBXa.lt
    have fXa0 := hBXa.free 0
    have fXa1 := hBXa.free 1
    have HBXa := Lib.hid hBXa
    have HS1 := Lib.hid hs1
    clear hs1 hBXa
    go_wp2_with (fail)
    refine (HF.out w1 HS1.out).mono ?_
    rintro e w3 ⟨rfl, hs13⟩
    have HBX3 := Lib.hid (HBXa.out.frm hs13 id)
    have dXa0 : w3.cell? ⟨w.heap.size, 0, none⟩ = some (.int .i64 N) := HBX3.out.cell 0
    have lX3 := HBX3.out.lt
    have HS3 := Lib.hid (HS1.out.trans hs13 (fun _ _ h => h))
    clear hs13 cXa0 cXa1 fXa0 fXa1 lXa
    go_wp2
    go_ret
    exact ⟨rfl, HS3.out⟩
  · rw [if_pos rfl, if_neg (by omega)]
    go_enter Try.func53, Try.ntmps53
    go_upto_region 1 with fail
    refine wp_world fun w1 hw1 => ?_
    have hs1 : Same w w1 := by rw [hw1]; exact (Frm.refl _ _).alloc _
    have hBXa : Blk w1 (w.heap.size) 24 #[.int .i64 N, .slice A ws.length C] := by
      rw [hw1]
      have := (Blk.new w 24 #[.int .i64 N, .slice A ws.length C])
      simpa using this
    clear hw1
    have cXa0 : w1.cell? ⟨w.heap.size, 0, none⟩ = some (.int .i64 N) := hBXa.cell 0
    have cXa1 : w1.cell? ⟨w.heap.size, 1, none⟩ = some (.slice A ws.length C) := hBXa.cell 1
    have lXa := hBXa.lt
    have fXa0 := hBXa.free 0
    have fXa1 := hBXa.free 1
    have HBXa := Lib.hid hBXa
    have HS1 := Lib.hid hs1
    clear hs1 hBXa
    go_wp2_with (fail)
    refine (HF.out w1 HS1.out).mono ?_
    rintro e w3 ⟨rfl, hs13⟩
    have HBX3 := Lib.hid (HBXa.out.frm hs13 id)
    have dXa0 : w3.cell? ⟨w.heap.size, 0, none⟩ = some (.int .i64 N) := HBX3.out.cell 0
    have lX3 := HBX3.out.lt
    have HS3 := Lib.hid (HS1.out.trans hs13 (fun _ _ h => h))
    clear hs13 cXa0 cXa1 fXa0 fXa1 lXa
    go_wp2
    go_ret
    exact ⟨rfl, HS3.out⟩
end Go.Proofs.Ytlggmoghgoeiiaa
