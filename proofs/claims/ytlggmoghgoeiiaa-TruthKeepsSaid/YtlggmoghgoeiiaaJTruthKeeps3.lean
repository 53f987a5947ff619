/- Contracts and plain laws, put together in one file. No condition. -/
import Derived.Test.YtlggmoghgoeiiaaJTruthKeeps2


/- Truth tables: Same of the reference; the error of a table and a variable. -/
namespace Go.Proofs.Ytlggmoghgoeiiaa
open Go.RowKit Go.Tk

/-- alike -/
def sm (Na Nb : Int) (wsa wsb : List Nat) : Bool := decide (Na = Nb ∧ wsa = wsb)
set_option maxRecDepth 100000 in
set_option maxHeartbeats 4000000 in
theorem same_any (Na : Int) (Aa : Option Addr) (La Ca : Nat) (wsa : List Nat) (Nb : Int) (Ab : Option Addr) (Lb Cb : Nat) (wsb : List Nat) (w : World) (ha : WL w Aa La wsa) (hb : WL w Ab Lb wsb) (hbd : La ≤ 1000000000000000000) :
    Calls Try.prog 35 #[.agg #[.int .i64 Na, .slice Aa La Ca], .agg #[.int .i64 Nb, .slice Ab Lb Cb]] w fun e w' => e = .returned (.bool (sm Na Nb wsa wsb)) ∧ Same w w' := by
  have hla := ha.len
  have hlb := hb.len
  obtain ⟨r, hr⟩ : ∃ r, sm Na Nb wsa wsb = r := ⟨_, rfl⟩
  rw [hr]
  have HA := Lib.hid ha
  have HB := Lib.hid hb
  by_cases h1 : Na = Nb
  · by_cases h2 : La = Lb
    · subst h1 h2
      have HR := Lib.hid hr
      have HLA := Lib.hid hla
      have HLB := Lib.hid hlb
      clear hr hla hlb ha hb
      go_enter Try.func35, Try.ntmps35
      go_upto_region 1 with fail
      refine wp_world fun w1 hw1 => ?_
      have hs1 : Same w w1 := by rw [hw1]; exact ((Frm.refl _ _).alloc _).alloc _
      have hBXa : Blk w1 (w.heap.size) 24 #[.int .i64 Na, .slice Aa La Ca] := by
        rw [hw1]
        have := ((Blk.new w 24 #[.int .i64 Na, .slice Aa La Ca]).alloc (.cells #[.int .i64 Na, .slice Ab La Cb] 24))
        simpa using this
      have hBXb : Blk w1 (w.heap.size + 1) 24 #[.int .i64 Na, .slice Ab La Cb] := by
        rw [hw1]
        have := (Blk.new (w.alloc (.cells #[.int .i64 Na, .slice Aa La Ca] 24)) 24 #[.int .i64 Na, .slice Ab La Cb])
        simpa using this
      clear hw1
      obtain ⟨Xb, hXb⟩ : ∃ b, w.heap.size + 1 = b := ⟨_, rfl⟩
      rw [hXb] at hBXb ⊢
      have leXb : w.heap.size ≤ Xb := by omega
      have neXaXb : w.heap.size ≠ Xb := by omega
      clear hXb
      have cXa0 : w1.cell? ⟨w.heap.size, 0, none⟩ = some (.int .i64 Na) := hBXa.cell 0
      have cXa1 : w1.cell? ⟨w.heap.size, 1, none⟩ = some (.slice Aa La Ca) := hBXa.cell 1
      have lXa := hBXa.lt
      have fXa0 := hBXa.free 0
      have fXa1 := hBXa.free 1
      have HBXa := Lib.hid hBXa
      have cXb0 : w1.cell? ⟨Xb, 0, none⟩ = some (.int .i64 Na) := hBXb.cell 0
      have cXb1 : w1.cell? ⟨Xb, 1, none⟩ = some (.slice Ab La Cb) := hBXb.cell 1
      have lXb := hBXb.lt
      have fXb0 := hBXb.free 0
      have fXb1 := hBXb.free 1
      have HBXb := Lib.hid hBXb
      have HS1 := Lib.hid hs1
      clear hs1 hBXa hBXb
      have HS := Lib.hid HS1.out
      have HBa := Lib.hid HBXa.out
      have HBb := Lib.hid HBXb.out
      go_wp2
      go_loopw [23] (fun i wr => ∃ k : Nat, k ≤ La ∧ i = .int .i64 k ∧ (∀ j x y, wsa[j]? = some x → wsb[j]? = some y → j < k → x = y) ∧ Same w1 wr) (fun i _ => La - (intOf i).toNat)
      case atStart => exact ⟨0, by omega, rfl, fun j x y _ _ h => by omega, Frm.refl _ _⟩
      case round =>
        obtain ⟨k, hk, rfl, hall, hs⟩ := hrel
        have HALL := Lib.hid hall
        have HSR := Lib.hid hs
        clear hall
        by_cases hlt : k < La
        · have hk0 : (0 : Int) ≤ k := by omega
          have hk1 : (k : Int) < La := by omega
          obtain ⟨x, hx⟩ : ∃ x, wsa[k]? = some x := ⟨_, List.getElem?_eq_getElem (by rw [← HLA.out]; exact hlt)⟩
          obtain ⟨y, hy⟩ : ∃ x, wsb[k]? = some x := ⟨_, List.getElem?_eq_getElem (by rw [← HLB.out]; exact hlt)⟩
          obtain ⟨ba, offa, hAa, hbla, hca⟩ := WL.at1 (Sl.same (Sl.same HA.out HS.out) hs) hx
          obtain ⟨bb, offb, hAb, hblb, hcb⟩ := WL.at1 (Sl.same (Sl.same HB.out HS.out) hs) hy
          subst hAa hAb
          have HX := Lib.hid hx
          have HY := Lib.hid hy
          have dXa1 : wr.cell? ⟨w.heap.size, 1, none⟩ = some (.slice (some ⟨ba, offa, none⟩) La Ca) := (HBa.out.frm hs id).cell 1
          have dXb1 : wr.cell? ⟨Xb, 1, none⟩ = some (.slice (some ⟨bb, offb, none⟩) La Cb) := (HBb.out.frm hs id).cell 1
          have mXa := (HBa.out.frm hs id).lt
          have mXb := (HBb.out.frm hs id).lt
          clear hx hy hs cXa1 cXb1 lXa lXb
          by_cases hxy : x = y
          · subst hxy
            have hbq : ((x : Int) != (x : Int)) = false := by simp
            go_upto_region 6 with fail
            refine wp_quiet (by kernel_rfl) (by kernel_rfl) ?_
            repeat (any_goals (first | go_big_quiet_step (fail) | quiet_step (fail)))
            refine wpQuiet_nil ?_
            rintro wq ⟨q, hq⟩
            have hsq : Same wr wq := by rw [hq]; exact more_same _ q
            clear hq
            go_wp2
            go_roundw
            case rel => exact ⟨k + 1, by omega, by go_num, fun j x' y' hx' hy' hj => by
              by_cases hjk : j < k
              · exact HALL.out j x' y' hx' hy' hjk
              · obtain rfl : j = k := by omega
                exact (Option.some.inj (hx'.symm.trans HX.out)).trans (Option.some.inj (hy'.symm.trans HY.out)).symm, HSR.out.trans hsq (fun _ _ h => h)⟩
            case measure => simp [intOf]; omega
          · have hf : r = false := by
              rw [← HR.out]
              unfold sm
              rw [decide_eq_false_iff_not]
              rintro ⟨_, hw⟩
              rw [hw] at HX
              exact hxy (Option.some.inj (HX.out.symm.trans HY.out))
            subst hf
            have hxi : (x : Int) ≠ y := by omega
            go_upto_region 6 with fail
            refine wp_quiet (by kernel_rfl) (by kernel_rfl) ?_
            repeat (any_goals (first | go_big_quiet_step (fail) | quiet_step (fail)))
            refine wpQuiet_nil ?_
            rintro wq ⟨q, hq⟩
            have hsq : Same wr wq := by rw [hq]; exact more_same _ q
            clear hq
            go_wp2
            go_ret
            exact ⟨rfl, (HS.out.trans HSR.out (fun _ _ h => h)).trans hsq (fun _ _ h => h)⟩
        · obtain rfl : k = La := by omega
          have hf : r = true := by
            rw [← HR.out]
            unfold sm
            rw [decide_eq_true_eq]
            refine ⟨rfl, List.ext_getElem? fun j => ?_⟩
            by_cases hj : j < k
            · obtain ⟨x, hx⟩ : ∃ x, wsa[j]? = some x := ⟨_, List.getElem?_eq_getElem (by rw [← HLA.out]; exact hj)⟩
              obtain ⟨y, hy⟩ : ∃ x, wsb[j]? = some x := ⟨_, List.getElem?_eq_getElem (by rw [← HLB.out]; exact hj)⟩
              rw [hx, hy, HALL.out j x y hx hy hj]
            · rw [List.getElem?_eq_none (by rw [← HLA.out]; omega), List.getElem?_eq_none (by rw [← HLB.out]; omega)]
          subst hf
          clear hs
          go_wp2
          go_ret
          exact ⟨rfl, HS.out.trans HSR.out (fun _ _ h => h)⟩
    · have hf : r = false := by
        rw [← hr]
        unfold sm
        rw [decide_eq_false_iff_not]
        rintro ⟨_, hw⟩
        rw [hw] at hla
        omega
      subst h1 hf
      have h3 : (La : Int) ≠ Lb := by omega
      clear hr hla hlb ha hb
      go_enter Try.func35, Try.ntmps35
      go_upto_region 1 with fail
      refine wp_world fun w1 hw1 => ?_
      have hs1 : Same w w1 := by rw [hw1]; exact ((Frm.refl _ _).alloc _).alloc _
      have hBXa : Blk w1 (w.heap.size) 24 #[.int .i64 Na, .slice Aa La Ca] := by
        rw [hw1]
        have := ((Blk.new w 24 #[.int .i64 Na, .slice Aa La Ca]).alloc (.cells #[.int .i64 Na, .slice Ab Lb Cb] 24))
        simpa using this
      have hBXb : Blk w1 (w.heap.size + 1) 24 #[.int .i64 Na, .slice Ab Lb Cb] := by
        rw [hw1]
        have := (Blk.new (w.alloc (.cells #[.int .i64 Na, .slice Aa La Ca] 24)) 24 #[.int .i64 Na, .slice Ab Lb Cb])
        simpa using this
      clear hw1
      obtain ⟨Xb, hXb⟩ : ∃ b, w.heap.size + 1 = b := ⟨_, rfl⟩
      rw [hXb] at hBXb ⊢
      have leXb : w.heap.size ≤ Xb := by omega
      have neXaXb : w.heap.size ≠ Xb := by omega
      clear hXb
      have cXa0 : w1.cell? ⟨w.heap.size, 0, none⟩ = some (.int .i64 Na) := hBXa.cell 0
      have cXa1 : w1.cell? ⟨w.heap.size, 1, none⟩ = some (.slice Aa La Ca) := hBXa.cell 1
      have lXa := hBXa.lt
      have fXa0 := hBXa.free 0
      have fXa1 := hBXa.free 1
      have HBXa := Lib.hid hBXa
      have cXb0 : w1.cell? ⟨Xb, 0, none⟩ = some (.int .i64 Na) := hBXb.cell 0
      have cXb1 : w1.cell? ⟨Xb, 1, none⟩ = some (.slice Ab Lb Cb) := hBXb.cell 1
      have lXb := hBXb.lt
      have fXb0 := hBXb.free 0
      have fXb1 := hBXb.free 1
      have HBXb := Lib.hid hBXb
      have HS1 := Lib.hid hs1
      clear hs1 hBXa hBXb
      go_wp2
      go_ret
      exact ⟨rfl, HS1.out⟩
  · have hf : r = false := by
      rw [← hr]
      unfold sm
      rw [decide_eq_false_iff_not]
      exact fun h => h1 h.1
    subst hf
    clear hr hla hlb ha hb
    go_enter Try.func35, Try.ntmps35
    go_upto_region 1 with fail
    refine wp_world fun w1 hw1 => ?_
    have hs1 : Same w w1 := by rw [hw1]; exact ((Frm.refl _ _).alloc _).alloc _
    have hBXa : Blk w1 (w.heap.size) 24 #[.int .i64 Na, .slice Aa La Ca] := by
      rw [hw1]
      have := ((Blk.new w 24 #[.int .i64 Na, .slice Aa La Ca]).alloc (.cells #[.int .i64 Nb, .slice Ab Lb Cb] 24))
      simpa using this
    have hBXb : Blk w1 (w.heap.size + 1) 24 #[.int .i64 Nb, .slice Ab Lb Cb] := by
      rw [hw1]
      have := (Blk.new (w.alloc (.cells #[.int .i64 Na, .slice Aa La Ca] 24)) 24 #[.int .i64 Nb, .slice Ab Lb Cb])
      simpa using this
    clear hw1
    obtain ⟨Xb, hXb⟩ : ∃ b, w.heap.size + 1 = b := ⟨_, rfl⟩
    rw [hXb] at hBXb ⊢
    have leXb : w.heap.size ≤ Xb := by omega
    have neXaXb : w.heap.size ≠ Xb := by omega
    clear hXb
    have cXa0 : w1.cell? ⟨w.heap.size, 0, none⟩ = some (.int .i64 Na) := hBXa.cell 0
    have cXa1 : w1.cell? ⟨w.heap.size, 1, none⟩ = some (.slice Aa La Ca) := hBXa.cell 1
    have lXa := hBXa.lt
    have fXa0 := hBXa.free 0
    have fXa1 := hBXa.free 1
    have HBXa := Lib.hid hBXa
    have cXb0 : w1.cell? ⟨Xb, 0, none⟩ = some (.int .i64 Nb) := hBXb.cell 0
    have cXb1 : w1.cell? ⟨Xb, 1, none⟩ = some (.slice Ab Lb Cb) := hBXb.cell 1
    have lXb := hBXb.lt
    have fXb0 := hBXb.free 0
    have fXb1 := hBXb.free 1
    have HBXb := Lib.hid hBXb
    have HS1 := Lib.hid hs1
    clear hs1 hBXa hBXb
    go_wp2
    go_ret
    exact ⟨rfl, HS1.out⟩
set_option maxHeartbeats 2000000 in
theorem variable_any (N : Int) (A : Option Addr) (C : Nat) (ws : List Nat) (v : Int) (w : World) (h : TbOk w ⟨N, A, C, ws⟩) :
    Calls Try.prog 53 #[.agg #[.int .i64 N, .slice A ws.length C], .int .i64 v] w fun e w' => e = .returned (.int .i64 (ofE N v ws)) ∧ Same w w' := by
  have H := Lib.hid h
  clear h
  unfold ofE
  obtain ⟨r, hr⟩ : ∃ r, frm N ws = r := ⟨_, rfl⟩
  have hform := fun (w' : World) (hs : Same w w') => rForm_any N A _ C ws w' (Sl.same H.out.wl hs) H.out.small
  rw [hr] at hform ⊢
  have HF := Lib.hid hform
  clear hr hform
  have hv : r = false ∨ (r = true ∧ v < 0) ∨ (r = true ∧ ¬ v < 0 ∧ v ≥ N) ∨ (r = true ∧ ¬ v < 0 ∧ ¬ v ≥ N) := by cases r <;> simp <;> omega
  rcases hv with rfl | ⟨rfl, h1⟩ | ⟨rfl, h1, h2⟩ | ⟨rfl, h1, h2⟩
  · rw [if_neg (by decide)]
    go_enter Try.func53, Try.ntmps53
    go_upto_region 1 with fail
    refine wp_world fun w1 hw1 => ?_
    have hs1 : Same w w1 := by rw [hw1]; exact (Frm.refl _ _).alloc _
    have hBXa : Blk w1 (w.heap.size) 24 #[.int .i64 N, .slice A ws.length C] := by
      rw [hw1]
      have := (Blk.new w 24 #[.int .i64 N, .slice A ws.length C])
      simpa using this
    clear hw1
    have cXa0 : w1.cell? ⟨w.heap.size, 0, none⟩ = some (.int .i64 N) := hBXa.cell 0
    have cXa1 : w1.cell? ⟨w.heap.size, 1, none⟩ = some (.slice A ws.length C) := hBXa.cell 1
    have lXa := hBXa.lt
    have fXa0 := hBXa.free 0
    have fXa1 := hBXa.free 1
    have HBXa := Lib.hid hBXa
    have HS1 := Lib.hid hs1
    clear hs1 hBXa
    go_wp2_with (fail)
    refine (HF.out w1 HS1.out).mono ?_
    rintro e w3 ⟨rfl, hs13⟩
    have HBX3 := Lib.hid (HBXa.out.frm hs13 id)
    have dXa0 : w3.cell? ⟨w.heap.size, 0, none⟩ = some (.int .i64 N) := HBX3.out.cell 0
    have lX3 := HBX3.out.lt
    have HS3 := Lib.hid (HS1.out.trans hs13 (fun _ _ h => h))
    clear hs13 cXa0 cXa1 fXa0 fXa1 lXa
    go_wp2
    go_ret
    exact ⟨rfl, HS3.out⟩
  · rw [if_pos rfl, if_pos (.inl h1)]
    go_enter Try.func53, Try.ntmps53
    go_upto_region 1 with fail
    refine wp_world fun w1 hw1 => ?_
    have hs1 : Same w w1 := by rw [hw1]; exact (Frm.refl _ _).alloc _
    have hBXa : Blk w1 (w.heap.size) 24 #[.int .i64 N, .slice A ws.length C] := by
      rw [hw1]
      have := (Blk.new w 24 #[.int .i64 N, .slice A ws.length C])
      simpa using this
    clear hw1
    have cXa0 : w1.cell? ⟨w.heap.size, 0, none⟩ = some (.int .i64 N) := hBXa.cell 0
    have cXa1 : w1.cell? ⟨w.heap.size, 1, none⟩ = some (.slice A ws.length C) := hBXa.cell 1
    have lXa := hBXa.lt
    have fXa0 := hBXa.free 0
    have fXa1 := hBXa.free 1
    have HBXa := Lib.hid hBXa
    have HS1 := Lib.hid hs1
    clear hs1 hBXa
    go_wp2_with (fail)
    refine (HF.out w1 HS1.out).mono ?_
    rintro e w3 ⟨rfl, hs13⟩
    have HBX3 := Lib.hid (HBXa.out.frm hs13 id)
    have dXa0 : w3.cell? ⟨w.heap.size, 0, none⟩ = some (.int .i64 N) := HBX3.out.cell 0
    have lX3 := HBX3.out.lt
    have HS3 := Lib.hid (HS1.out.trans hs13 (fun _ _ h => h))
    clear hs13 cXa0 cXa1 fXa0 fXa1 lXa
    go_wp2
    go_ret
    exact ⟨rfl, HS3.out⟩
  · rw [if_pos rfl, if_pos (.inr (by omega))]
    go_enter Try.func53, Try.ntmps53
    go_upto_region 1 with fail
    refine wp_world fun w1 hw1 => ?_
    have hs1 : Same w w1 := by rw [hw1]; exact (Frm.refl _ _).alloc _
    have hBXa : Blk w1 (w.heap.size) 24 #[.int .i64 N, .slice A ws.length C] := by
      rw [hw1]
      have := (Blk.new w 24 #[.int .i64 N, .slice A ws.length C])
      simpa using this
    clear hw1
    have cXa0 : w1.cell? ⟨w.heap.size, 0, none⟩ = some (.int .i64 N) := hBXa.cell 0
    have cXa1 : w1.cell? ⟨w.heap.size, 1, none⟩ = some (.slice A ws.length C) := hBXa.cell 1
    have lXa := hBXa.lt
    have fXa0 := hBXa.free 0
    have fXa1 := hBXa.free 1
    have HBXa := Lib.hid hBXa
    have HS1 := Lib.hid hs1
    clear hs1 hBXa
    go_wp2_with (fail)
    refine (HF.out w1 HS1.out).mono ?_
    rintro e w3 ⟨rfl, hs13⟩
    have HBX3 := Lib.hid (HBXa.out.frm hs13 id)
    have dXa0 : w3.cell? ⟨w.heap.size, 0, none⟩ = some (.int .i64 N) := HBX3.out.cell 0
    have lX3 := HBX3.out.lt
    have HS3 := Lib.hid (HS1.out.trans hs13 (fun _ _ h => h))
    clear hs13 cXa0 cXa1 fXa0 fXa1 lXa
    go_wp2
    go_ret
    exact ⟨rfl, HS3.out⟩
  · rw [if_pos rfl, if_neg (by omega)]
    go_enter Try.func53, Try.ntmps53
    go_upto_region 1 with fail
    refine wp_world fun w1 hw1 => ?_
    have hs1 : Same w w1 := by rw [hw1]; exact (Frm.refl _ _).alloc _
    have hBXa : Blk w1 (w.heap.size) 24 #[.int .i64 N, .slice A ws.length C] := by
      rw [hw1]
      have := (Blk.new w 24 #[.int .i64 N, .slice A ws.length C])
      simpa using this
    clear hw1
    have cXa0 : w1.cell? ⟨w.heap.size, 0, none⟩ = some (.int .i64 N) := hBXa.cell 0
    have cXa1 : w1.cell? ⟨w.heap.size, 1, none⟩ = some (.slice A ws.length C) := hBXa.cell 1
    have lXa := hBXa.lt
    have fXa0 := hBXa.free 0
    have fXa1 := hBXa.free 1
    have HBXa := Lib.hid hBXa
    have HS1 := Lib.hid hs1
    clear hs1 hBXa
    go_wp2_with (fail)
    refine (HF.out w1 HS1.out).mono ?_
    rintro e w3 ⟨rfl, hs13⟩
    have HBX3 := Lib.hid (HBXa.out.frm hs13 id)
    have dXa0 : w3.cell? ⟨w.heap.size, 0, none⟩ = some (.int .i64 N) := HBX3.out.cell 0
    have lX3 := HBX3.out.lt
    have HS3 := Lib.hid (HS1.out.trans hs13 (fun _ _ h => h))
    clear hs13 cXa0 cXa1 fXa0 fXa1 lXa
    go_wp2
    go_ret
    exact ⟨rfl, HS3.out⟩
end Go.Proofs.Ytlggmoghgoeiiaa


/- Truth tables: the reference's DocCofactor, DocExists. -/
namespace Go.Proofs.Ytlggmoghgoeiiaa
open Go.RowKit Go.Tk

theorem OwnB.cell {w : World} {sb N C M i : Nat} {F : Nat → Bool} (h : OwnB w (some ⟨sb, 0, none⟩) N C (vals M F)) (hi : i < M) : sb < w.heap.size ∧ w.cell? ⟨sb, i, none⟩ = some (.bool (F i)) := by
  obtain ⟨sb', h1, h2, h3⟩ := Own.at1 (c := fun b : Bool => .bool b) h (vals_get hi)
  injection h1 with h1
  injection h1 with h1
  subst h1
  exact ⟨h2, h3⟩
theorem OwnB.put {w : World} {sb N C M k : Nat} {G Z : Nat → Bool} (h : OwnB w (some ⟨sb, 0, none⟩) N C (vals M (mixF G Z k))) (hk : k < M) : OwnB (w.setCell ⟨sb, k, none⟩ (.bool (G k))) (some ⟨sb, 0, none⟩) N C (vals M (mixF G Z (k + 1))) := by
  rw [← vals_set hk]
  exact Own.put1 (c := fun b : Bool => .bool b) h (by rw [vals_len]; exact hk) (G k)
set_option maxRecDepth 100000 in
set_option maxHeartbeats 8000000 in
theorem docCofactor_any (Na : Int) (Aa : Option Addr) (Ca : Nat) (wsa : List Nat) (v : Int) (b : Bool) (w : World) (h : TbOk w ⟨Na, Aa, Ca, wsa⟩) : Calls Try.prog 16 #[.agg #[.int .i64 Na, .slice Aa wsa.length Ca], .int .i64 v, .bool b] w (RetA w Na (tab Na.toNat (hfF v.toNat b wsa)) (ofE Na v wsa)) := by
  have H := Lib.hid h
  clear h
  have hof := fun (w : World) (h : TbOk w ⟨Na, Aa, Ca, wsa⟩) => variable_any Na Aa Ca wsa v w h
  obtain ⟨c, hc⟩ : ∃ c, ofE Na v wsa = c := ⟨_, rfl⟩
  rw [hc] at hof ⊢
  have HOF := Lib.hid hof
  clear hof
  by_cases h0 : ¬ c = 0
  · have h0' : (c != 0) = true := by simpa using h0
    unfold RetA
    rw [show ansN Na c = 0 by unfold ansN; rw [if_neg h0], show ansL (tab Na.toNat (hfF v.toNat b wsa)) c = [] by unfold ansL; rw [if_neg h0]]
    clear hc h0
    go_enter Try.func16, Try.ntmps16
    go_upto_region 1 with fail
    refine wp_world fun w1 hw1 => ?_
    have hs1 : Same w w1 := by rw [hw1]; exact ((Frm.refl _ _).alloc _).alloc _
    have hBXa : Blk w1 (w.heap.size) 24 #[.int .i64 Na, .slice Aa wsa.length Ca] := by
      rw [hw1]
      have := ((Blk.new w 24 #[.int .i64 Na, .slice Aa wsa.length Ca]).alloc (.cells #[.int .i64 0, .slice none 0 0] 24))
      simpa using this
    have hBR : Blk w1 (w.heap.size + 1) 24 #[.int .i64 0, .slice none 0 0] := by
      rw [hw1]
      have := (Blk.new (w.alloc (.cells #[.int .i64 Na, .slice Aa wsa.length Ca] 24)) 24 #[.int .i64 0, .slice none 0 0])
      simpa using this
    clear hw1
    obtain ⟨R, hR⟩ : ∃ b, w.heap.size + 1 = b := ⟨_, rfl⟩
    rw [hR] at hBR ⊢
    have leR : w.heap.size ≤ R := by omega
    have neXaR : w.heap.size ≠ R := by omega
    clear hR
    have cXa0 : w1.cell? ⟨w.heap.size, 0, none⟩ = some (.int .i64 Na) := hBXa.cell 0
    have cXa1 : w1.cell? ⟨w.heap.size, 1, none⟩ = some (.slice Aa wsa.length Ca) := hBXa.cell 1
    have lXa := hBXa.lt
    have fXa0 := hBXa.free 0
    have fXa1 := hBXa.free 1
    have HBXa := Lib.hid hBXa
    have cR0 : w1.cell? ⟨R, 0, none⟩ = some (.int .i64 0) := hBR.cell 0
    have cR1 : w1.cell? ⟨R, 1, none⟩ = some (.slice none 0 0) := hBR.cell 1
    have lR := hBR.lt
    have fR0 := hBR.free 0
    have fR1 := hBR.free 1
    have HBR := Lib.hid hBR
    have HS1 := Lib.hid hs1
    clear hs1 hBXa hBR
    go_wp2_with (fail)
    refine (HOF.out w1 (H.out.same HS1.out)).mono ?_
    rintro e w3 ⟨rfl, hs13⟩
    replace HBXa := Lib.hid (HBXa.out.frm hs13 id)
    replace cXa0 : w3.cell? ⟨w.heap.size, 0, none⟩ = some (.int .i64 Na) := HBXa.out.cell 0
    replace cXa1 : w3.cell? ⟨w.heap.size, 1, none⟩ = some (.slice Aa wsa.length Ca) := HBXa.out.cell 1
    replace lXa := HBXa.out.lt
    replace fXa0 := HBXa.out.free 0
    replace fXa1 := HBXa.out.free 1
    replace HBR := Lib.hid (HBR.out.frm hs13 id)
    replace cR0 : w3.cell? ⟨R, 0, none⟩ = some (.int .i64 0) := HBR.out.cell 0
    replace cR1 : w3.cell? ⟨R, 1, none⟩ = some (.slice none 0 0) := HBR.out.cell 1
    replace lR := HBR.out.lt
    replace fR0 := HBR.out.free 0
    replace fR1 := HBR.out.free 1
    replace HS1 := Lib.hid (HS1.out.trans hs13 (fun _ _ h => h))
    clear hs13
    go_wp2
    refine wp_post fun we hwe => ?_
    have hBE : Blk we R 24 #[.int .i64 0, .slice none 0 0] := by
      rw [hwe]
      have := (HBR.out.set 0 (.int .i64 0)).set 1 (.slice none 0 0)
      simpa using this
    have hSE : Same w we := by rw [hwe]; exact (HS1.out.setNew 0 _ leR).setNew 1 _ leR
    have hr0 : we.cell? ⟨R, 0, none⟩ = some (.int .i64 0) := hBE.cell 0
    have hr1 : we.cell? ⟨R, 1, none⟩ = some (.slice none 0 0) := hBE.cell 1
    clear hwe hBE
    refine bodyPost_ret (v := .tuple #[.agg #[.int .i64 0, .slice none 0 0], .int .i64 c]) (by simp [results, Try.results16, go_sem, hr0, hr1]) rfl ?_
    exact ⟨none, 0, rfl, NewT.nil hSE⟩
  replace h0 : c = 0 := by omega
  subst h0
  obtain ⟨n, V, rfl, rfl, hf, hv⟩ := ofE_ok hc
  have hn := hf.n16
  unfold RetA
  rw [show ansN n 0 = n from rfl, show ansL (tab (n : Int).toNat (hfF (V : Int).toNat b wsa)) 0 = tab n (hfF V b wsa) from rfl]
  have HFa := Lib.hid hf
  have HV := Lib.hid hv
  have hp16 := pow_le16 hn
  have hMp0 : 0 < 2 ^ n := Nat.pow_pos (by omega)
  obtain ⟨M, hM⟩ : ∃ M, 2 ^ n = M := ⟨_, rfl⟩
  have hMp : 0 < M := by omega
  have hwl := fun (k : Nat) (b : Bool) (hk : k < 2 ^ n) => wth_lt (b := b) hk hv
  rw [hM] at hwl hp16
  have HWL := Lib.hid hwl
  have HM := Lib.hid hM
  have Ha := Lib.hid H.out
  have hV16 : V < 16 := by omega
  clear hc hf hv hwl hM hMp0
  obtain ⟨G, hG⟩ : ∃ G, hfF V b wsa = G := ⟨_, rfl⟩
  rw [hG]
  have HG := Lib.hid hG
  clear hG
  go_enter Try.func16, Try.ntmps16
  go_upto_region 1 with fail
  refine wp_world fun w1 hw1 => ?_
  have hs1 : Same w w1 := by rw [hw1]; exact ((Frm.refl _ _).alloc _).alloc _
  have hBXa : Blk w1 (w.heap.size) 24 #[.int .i64 n, .slice Aa wsa.length Ca] := by
    rw [hw1]
    have := ((Blk.new w 24 #[.int .i64 n, .slice Aa wsa.length Ca]).alloc (.cells #[.int .i64 0, .slice none 0 0] 24))
    simpa using this
  have hBR : Blk w1 (w.heap.size + 1) 24 #[.int .i64 0, .slice none 0 0] := by
    rw [hw1]
    have := (Blk.new (w.alloc (.cells #[.int .i64 n, .slice Aa wsa.length Ca] 24)) 24 #[.int .i64 0, .slice none 0 0])
    simpa using this
  clear hw1
  obtain ⟨R, hR⟩ : ∃ b, w.heap.size + 1 = b := ⟨_, rfl⟩
  rw [hR] at hBR ⊢
  have leR : w.heap.size ≤ R := by omega
  have neXaR : w.heap.size ≠ R := by omega
  clear hR
  have cXa0 : w1.cell? ⟨w.heap.size, 0, none⟩ = some (.int .i64 n) := hBXa.cell 0
  have cXa1 : w1.cell? ⟨w.heap.size, 1, none⟩ = some (.slice Aa wsa.length Ca) := hBXa.cell 1
  have lXa := hBXa.lt
  have fXa0 := hBXa.free 0
  have fXa1 := hBXa.free 1
  have HBXa := Lib.hid hBXa
  have cR0 : w1.cell? ⟨R, 0, none⟩ = some (.int .i64 0) := hBR.cell 0
  have cR1 : w1.cell? ⟨R, 1, none⟩ = some (.slice none 0 0) := hBR.cell 1
  have lR := hBR.lt
  have fR0 := hBR.free 0
  have fR1 := hBR.free 1
  have HBR := Lib.hid hBR
  have HS1 := Lib.hid hs1
  clear hs1 hBXa hBR
  go_wp2_with (fail)
  refine (HOF.out w1 (H.out.same HS1.out)).mono ?_
  rintro e w3 ⟨rfl, hs13⟩
  replace HBXa := Lib.hid (HBXa.out.frm hs13 id)
  replace cXa0 : w3.cell? ⟨w.heap.size, 0, none⟩ = some (.int .i64 n) := HBXa.out.cell 0
  replace cXa1 : w3.cell? ⟨w.heap.size, 1, none⟩ = some (.slice Aa wsa.length Ca) := HBXa.out.cell 1
  replace lXa := HBXa.out.lt
  replace fXa0 := HBXa.out.free 0
  replace fXa1 := HBXa.out.free 1
  replace HBR := Lib.hid (HBR.out.frm hs13 id)
  replace cR0 : w3.cell? ⟨R, 0, none⟩ = some (.int .i64 0) := HBR.out.cell 0
  replace cR1 : w3.cell? ⟨R, 1, none⟩ = some (.slice none 0 0) := HBR.out.cell 1
  replace lR := HBR.out.lt
  replace fR0 := HBR.out.free 0
  replace fR1 := HBR.out.free 1
  replace HS1 := Lib.hid (HS1.out.trans hs13 (fun _ _ h => h))
  clear hs13
  go_wp2_with (fail)
  refine (values_any n Ca Aa wsa w3 (Ha.out.same HS1.out) HFa.out).mono ?_
  rintro e w4 ⟨Al, CL, rfl, hNB⟩
  rw [HM.out] at hNB ⊢
  obtain ⟨L, rfl, hLl⟩ := Own.form1 hNB.1 (by rw [vals_len]; exact hMp)
  have hLn : w3.heap.size ≤ L := hNB.2.1 L ⟨_, rfl, rfl⟩
  have hsv := hNB.2.2
  have hOL := hNB.1
  rw [vals_len] at hOL
  have HOL := Lib.hid hOL
  clear hNB hOL
  have hneXL : w.heap.size ≠ L := by have := HBXa.out.lt; omega
  have hneRL : R ≠ L := by have := HBR.out.lt; omega
  replace HBXa := Lib.hid (HBXa.out.frm hsv id)
  replace cXa0 : w4.cell? ⟨w.heap.size, 0, none⟩ = some (.int .i64 n) := HBXa.out.cell 0
  replace cXa1 : w4.cell? ⟨w.heap.size, 1, none⟩ = some (.slice Aa wsa.length Ca) := HBXa.out.cell 1
  replace lXa := HBXa.out.lt
  replace fXa0 := HBXa.out.free 0
  replace fXa1 := HBXa.out.free 1
  replace HBR := Lib.hid (HBR.out.frm hsv id)
  replace cR0 : w4.cell? ⟨R, 0, none⟩ = some (.int .i64 0) := HBR.out.cell 0
  replace cR1 : w4.cell? ⟨R, 1, none⟩ = some (.slice none 0 0) := HBR.out.cell 1
  replace lR := HBR.out.lt
  replace fR0 := HBR.out.free 0
  replace fR1 := HBR.out.free 1
  replace HS1 := Lib.hid (HS1.out.trans hsv (fun _ _ h => h))
  clear hsv
  have hmk := fun w => run_make_n (P := Try.prog) Try.underlying26 info_bool .i64 .i64 M (show 1 * M ≤ 281474976710656 by omega) (show M ≤ 9223372036854775807 by omega) w
  go_upto_region 6 with fail
  refine wp_world fun w5 hw5 => ?_
  have hsv : Same w4 w5 := by rw [hw5]; exact (Frm.refl _ _).alloc _
  have hOD : OwnB w5 (some ⟨w4.heap.size, 0, none⟩) M M (vals M (mixF G (fun _ => false) 0)) := by
    rw [vals_zero, vals_false, hw5]
    have := Own.ofMade (m := 1) w4 4 (fun b : Bool => [.bool b]) (fun _ => rfl) (by decide) false M (show M ≤ 9223372036854775807 by omega) rfl
    simpa using this
  clear hw5 hmk
  obtain ⟨D, hD⟩ : ∃ D, w4.heap.size = D := ⟨_, rfl⟩
  rw [hD] at hOD ⊢
  have hneLD : L ≠ D := by omega
  have hneXaD : w.heap.size ≠ D := by have := HBXa.out.lt; omega
  have hneRD : R ≠ D := by have := HBR.out.lt; omega
  have hDn : w.heap.size ≤ D := by have := HS1.out.size; omega
  replace HOL := Lib.hid (Own.frm HOL.out hsv (fun _ _ => id))
  have HOD := Lib.hid hOD
  have hDl5 : D < w5.heap.size := by
    obtain ⟨h, _⟩ := OwnB.cell hOD hMp
    exact h
  clear hD hOD hLl hLn
  replace HBXa := Lib.hid (HBXa.out.frm hsv id)
  replace cXa0 : w5.cell? ⟨w.heap.size, 0, none⟩ = some (.int .i64 n) := HBXa.out.cell 0
  replace cXa1 : w5.cell? ⟨w.heap.size, 1, none⟩ = some (.slice Aa wsa.length Ca) := HBXa.out.cell 1
  replace lXa := HBXa.out.lt
  replace fXa0 := HBXa.out.free 0
  replace fXa1 := HBXa.out.free 1
  replace HBR := Lib.hid (HBR.out.frm hsv id)
  replace cR0 : w5.cell? ⟨R, 0, none⟩ = some (.int .i64 0) := HBR.out.cell 0
  replace cR1 : w5.cell? ⟨R, 1, none⟩ = some (.slice none 0 0) := HBR.out.cell 1
  replace lR := HBR.out.lt
  replace fR0 := HBR.out.free 0
  replace fR1 := HBR.out.free 1
  replace HS1 := Lib.hid (HS1.out.trans hsv (fun _ _ h => h))
  clear hsv
  go_wp2
  go_loopw [26] (fun i wr => ∃ k : Nat, k ≤ M ∧ i = .int .i64 k ∧ Same w wr ∧ Blk wr w.heap.size 24 #[.int .i64 n, .slice Aa wsa.length Ca] ∧ Blk wr R 24 #[.int .i64 0, .slice none 0 0] ∧ OwnB wr (some ⟨L, 0, none⟩) M CL (vals M (vb wsa)) ∧ OwnB wr (some ⟨D, 0, none⟩) M M (vals M (mixF G (fun _ => false) k))) (fun i _ => M - (intOf i).toNat)
  case atStart => exact ⟨0, by omega, rfl, HS1.out, HBXa.out, HBR.out, HOL.out, HOD.out⟩
  case round =>
    obtain ⟨k, hk, rfl, hs, hBXa, hBR, hOL, hOD⟩ := hrel
    have HSr := Lib.hid hs
    have HBrXa := Lib.hid hBXa
    have HBrR := Lib.hid hBR
    have HOrL := Lib.hid hOL
    by_cases hlt : k < M
    · have hk0 : (0 : Int) ≤ k := by omega
      have hk1 : (k : Int) < M := by omega
      have HST := Lib.hid (OwnB.put hOD hlt)
      obtain ⟨hDl, hDc⟩ := OwnB.cell hOD hlt
      have hDf := Own.free hOD k
      have hw := HWL.out k b hlt
      obtain ⟨ix, hix⟩ : ∃ ix, wth k V b = ix := ⟨_, rfl⟩
      have hGk : vb wsa (wth k V b) = G k := by rw [← HG.out]; rfl
      rw [hix] at hw hGk
      have hwi : ∀ w', Calls Try.prog 55 #[.int .i64 k, .int .i64 V, .bool b] w' fun e w'' => e = .returned (.int .i64 (ix : Nat)) ∧ w' = w'' := fun w' => by
        rw [← hix]
        exact with_any k V b w' (by omega) (by omega)
      obtain ⟨hLl, hLc⟩ := OwnB.cell hOL hw
      rw [hGk] at hLc
      have hix0 : (0 : Int) ≤ ix := by omega
      have hix1 : (ix : Int) < M := by omega
      have HWI := Lib.hid hwi
      clear hs hBXa hBR hOL hOD hwi hix hGk
      generalize G k = g at *
      go_wp2_with (fail)
      refine (HWI.out wr).mono ?_
      rintro e w6 ⟨rfl, rfl⟩
      go_wp2
      go_roundw
      case rel => exact ⟨k + 1, by omega, by go_num, HSr.out.setNew k _ hDn, HBrXa.out.far (p := ⟨D, k, none⟩) hneXaD _, HBrR.out.far (p := ⟨D, k, none⟩) hneRD _, Own.far (p := ⟨D, k, none⟩) HOrL.out (fun a ha h => by injection ha with ha; subst ha; exact hneLD h) _, HST.out⟩
      case measure => simp [intOf]; omega
    · obtain rfl : k = M := by omega
      rw [vals_full] at hOD
      have HODr := Lib.hid hOD
      have cXa0 : wr.cell? ⟨w.heap.size, 0, none⟩ = some (.int .i64 n) := hBXa.cell 0
      have fXa0 := hBXa.free 0
      have cXa1 : wr.cell? ⟨w.heap.size, 1, none⟩ = some (.slice Aa wsa.length Ca) := hBXa.cell 1
      have fXa1 := hBXa.free 1
      have lXa := hBXa.lt
      have cR0 : wr.cell? ⟨R, 0, none⟩ = some (.int .i64 0) := hBR.cell 0
      have fR0 := hBR.free 0
      have cR1 : wr.cell? ⟨R, 1, none⟩ = some (.slice none 0 0) := hBR.cell 1
      have fR1 := hBR.free 1
      have lR := hBR.lt
      clear hs  hBXa  hBR  hOL  hOD
      go_wp2_with (fail)
      rw [← HM.out] at HODr ⊢
      refine (rof_any n _ (some ⟨D, 0, none⟩) G wr hn (Own.sl (fun _ => rfl) HODr.out)).mono ?_
      rintro e w8 ⟨Aq, Cq, rfl, hNT⟩
      have hoq := hNT.1
      have hfq := hNT.2.1
      have hsq := hNT.2.2
      have hRq : ∀ a, Aq = some a → a.block ≠ R := fun a ha h => by
        have := hfq a.block ⟨a, ha, rfl⟩
        omega
      have HBRq := Lib.hid (HBrR.out.frm hsq id)
      have HSq := Lib.hid (HSr.out.trans hsq (fun _ _ h => h))
      have hfq' : Fresh w.heap.size Aq := fun b hb => by have := hfq b hb; have := HSr.out.size; omega
      have HOQ := Lib.hid hoq
      have HFQ := Lib.hid hfq'
      have hcR0 : w8.cell? ⟨R, 0, none⟩ = some (.int .i64 0) := HBRq.out.cell 0
      have hcR1 : w8.cell? ⟨R, 1, none⟩ = some (.slice none 0 0) := HBRq.out.cell 1
      have hfR0 := HBRq.out.free 0
      have hfR1 := HBRq.out.free 1
      have hlR := HBRq.out.lt
      clear hNT hoq hfq hsq hfq'
      go_wp2
      refine wp_post fun we hwe => ?_
      have hBE : Blk we R 24 #[.int .i64 n, .slice Aq (tab n G).length Cq] := by
        rw [hwe]
        have := (HBRq.out.set 0 (.int .i64 n)).set 1 (.slice Aq (tab n G).length Cq)
        simpa using this
      have hSE : Same w we := by rw [hwe]; exact (HSq.out.setNew 0 _ leR).setNew 1 _ leR
      have hOE : OwnW we Aq (tab n G).length Cq (tab n G) := by
        rw [hwe]
        exact (Own.far (p := ⟨R, 0, none⟩) HOQ.out hRq _).far (p := ⟨R, 1, none⟩) hRq _
      have hr0 : we.cell? ⟨R, 0, none⟩ = some (.int .i64 n) := hBE.cell 0
      have hr1 : we.cell? ⟨R, 1, none⟩ = some (.slice Aq (tab n G).length Cq) := hBE.cell 1
      clear hwe hBE
      refine bodyPost_ret (v := .tuple #[.agg #[.int .i64 n, .slice Aq (tab n G).length Cq], .int .i64 0]) (by simp [results, Try.results16, go_sem, hr0, hr1]) rfl ?_
      exact ⟨Aq, Cq, rfl, hOE, HFQ.out, hSE⟩
set_option maxRecDepth 100000 in
set_option maxHeartbeats 8000000 in
theorem docExists_any (Na : Int) (Aa : Option Addr) (Ca : Nat) (wsa : List Nat) (v : Int) (w : World) (h : TbOk w ⟨Na, Aa, Ca, wsa⟩) : Calls Try.prog 19 #[.agg #[.int .i64 Na, .slice Aa wsa.length Ca], .int .i64 v] w (RetA w Na (tab Na.toNat (exF v.toNat wsa)) (ofE Na v wsa)) := by
  have H := Lib.hid h
  clear h
  have hof := fun (w : World) (h : TbOk w ⟨Na, Aa, Ca, wsa⟩) => variable_any Na Aa Ca wsa v w h
  obtain ⟨c, hc⟩ : ∃ c, ofE Na v wsa = c := ⟨_, rfl⟩
  rw [hc] at hof ⊢
  have HOF := Lib.hid hof
  clear hof
  by_cases h0 : ¬ c = 0
  · have h0' : (c != 0) = true := by simpa using h0
    unfold RetA
    rw [show ansN Na c = 0 by unfold ansN; rw [if_neg h0], show ansL (tab Na.toNat (exF v.toNat wsa)) c = [] by unfold ansL; rw [if_neg h0]]
    clear hc h0
    go_enter Try.func19, Try.ntmps19
    go_upto_region 1 with fail
    refine wp_world fun w1 hw1 => ?_
    have hs1 : Same w w1 := by rw [hw1]; exact ((Frm.refl _ _).alloc _).alloc _
    have hBXa : Blk w1 (w.heap.size) 24 #[.int .i64 Na, .slice Aa wsa.length Ca] := by
      rw [hw1]
      have := ((Blk.new w 24 #[.int .i64 Na, .slice Aa wsa.length Ca]).alloc (.cells #[.int .i64 0, .slice none 0 0] 24))
      simpa using this
    have hBR : Blk w1 (w.heap.size + 1) 24 #[.int .i64 0, .slice none 0 0] := by
      rw [hw1]
      have := (Blk.new (w.alloc (.cells #[.int .i64 Na, .slice Aa wsa.length Ca] 24)) 24 #[.int .i64 0, .slice none 0 0])
      simpa using this
    clear hw1
    obtain ⟨R, hR⟩ : ∃ b, w.heap.size + 1 = b := ⟨_, rfl⟩
    rw [hR] at hBR ⊢
    have leR : w.heap.size ≤ R := by omega
    have neXaR : w.heap.size ≠ R := by omega
    clear hR
    have cXa0 : w1.cell? ⟨w.heap.size, 0, none⟩ = some (.int .i64 Na) := hBXa.cell 0
    have cXa1 : w1.cell? ⟨w.heap.size, 1, none⟩ = some (.slice Aa wsa.length Ca) := hBXa.cell 1
    have lXa := hBXa.lt
    have fXa0 := hBXa.free 0
    have fXa1 := hBXa.free 1
    have HBXa := Lib.hid hBXa
    have cR0 : w1.cell? ⟨R, 0, none⟩ = some (.int .i64 0) := hBR.cell 0
    have cR1 : w1.cell? ⟨R, 1, none⟩ = some (.slice none 0 0) := hBR.cell 1
    have lR := hBR.lt
    have fR0 := hBR.free 0
    have fR1 := hBR.free 1
    have HBR := Lib.hid hBR
    have HS1 := Lib.hid hs1
    clear hs1 hBXa hBR
    go_wp2_with (fail)
    refine (HOF.out w1 (H.out.same HS1.out)).mono ?_
    rintro e w3 ⟨rfl, hs13⟩
    replace HBXa := Lib.hid (HBXa.out.frm hs13 id)
    replace cXa0 : w3.cell? ⟨w.heap.size, 0, none⟩ = some (.int .i64 Na) := HBXa.out.cell 0
    replace cXa1 : w3.cell? ⟨w.heap.size, 1, none⟩ = some (.slice Aa wsa.length Ca) := HBXa.out.cell 1
    replace lXa := HBXa.out.lt
    replace fXa0 := HBXa.out.free 0
    replace fXa1 := HBXa.out.free 1
    replace HBR := Lib.hid (HBR.out.frm hs13 id)
    replace cR0 : w3.cell? ⟨R, 0, none⟩ = some (.int .i64 0) := HBR.out.cell 0
    replace cR1 : w3.cell? ⟨R, 1, none⟩ = some (.slice none 0 0) := HBR.out.cell 1
    replace lR := HBR.out.lt
    replace fR0 := HBR.out.free 0
    replace fR1 := HBR.out.free 1
    replace HS1 := Lib.hid (HS1.out.trans hs13 (fun _ _ h => h))
    clear hs13
    go_wp2
    refine wp_post fun we hwe => ?_
    have hBE : Blk we R 24 #[.int .i64 0, .slice none 0 0] := by
      rw [hwe]
      have := (HBR.out.set 0 (.int .i64 0)).set 1 (.slice none 0 0)
      simpa using this
    have hSE : Same w we := by rw [hwe]; exact (HS1.out.setNew 0 _ leR).setNew 1 _ leR
    have hr0 : we.cell? ⟨R, 0, none⟩ = some (.int .i64 0) := hBE.cell 0
    have hr1 : we.cell? ⟨R, 1, none⟩ = some (.slice none 0 0) := hBE.cell 1
    clear hwe hBE
    refine bodyPost_ret (v := .tuple #[.agg #[.int .i64 0, .slice none 0 0], .int .i64 c]) (by simp [results, Try.results19, go_sem, hr0, hr1]) rfl ?_
    exact ⟨none, 0, rfl, NewT.nil hSE⟩
  replace h0 : c = 0 := by omega
  subst h0
  obtain ⟨n, V, rfl, rfl, hf, hv⟩ := ofE_ok hc
  have hn := hf.n16
  unfold RetA
  rw [show ansN n 0 = n from rfl, show ansL (tab (n : Int).toNat (exF (V : Int).toNat wsa)) 0 = tab n (exF V wsa) from rfl]
  have HFa := Lib.hid hf
  have HV := Lib.hid hv
  have hp16 := pow_le16 hn
  have hMp0 : 0 < 2 ^ n := Nat.pow_pos (by omega)
  obtain ⟨M, hM⟩ : ∃ M, 2 ^ n = M := ⟨_, rfl⟩
  have hMp : 0 < M := by omega
  have hwl := fun (k : Nat) (b : Bool) (hk : k < 2 ^ n) => wth_lt (b := b) hk hv
  rw [hM] at hwl hp16
  have HWL := Lib.hid hwl
  have HM := Lib.hid hM
  have Ha := Lib.hid H.out
  have hV16 : V < 16 := by omega
  clear hc hf hv hwl hM hMp0
  obtain ⟨G, hG⟩ : ∃ G, exF V wsa = G := ⟨_, rfl⟩
  rw [hG]
  have HG := Lib.hid hG
  clear hG
  go_enter Try.func19, Try.ntmps19
  go_upto_region 1 with fail
  refine wp_world fun w1 hw1 => ?_
  have hs1 : Same w w1 := by rw [hw1]; exact ((Frm.refl _ _).alloc _).alloc _
  have hBXa : Blk w1 (w.heap.size) 24 #[.int .i64 n, .slice Aa wsa.length Ca] := by
    rw [hw1]
    have := ((Blk.new w 24 #[.int .i64 n, .slice Aa wsa.length Ca]).alloc (.cells #[.int .i64 0, .slice none 0 0] 24))
    simpa using this
  have hBR : Blk w1 (w.heap.size + 1) 24 #[.int .i64 0, .slice none 0 0] := by
    rw [hw1]
    have := (Blk.new (w.alloc (.cells #[.int .i64 n, .slice Aa wsa.length Ca] 24)) 24 #[.int .i64 0, .slice none 0 0])
    simpa using this
  clear hw1
  obtain ⟨R, hR⟩ : ∃ b, w.heap.size + 1 = b := ⟨_, rfl⟩
  rw [hR] at hBR ⊢
  have leR : w.heap.size ≤ R := by omega
  have neXaR : w.heap.size ≠ R := by omega
  clear hR
  have cXa0 : w1.cell? ⟨w.heap.size, 0, none⟩ = some (.int .i64 n) := hBXa.cell 0
  have cXa1 : w1.cell? ⟨w.heap.size, 1, none⟩ = some (.slice Aa wsa.length Ca) := hBXa.cell 1
  have lXa := hBXa.lt
  have fXa0 := hBXa.free 0
  have fXa1 := hBXa.free 1
  have HBXa := Lib.hid hBXa
  have cR0 : w1.cell? ⟨R, 0, none⟩ = some (.int .i64 0) := hBR.cell 0
  have cR1 : w1.cell? ⟨R, 1, none⟩ = some (.slice none 0 0) := hBR.cell 1
  have lR := hBR.lt
  have fR0 := hBR.free 0
  have fR1 := hBR.free 1
  have HBR := Lib.hid hBR
  have HS1 := Lib.hid hs1
  clear hs1 hBXa hBR
  go_wp2_with (fail)
  refine (HOF.out w1 (H.out.same HS1.out)).mono ?_
  rintro e w3 ⟨rfl, hs13⟩
  replace HBXa := Lib.hid (HBXa.out.frm hs13 id)
  replace cXa0 : w3.cell? ⟨w.heap.size, 0, none⟩ = some (.int .i64 n) := HBXa.out.cell 0
  replace cXa1 : w3.cell? ⟨w.heap.size, 1, none⟩ = some (.slice Aa wsa.length Ca) := HBXa.out.cell 1
  replace lXa := HBXa.out.lt
  replace fXa0 := HBXa.out.free 0
  replace fXa1 := HBXa.out.free 1
  replace HBR := Lib.hid (HBR.out.frm hs13 id)
  replace cR0 : w3.cell? ⟨R, 0, none⟩ = some (.int .i64 0) := HBR.out.cell 0
  replace cR1 : w3.cell? ⟨R, 1, none⟩ = some (.slice none 0 0) := HBR.out.cell 1
  replace lR := HBR.out.lt
  replace fR0 := HBR.out.free 0
  replace fR1 := HBR.out.free 1
  replace HS1 := Lib.hid (HS1.out.trans hs13 (fun _ _ h => h))
  clear hs13
  go_wp2_with (fail)
  refine (values_any n Ca Aa wsa w3 (Ha.out.same HS1.out) HFa.out).mono ?_
  rintro e w4 ⟨Al, CL, rfl, hNB⟩
  rw [HM.out] at hNB ⊢
  obtain ⟨L, rfl, hLl⟩ := Own.form1 hNB.1 (by rw [vals_len]; exact hMp)
  have hLn : w3.heap.size ≤ L := hNB.2.1 L ⟨_, rfl, rfl⟩
  have hsv := hNB.2.2
  have hOL := hNB.1
  rw [vals_len] at hOL
  have HOL := Lib.hid hOL
  clear hNB hOL
  have hneXL : w.heap.size ≠ L := by have := HBXa.out.lt; omega
  have hneRL : R ≠ L := by have := HBR.out.lt; omega
  replace HBXa := Lib.hid (HBXa.out.frm hsv id)
  replace cXa0 : w4.cell? ⟨w.heap.size, 0, none⟩ = some (.int .i64 n) := HBXa.out.cell 0
  replace cXa1 : w4.cell? ⟨w.heap.size, 1, none⟩ = some (.slice Aa wsa.length Ca) := HBXa.out.cell 1
  replace lXa := HBXa.out.lt
  replace fXa0 := HBXa.out.free 0
  replace fXa1 := HBXa.out.free 1
  replace HBR := Lib.hid (HBR.out.frm hsv id)
  replace cR0 : w4.cell? ⟨R, 0, none⟩ = some (.int .i64 0) := HBR.out.cell 0
  replace cR1 : w4.cell? ⟨R, 1, none⟩ = some (.slice none 0 0) := HBR.out.cell 1
  replace lR := HBR.out.lt
  replace fR0 := HBR.out.free 0
  replace fR1 := HBR.out.free 1
  replace HS1 := Lib.hid (HS1.out.trans hsv (fun _ _ h => h))
  clear hsv
  have hmk := fun w => run_make_n (P := Try.prog) Try.underlying26 info_bool .i64 .i64 M (show 1 * M ≤ 281474976710656 by omega) (show M ≤ 9223372036854775807 by omega) w
  go_upto_region 6 with fail
  refine wp_world fun w5 hw5 => ?_
  have hsv : Same w4 w5 := by rw [hw5]; exact (Frm.refl _ _).alloc _
  have hOD : OwnB w5 (some ⟨w4.heap.size, 0, none⟩) M M (vals M (mixF G (fun _ => false) 0)) := by
    rw [vals_zero, vals_false, hw5]
    have := Own.ofMade (m := 1) w4 4 (fun b : Bool => [.bool b]) (fun _ => rfl) (by decide) false M (show M ≤ 9223372036854775807 by omega) rfl
    simpa using this
  clear hw5 hmk
  obtain ⟨D, hD⟩ : ∃ D, w4.heap.size = D := ⟨_, rfl⟩
  rw [hD] at hOD ⊢
  have hneLD : L ≠ D := by omega
  have hneXaD : w.heap.size ≠ D := by have := HBXa.out.lt; omega
  have hneRD : R ≠ D := by have := HBR.out.lt; omega
  have hDn : w.heap.size ≤ D := by have := HS1.out.size; omega
  replace HOL := Lib.hid (Own.frm HOL.out hsv (fun _ _ => id))
  have HOD := Lib.hid hOD
  have hDl5 : D < w5.heap.size := by
    obtain ⟨h, _⟩ := OwnB.cell hOD hMp
    exact h
  clear hD hOD hLl hLn
  replace HBXa := Lib.hid (HBXa.out.frm hsv id)
  replace cXa0 : w5.cell? ⟨w.heap.size, 0, none⟩ = some (.int .i64 n) := HBXa.out.cell 0
  replace cXa1 : w5.cell? ⟨w.heap.size, 1, none⟩ = some (.slice Aa wsa.length Ca) := HBXa.out.cell 1
  replace lXa := HBXa.out.lt
  replace fXa0 := HBXa.out.free 0
  replace fXa1 := HBXa.out.free 1
  replace HBR := Lib.hid (HBR.out.frm hsv id)
  replace cR0 : w5.cell? ⟨R, 0, none⟩ = some (.int .i64 0) := HBR.out.cell 0
  replace cR1 : w5.cell? ⟨R, 1, none⟩ = some (.slice none 0 0) := HBR.out.cell 1
  replace lR := HBR.out.lt
  replace fR0 := HBR.out.free 0
  replace fR1 := HBR.out.free 1
  replace HS1 := Lib.hid (HS1.out.trans hsv (fun _ _ h => h))
  clear hsv
  go_wp2
  go_loopw [24] (fun i wr => ∃ k : Nat, k ≤ M ∧ i = .int .i64 k ∧ Same w wr ∧ Blk wr w.heap.size 24 #[.int .i64 n, .slice Aa wsa.length Ca] ∧ Blk wr R 24 #[.int .i64 0, .slice none 0 0] ∧ OwnB wr (some ⟨L, 0, none⟩) M CL (vals M (vb wsa)) ∧ OwnB wr (some ⟨D, 0, none⟩) M M (vals M (mixF G (fun _ => false) k))) (fun i _ => M - (intOf i).toNat)
  case atStart => exact ⟨0, by omega, rfl, HS1.out, HBXa.out, HBR.out, HOL.out, HOD.out⟩
  case round =>
    obtain ⟨k, hk, rfl, hs, hBXa, hBR, hOL, hOD⟩ := hrel
    have HSr := Lib.hid hs
    have HBrXa := Lib.hid hBXa
    have HBrR := Lib.hid hBR
    have HOrL := Lib.hid hOL
    by_cases hlt : k < M
    · have hk0 : (0 : Int) ≤ k := by omega
      have hk1 : (k : Int) < M := by omega
      have HST := Lib.hid (OwnB.put hOD hlt)
      obtain ⟨hDl, hDc⟩ := OwnB.cell hOD hlt
      have hDf := Own.free hOD k
      have hw0 := HWL.out k false hlt
      have hw1 := HWL.out k true hlt
      obtain ⟨ix, hix⟩ : ∃ ix, wth k V false = ix := ⟨_, rfl⟩
      obtain ⟨iy, hiy⟩ : ∃ ix, wth k V true = ix := ⟨_, rfl⟩
      have hGk : (vb wsa (wth k V false) || vb wsa (wth k V true)) = G k := by rw [← HG.out]; rfl
      rw [hix] at hw0
      rw [hiy] at hw1
      rw [hix, hiy] at hGk
      have hwi : ∀ w', Calls Try.prog 55 #[.int .i64 k, .int .i64 V, .bool false] w' fun e w'' => e = .returned (.int .i64 (ix : Nat)) ∧ w' = w'' := fun w' => by
        rw [← hix]
        exact with_any k V false w' (by omega) (by omega)
      have hwj : ∀ w', Calls Try.prog 55 #[.int .i64 k, .int .i64 V, .bool true] w' fun e w'' => e = .returned (.int .i64 (iy : Nat)) ∧ w' = w'' := fun w' => by
        rw [← hiy]
        exact with_any k V true w' (by omega) (by omega)
      obtain ⟨hLl, hLc⟩ := OwnB.cell hOL hw0
      obtain ⟨_, hLd⟩ := OwnB.cell hOL hw1
      have hix0 : (0 : Int) ≤ ix := by omega
      have hix1 : (ix : Int) < M := by omega
      have hiy0 : (0 : Int) ≤ iy := by omega
      have hiy1 : (iy : Int) < M := by omega
      have HWI := Lib.hid hwi
      have HWJ := Lib.hid hwj
      clear hs hBXa hBR hOL hOD hwi hwj hix hiy
      generalize G k = g at *
      generalize vb wsa ix = g0 at *
      generalize vb wsa iy = g1 at *
      go_wp2_with (fail)
      refine (HWI.out wr).mono ?_
      rintro e w6 ⟨rfl, rfl⟩
      subst hGk
      cases g0
      · go_wp2_with (fail)
        refine (HWJ.out wr).mono ?_
        rintro e w6 ⟨rfl, rfl⟩
        rw [Bool.false_or] at HST
        go_wp2
        go_roundw
        case rel => exact ⟨k + 1, by omega, by go_num, HSr.out.setNew k _ hDn, HBrXa.out.far (p := ⟨D, k, none⟩) hneXaD _, HBrR.out.far (p := ⟨D, k, none⟩) hneRD _, Own.far (p := ⟨D, k, none⟩) HOrL.out (fun a ha h => by injection ha with ha; subst ha; exact hneLD h) _, HST.out⟩
        case measure => simp [intOf]; omega
      · rw [Bool.true_or] at HST
        go_wp2
        go_roundw
        case rel => exact ⟨k + 1, by omega, by go_num, HSr.out.setNew k _ hDn, HBrXa.out.far (p := ⟨D, k, none⟩) hneXaD _, HBrR.out.far (p := ⟨D, k, none⟩) hneRD _, Own.far (p := ⟨D, k, none⟩) HOrL.out (fun a ha h => by injection ha with ha; subst ha; exact hneLD h) _, HST.out⟩
        case measure => simp [intOf]; omega
    · obtain rfl : k = M := by omega
      rw [vals_full] at hOD
      have HODr := Lib.hid hOD
      have cXa0 : wr.cell? ⟨w.heap.size, 0, none⟩ = some (.int .i64 n) := hBXa.cell 0
      have fXa0 := hBXa.free 0
      have cXa1 : wr.cell? ⟨w.heap.size, 1, none⟩ = some (.slice Aa wsa.length Ca) := hBXa.cell 1
      have fXa1 := hBXa.free 1
      have lXa := hBXa.lt
      have cR0 : wr.cell? ⟨R, 0, none⟩ = some (.int .i64 0) := hBR.cell 0
      have fR0 := hBR.free 0
      have cR1 : wr.cell? ⟨R, 1, none⟩ = some (.slice none 0 0) := hBR.cell 1
      have fR1 := hBR.free 1
      have lR := hBR.lt
      clear hs  hBXa  hBR  hOL  hOD
      go_wp2_with (fail)
      rw [← HM.out] at HODr ⊢
      refine (rof_any n _ (some ⟨D, 0, none⟩) G wr hn (Own.sl (fun _ => rfl) HODr.out)).mono ?_
      rintro e w8 ⟨Aq, Cq, rfl, hNT⟩
      have hoq := hNT.1
      have hfq := hNT.2.1
      have hsq := hNT.2.2
      have hRq : ∀ a, Aq = some a → a.block ≠ R := fun a ha h => by
        have := hfq a.block ⟨a, ha, rfl⟩
        omega
      have HBRq := Lib.hid (HBrR.out.frm hsq id)
      have HSq := Lib.hid (HSr.out.trans hsq (fun _ _ h => h))
      have hfq' : Fresh w.heap.size Aq := fun b hb => by have := hfq b hb; have := HSr.out.size; omega
      have HOQ := Lib.hid hoq
      have HFQ := Lib.hid hfq'
      have hcR0 : w8.cell? ⟨R, 0, none⟩ = some (.int .i64 0) := HBRq.out.cell 0
      have hcR1 : w8.cell? ⟨R, 1, none⟩ = some (.slice none 0 0) := HBRq.out.cell 1
      have hfR0 := HBRq.out.free 0
      have hfR1 := HBRq.out.free 1
      have hlR := HBRq.out.lt
      clear hNT hoq hfq hsq hfq'
      go_wp2
      refine wp_post fun we hwe => ?_
      have hBE : Blk we R 24 #[.int .i64 n, .slice Aq (tab n G).length Cq] := by
        rw [hwe]
        have := (HBRq.out.set 0 (.int .i64 n)).set 1 (.slice Aq (tab n G).length Cq)
        simpa using this
      have hSE : Same w we := by rw [hwe]; exact (HSq.out.setNew 0 _ leR).setNew 1 _ leR
      have hOE : OwnW we Aq (tab n G).length Cq (tab n G) := by
        rw [hwe]
        exact (Own.far (p := ⟨R, 0, none⟩) HOQ.out hRq _).far (p := ⟨R, 1, none⟩) hRq _
      have hr0 : we.cell? ⟨R, 0, none⟩ = some (.int .i64 n) := hBE.cell 0
      have hr1 : we.cell? ⟨R, 1, none⟩ = some (.slice Aq (tab n G).length Cq) := hBE.cell 1
      clear hwe hBE
      refine bodyPost_ret (v := .tuple #[.agg #[.int .i64 n, .slice Aq (tab n G).length Cq], .int .i64 0]) (by simp [results, Try.results19, go_sem, hr0, hr1]) rfl ?_
      exact ⟨Aq, Cq, rfl, hOE, HFQ.out, hSE⟩
end Go.Proofs.Ytlggmoghgoeiiaa


/- Truth tables: Count of the program; Twin of the reference; small, alike. -/
namespace Go.Proofs.Ytlggmoghgoeiiaa
open Go.RowKit Go.Tk

theorem u_flat : ∀ ws : List Nat, ws.flatMap ucell = ws.map fun x : Nat => Value.int .u64 (x : Int)
  | [] => rfl
  | x :: ws => by rw [List.flatMap_cons, List.map_cons, u_flat ws]; rfl
theorem same_grown {w0 w1 : World} {A : Option Addr} {N C : Nat} (hg : w0.grownBy w1 (Value.slice A N C).ownBlock) (hA : Fresh w0.heap.size A) : Same w0 w1 := (Frm.refl _ _).grown hg (fun g hg => .inr (hA g (ownBlock_row.1 hg)))
/-- the ones of the first k words -/
def popS (ws : List Nat) (k : Nat) : Nat := ((ws.take k).map popc).sum
theorem popc_le (x : Nat) : popc x ≤ 64 := cntB_le _ 64
theorem popS_succ {ws : List Nat} {k x : Nat} (h : ws[k]? = some x) : popS ws (k + 1) = popS ws k + popc x := by
  unfold popS
  rw [List.take_add_one, h]
  simp
theorem popS_le (ws : List Nat) : ∀ k, popS ws k ≤ 64 * k
  | 0 => by simp [popS]
  | k + 1 => by
    have ih := popS_le ws k
    cases h : ws[k]? with
    | none =>
      have : popS ws (k + 1) = popS ws k := by
        unfold popS
        rw [List.take_add_one, h]
        simp
      omega
    | some x =>
      rw [popS_succ h]
      have := popc_le x
      omega
set_option maxRecDepth 100000 in
set_option maxHeartbeats 4000000 in
theorem Count_any (Na : Int) (Aa : Option Addr) (Ca : Nat) (wsa : List Nat) (w : World) (h : TbOk w ⟨Na, Aa, Ca, wsa⟩) : Calls Try.prog 22 #[.agg #[.int .i64 Na, .slice Aa wsa.length Ca]] w fun e w' => e = .returned (.tuple #[.int .u64 ((if frm Na wsa then popS wsa wsa.length else 0 : Nat) : Nat), .int .i64 (fmE (frm Na wsa))]) ∧ Same w w' := by
  have H := Lib.hid h
  clear h
  cases hfr : frm Na wsa with
  | false =>
    rw [if_neg (by decide), show fmE false = 5 from rfl]
    have HFM := Lib.hid ((frm_one Na Aa Ca wsa).trans hfr)
    clear hfr
    go_enter Try.func22, Try.ntmps22
    go_upto_region 1 with fail
    refine wp_world fun w1 hw1 => ?_
    have hs1 : Same w w1 := by rw [hw1]; exact (Frm.refl _ _).alloc _
    have hBXa : Blk w1 (w.heap.size) 24 #[.int .i64 Na, .slice Aa wsa.length Ca] := by
      rw [hw1]
      have := (Blk.new w 24 #[.int .i64 Na, .slice Aa wsa.length Ca])
      simpa using this
    clear hw1
    have cXa0 : w1.cell? ⟨w.heap.size, 0, none⟩ = some (.int .i64 Na) := hBXa.cell 0
    have cXa1 : w1.cell? ⟨w.heap.size, 1, none⟩ = some (.slice Aa wsa.length Ca) := hBXa.cell 1
    have lXa := hBXa.lt
    have fXa0 := hBXa.free 0
    have fXa1 := hBXa.free 1
    have HBXa := Lib.hid hBXa
    have HS1 := Lib.hid hs1
    clear hs1 hBXa
    have HOKa := Lib.hid (H.out.same HS1.out)
    go_wp2_with (fail)
    refine call_world fun w2 hw2 => ?_
    have hs2 : Same w1 w2 := by rw [hw2]; exact (Frm.refl _ _).alloc _
    have hBL : Blk w2 w1.heap.size 24 #[.int .i64 Na, .slice Aa wsa.length Ca] := by rw [hw2]; exact Blk.new _ _ _
    have htbs : Tbs w2 w1.heap.size [⟨Na, Aa, Ca, wsa⟩] := by
      intro i t hi
      match i, hi with
      | 0, hi =>
        simp only [List.getElem?_cons_zero, Option.some.injEq] at hi
        subst hi
        exact ⟨hBL.lt, hBL.cell 0, hBL.cell 1⟩
      | i + 1, hi => simp at hi
    have hfc := form_any w1.heap.size 1 1 [⟨Na, Aa, Ca, wsa⟩] w2 rfl (by decide) htbs (fun t ht => by
      simp only [List.mem_cons, List.not_mem_nil, or_false] at ht
      rcases ht with rfl
      · exact (HOKa.out).same hs2)
    rw [HFM.out] at hfc
    refine hfc.mono ?_
    clear hfc htbs hBL hw2
    rintro e w3 ⟨rfl, hs3⟩
    have hs13 : Same w1 w3 := hs2.trans hs3 (fun _ _ h => h)
    clear hs2 hs3
    replace HBXa := Lib.hid (HBXa.out.frm hs13 id)
    replace cXa0 : w3.cell? ⟨w.heap.size, 0, none⟩ = some (.int .i64 Na) := HBXa.out.cell 0
    replace cXa1 : w3.cell? ⟨w.heap.size, 1, none⟩ = some (.slice Aa wsa.length Ca) := HBXa.out.cell 1
    replace lXa := HBXa.out.lt
    replace fXa0 := HBXa.out.free 0
    replace fXa1 := HBXa.out.free 1
    replace HS1 := Lib.hid (HS1.out.trans hs13 (fun _ _ h => h))
    clear hs13
    go_wp2
    go_ret2
    exact ⟨rfl, HS1.out⟩
  | true =>
    obtain ⟨n, rfl, hform⟩ := frm_true hfr
    rw [if_pos rfl, show fmE true = 0 from rfl]
    obtain ⟨pf, hpf⟩ : ∃ p, popS wsa wsa.length = p := ⟨_, rfl⟩
    rw [hpf]
    have HPF := Lib.hid hpf
    clear hpf
    have HFM := Lib.hid ((frm_one n Aa Ca wsa).trans hfr)
    have hn := hform.n16
    have hl16 : wsa.length ≤ 1024 := by rw [hform.len]; exact nw_le hn
    clear hfr hform
    go_enter Try.func22, Try.ntmps22
    go_upto_region 1 with fail
    refine wp_world fun w1 hw1 => ?_
    have hs1 : Same w w1 := by rw [hw1]; exact (Frm.refl _ _).alloc _
    have hBXa : Blk w1 (w.heap.size) 24 #[.int .i64 n, .slice Aa wsa.length Ca] := by
      rw [hw1]
      have := (Blk.new w 24 #[.int .i64 n, .slice Aa wsa.length Ca])
      simpa using this
    clear hw1
    have cXa0 : w1.cell? ⟨w.heap.size, 0, none⟩ = some (.int .i64 n) := hBXa.cell 0
    have cXa1 : w1.cell? ⟨w.heap.size, 1, none⟩ = some (.slice Aa wsa.length Ca) := hBXa.cell 1
    have lXa := hBXa.lt
    have fXa0 := hBXa.free 0
    have fXa1 := hBXa.free 1
    have HBXa := Lib.hid hBXa
    have HS1 := Lib.hid hs1
    clear hs1 hBXa
    have HOKa := Lib.hid (H.out.same HS1.out)
    go_wp2_with (fail)
    refine call_world fun w2 hw2 => ?_
    have hs2 : Same w1 w2 := by rw [hw2]; exact (Frm.refl _ _).alloc _
    have hBL : Blk w2 w1.heap.size 24 #[.int .i64 n, .slice Aa wsa.length Ca] := by rw [hw2]; exact Blk.new _ _ _
    have htbs : Tbs w2 w1.heap.size [⟨n, Aa, Ca, wsa⟩] := by
      intro i t hi
      match i, hi with
      | 0, hi =>
        simp only [List.getElem?_cons_zero, Option.some.injEq] at hi
        subst hi
        exact ⟨hBL.lt, hBL.cell 0, hBL.cell 1⟩
      | i + 1, hi => simp at hi
    have hfc := form_any w1.heap.size 1 1 [⟨n, Aa, Ca, wsa⟩] w2 rfl (by decide) htbs (fun t ht => by
      simp only [List.mem_cons, List.not_mem_nil, or_false] at ht
      rcases ht with rfl
      · exact (HOKa.out).same hs2)
    rw [HFM.out] at hfc
    refine hfc.mono ?_
    clear hfc htbs hBL hw2
    rintro e w3 ⟨rfl, hs3⟩
    have hs13 : Same w1 w3 := hs2.trans hs3 (fun _ _ h => h)
    clear hs2 hs3
    replace HBXa := Lib.hid (HBXa.out.frm hs13 id)
    replace cXa0 : w3.cell? ⟨w.heap.size, 0, none⟩ = some (.int .i64 n) := HBXa.out.cell 0
    replace cXa1 : w3.cell? ⟨w.heap.size, 1, none⟩ = some (.slice Aa wsa.length Ca) := HBXa.out.cell 1
    replace lXa := HBXa.out.lt
    replace fXa0 := HBXa.out.free 0
    replace fXa1 := HBXa.out.free 1
    replace HS1 := Lib.hid (HS1.out.trans hs13 (fun _ _ h => h))
    clear hs13
    obtain ⟨L, hL⟩ : ∃ L, wsa.length = L := ⟨_, rfl⟩
    rw [hL] at cXa1 hl16 ⊢
    have HL := Lib.hid hL
    clear hL
    go_wp2
    go_loopw [4, 14] (fun s i wr => ∃ k : Nat, k ≤ L ∧ i = .int .i64 k ∧ s = .int .i64 (popS wsa k : Nat) ∧ w3 = wr) (fun _ i _ => L - (intOf i).toNat)
    case atStart => exact ⟨0, by omega, rfl, by simp [popS], rfl⟩
    case round =>
      obtain ⟨k, hk, rfl, rfl, rfl⟩ := hrel
      have hpl := popS_le wsa k
      by_cases hlt : k < L
      · have hk0 : (0 : Int) ≤ k := by omega
        have hk1 : (k : Int) < L := by omega
        obtain ⟨x, hx⟩ : ∃ x, wsa[k]? = some x := ⟨_, List.getElem?_eq_getElem (by rw [HL.out]; exact hlt)⟩
        obtain ⟨bq, offq, hA, hbl, hcq⟩ := WL.at1 (Sl.same H.out.wl HS1.out) hx
        simp only at hA
        subst hA
        have hsc := popS_succ hx
        have hxs := H.out.small.at1 hx
        have hpx := popc_le x
        have hone := fun w => ones_any x w hxs
        generalize popc x = px at *
        have HONE := Lib.hid hone
        have HSC := Lib.hid hsc
        clear hsc hx hone
        generalize popS wsa k = ps at *
        have hq : wrap64 ((ps : Int) + px) = ((ps + px : Nat) : Int) := by rw [IntWalk.wrap64_in _ (by omega)]; omega
        go_wp2_with (fail)
        refine (HONE.out w3).mono ?_
        rintro e w4 ⟨rfl, rfl⟩
        go_wp2
        go_roundw
        case rel => exact ⟨k + 1, by omega, by go_num, by rw [HSC.out]; go_num, trivial⟩
        case measure => simp [intOf]; omega
      · obtain rfl : k = L := by omega
        have hq : IntKind.u64.wrap ((popS wsa k : Nat) : Int) = ((popS wsa k : Nat) : Int) := IntWalk.u64_in _ (by omega)
        have hpe : popS wsa k = pf := by rw [← HPF.out, HL.out]
        rw [hpe] at hq hpl ⊢
        clear hpe
        go_wp2
        go_ret2
        exact ⟨rfl, HS1.out⟩

set_option maxHeartbeats 1000000 in
theorem rtwin_any (N : Int) (A : Option Addr) (C : Nat) (ws : List Nat) (w : World) (h : WL w A ws.length ws) (hr : ws.length * 8 ≤ 140737488351232) :
    Calls Try.prog 15 #[.agg #[.int .i64 N, .slice A ws.length C]] w (RetT w N ws) := by
  have H := Lib.hid h
  clear h
  go_enter Try.func15, Try.ntmps15
  go_upto_region 2 with fail
  refine wp_world fun w1 hw1 => ?_
  have hs1 : Same w w1 := by rw [hw1]; exact ((Frm.refl _ _).alloc _).alloc _
  have hBXa : Blk w1 (w.heap.size) 24 #[.int .i64 N, .slice A ws.length C] := by
    rw [hw1]
    have := ((Blk.new w 24 #[.int .i64 N, .slice A ws.length C]).alloc (.cells #[.int .i64 0, .slice none 0 0] 24))
    simpa using this
  have hBR : Blk w1 (w.heap.size + 1) 24 #[.int .i64 0, .slice none 0 0] := by
    rw [hw1]
    have := (Blk.new (w.alloc (.cells #[.int .i64 N, .slice A ws.length C] 24)) 24 #[.int .i64 0, .slice none 0 0])
    simpa using this
  clear hw1
  obtain ⟨R, hR⟩ : ∃ b, w.heap.size + 1 = b := ⟨_, rfl⟩
  rw [hR] at hBR ⊢
  have leR : w.heap.size ≤ R := by omega
  have neXaR : w.heap.size ≠ R := by omega
  clear hR
  have cXa0 : w1.cell? ⟨w.heap.size, 0, none⟩ = some (.int .i64 N) := hBXa.cell 0
  have cXa1 : w1.cell? ⟨w.heap.size, 1, none⟩ = some (.slice A ws.length C) := hBXa.cell 1
  have lXa := hBXa.lt
  have fXa0 := hBXa.free 0
  have fXa1 := hBXa.free 1
  have HBXa := Lib.hid hBXa
  have cR0 : w1.cell? ⟨R, 0, none⟩ = some (.int .i64 0) := hBR.cell 0
  have cR1 : w1.cell? ⟨R, 1, none⟩ = some (.slice none 0 0) := hBR.cell 1
  have lR := hBR.lt
  have fR0 := hBR.free 0
  have fR1 := hBR.free 1
  have HBR := Lib.hid hBR
  have HS1 := Lib.hid hs1
  clear hs1 hBXa hBR
  refine wp_read 3 ?_
  simp only [List.take_succ_cons, List.take_zero, List.drop_succ_cons, List.drop_zero]
  repeat (any_goals (first | go_big_quiet_step (fail) | quiet_step (fail)))
  refine wpQuiet_nil ?_
  refine wpList_plain rfl fun K hK => ?_
  refine Own.append_many (.tmp 4) (.tmp 6) _ rfl Try.underlying22 info_u64 rfl (by omega) rfl (Own.nil w1 _ _ _) ucell_len ws A C rfl (fun hne => ?_) (by simp [ucell, Value.oneCell']) (by simp [maxLen]; omega) (by simp; omega) ?_
  · obtain ⟨x, hx0⟩ : ∃ x, ws[0]? = some x := ⟨_, List.getElem?_eq_getElem (List.length_pos_iff.2 hne)⟩
    obtain ⟨b, off, rfl, _, _⟩ := WL.at1 (Sl.same H.out HS1.out) hx0
    refine ⟨_, rfl, fun j u hj => ?_⟩
    have hfm : ws.flatMap ucell = ws.map fun x : Nat => Value.int .u64 (x : Int) := u_flat ws
    rw [hfm, List.getElem?_map] at hj
    obtain ⟨x', hx', rfl⟩ := Option.map_eq_some_iff.1 hj
    obtain ⟨b2, off2, hA, _, hc⟩ := WL.at1 (Sl.same H.out HS1.out) hx'
    injection hA with hA
    injection hA with h1 h2
    subst h1 h2
    by_cases hj0 : j = 0
    · subst hj0; simpa [Addr.add] using hc
    · simpa [Addr.add, hj0] using hc
  intro Aq Cq wq hoq hgq hrq
  rw [List.nil_append] at hoq
  have hsq : Same w1 wq := same_grown hgq (fresh_none _)
  have hfq' : Fresh w.heap.size Aq := fun b hb => by
    have := HS1.out.size
    rcases hrq b hb with ⟨a, h, _⟩ | h
    · cases h
    · omega
  have hRq : ∀ a, Aq = some a → a.block ≠ R := fun a ha h => by
    rcases hrq a.block ⟨a, ha, rfl⟩ with ⟨a, h, _⟩ | h
    · cases h
    · omega
  have HBRq := Lib.hid (HBR.out.frm hsq id)
  have HBXq := Lib.hid (HBXa.out.frm hsq id)
  have HSq := Lib.hid (HS1.out.trans hsq (fun _ _ h => h))
  have HOQ := Lib.hid hoq
  have HFQ := Lib.hid hfq'
  refine hK _ _ ?_
  clear hK K
  have hcR0 : wq.cell? ⟨R, 0, none⟩ = some (.int .i64 0) := HBRq.out.cell 0
  have hcR1 : wq.cell? ⟨R, 1, none⟩ = some (.slice none 0 0) := HBRq.out.cell 1
  have hfR0 := HBRq.out.free 0
  have hfR1 := HBRq.out.free 1
  have hlR := HBRq.out.lt
  have hcX0 : wq.cell? ⟨w.heap.size, 0, none⟩ = some (.int .i64 N) := HBXq.out.cell 0
  have hcX1 : wq.cell? ⟨w.heap.size, 1, none⟩ = some (.slice A ws.length C) := HBXq.out.cell 1
  have hlX := HBXq.out.lt
  clear hgq hrq hoq hfq' hsq cXa0 cXa1 fXa0 fXa1 cR0 cR1 fR0 fR1 lXa lR
  go_wp2
  refine wp_post fun we hwe => ?_
  have hBE : Blk we R 24 #[.int .i64 N, .slice Aq ws.length Cq] := by
    rw [hwe]
    have := (HBRq.out.set 0 (.int .i64 N)).set 1 (.slice Aq ws.length Cq)
    simpa using this
  have hSE : Same w we := by rw [hwe]; exact (HSq.out.setNew 0 _ leR).setNew 1 _ leR
  have hOE : OwnW we Aq ws.length Cq ws := by
    rw [hwe]
    exact (Own.far (p := ⟨R, 0, none⟩) HOQ.out hRq _).far (p := ⟨R, 1, none⟩) hRq _
  have hr0 : we.cell? ⟨R, 0, none⟩ = some (.int .i64 N) := hBE.cell 0
  have hr1 : we.cell? ⟨R, 1, none⟩ = some (.slice Aq ws.length Cq) := hBE.cell 1
  clear hwe hBE
  refine bodyPost_ret (v := .agg #[.int .i64 N, .slice Aq ws.length Cq]) (by simp [results, Try.results15, go_sem, hr0, hr1]) rfl ?_
  exact ⟨Aq, Cq, rfl, hOE, HFQ.out, hSE⟩
end Go.Proofs.Ytlggmoghgoeiiaa


/- Truth tables: small, alike, awake. -/
namespace Go.Tk
open Go.RowKit Go.Sort
theorem effStep_on {P : Program} {ops : Array Oper} {C : World → Prop} {o : Oper} {a : Act} {w : World} {K : Act → World → Prop} (hg : Region.wanted o (yielded ops a.tmps) = true)
    (h : ∀ K' : Act → World → Prop, (∀ a w, C w → K a w → K' a w) → o.wp P a w K' (fun _ _ _ => False)) : effStep P ops C o a w K := by
  have h1 := h (fun a w => C w ∧ K a w) (fun a w hc hw => ⟨hc, hw⟩)
  unfold effStep
  rw [if_pos hg]
  exact h1
end Go.Tk
namespace Go.Proofs.Ytlggmoghgoeiiaa
open Go.RowKit Go.Tk

theorem small_any (x : Nat) (w : World) : Calls Try.prog 50 #[.int .u64 x] w (RetT w 2 [x]) := by
  go_enter Try.func50, Try.ntmps50
  go_wp2
  refine wp_post fun we hwe => ?_
  have hBE : Blk we w.heap.size 24 #[.int .i64 2, .slice (some ⟨w.heap.size + 1, 0, none⟩) 1 1] := by
    rw [hwe]
    exact (Blk.new w 24 #[.int .i64 2, .slice (some ⟨w.heap.size + 1, 0, none⟩) 1 1]).alloc _
  have hOE : OwnW we (some ⟨w.heap.size + 1, 0, none⟩) 1 1 [x] := by
    rw [hwe]
    have := Own.lit (w.alloc (.cells #[.int .i64 2, .slice (some ⟨w.heap.size + 1, 0, none⟩) 1 1] 24)) 38 ucell ucell_len [x] (by simp [maxLen]) (cs := #[.int .u64 x]) rfl
    simpa using this
  have hSE : Same w we := by rw [hwe]; exact ((Frm.refl _ _).alloc _).alloc _
  have hr0 : we.cell? ⟨w.heap.size, 0, none⟩ = some (.int .i64 2) := hBE.cell 0
  have hr1 : we.cell? ⟨w.heap.size, 1, none⟩ = some (.slice (some ⟨w.heap.size + 1, 0, none⟩) 1 1) := hBE.cell 1
  clear hwe hBE
  refine bodyPost_ret (v := .agg #[.int .i64 2, .slice (some ⟨w.heap.size + 1, 0, none⟩) 1 1]) (by simp [results, Try.results50, go_sem, hr0, hr1]) rfl ?_
  exact ⟨some ⟨w.heap.size + 1, 0, none⟩, 1, rfl, hOE, fresh_some (Nat.le_succ _), hSE⟩
set_option maxHeartbeats 1000000 in
theorem alike_any (Na : Int) (Aa : Option Addr) (La Ca : Nat) (wsa : List Nat) (e : Int) (Nb : Int) (Ab : Option Addr) (Lb Cb : Nat) (wsb : List Nat) (f : Int) (w : World) (ha : WL w Aa La wsa) (hb : WL w Ab Lb wsb) (hbd : La ≤ 1000000000000000000) :
    Calls Try.prog 17 #[.agg #[.int .i64 Na, .slice Aa La Ca], .int .i64 e, .agg #[.int .i64 Nb, .slice Ab Lb Cb], .int .i64 f] w fun x w' => x = .returned (.bool (sm Na Nb wsa wsb && (e == f))) ∧ Same w w' := by
  have HA := Lib.hid ha
  have HB := Lib.hid hb
  have HBD := Lib.hid hbd
  obtain ⟨r, hr⟩ : ∃ r, sm Na Nb wsa wsb = r := ⟨_, rfl⟩
  rw [hr]
  have HR := Lib.hid hr
  clear ha hb hr hbd
  go_enter Try.func17, Try.ntmps17
  go_upto_region 1 with fail
  refine wp_world fun w1 hw1 => ?_
  have hs1 : Same w w1 := by rw [hw1]; exact ((Frm.refl _ _).alloc _).alloc _
  have hBXa : Blk w1 (w.heap.size) 24 #[.int .i64 Na, .slice Aa La Ca] := by
    rw [hw1]
    have := ((Blk.new w 24 #[.int .i64 Na, .slice Aa La Ca]).alloc (.cells #[.int .i64 Nb, .slice Ab Lb Cb] 24))
    simpa using this
  have hBXb : Blk w1 (w.heap.size + 1) 24 #[.int .i64 Nb, .slice Ab Lb Cb] := by
    rw [hw1]
    have := (Blk.new (w.alloc (.cells #[.int .i64 Na, .slice Aa La Ca] 24)) 24 #[.int .i64 Nb, .slice Ab Lb Cb])
    simpa using this
  clear hw1
  obtain ⟨Xb, hXb⟩ : ∃ b, w.heap.size + 1 = b := ⟨_, rfl⟩
  rw [hXb] at hBXb ⊢
  have leXb : w.heap.size ≤ Xb := by omega
  have neXaXb : w.heap.size ≠ Xb := by omega
  clear hXb
  have cXa0 : w1.cell? ⟨w.heap.size, 0, none⟩ = some (.int .i64 Na) := hBXa.cell 0
  have cXa1 : w1.cell? ⟨w.heap.size, 1, none⟩ = some (.slice Aa La Ca) := hBXa.cell 1
  have lXa := hBXa.lt
  have fXa0 := hBXa.free 0
  have fXa1 := hBXa.free 1
  have HBXa := Lib.hid hBXa
  have cXb0 : w1.cell? ⟨Xb, 0, none⟩ = some (.int .i64 Nb) := hBXb.cell 0
  have cXb1 : w1.cell? ⟨Xb, 1, none⟩ = some (.slice Ab Lb Cb) := hBXb.cell 1
  have lXb := hBXb.lt
  have fXb0 := hBXb.free 0
  have fXb1 := hBXb.free 1
  have HBXb := Lib.hid hBXb
  have HS1 := Lib.hid hs1
  clear hs1 hBXa hBXb
  go_wp2_with (fail)
  refine (same_any Na Aa La Ca wsa Nb Ab Lb Cb wsb w1 (Sl.same HA.out HS1.out) (Sl.same HB.out HS1.out) HBD.out).mono ?_
  rintro x w2 ⟨rfl, hs12⟩
  rw [HR.out]
  have HS2 := Lib.hid (HS1.out.trans hs12 (fun _ _ h => h))
  clear hs12 cXa0 cXa1 fXa0 fXa1 lXa cXb0 cXb1 fXb0 fXb1 lXb
  cases r
  · go_wp2
    go_ret
    exact ⟨rfl, HS2.out⟩
  · go_wp2
    go_ret
    exact ⟨rfl, HS2.out⟩
/-- a table of one word that lies in a block -/
structure Tq (w : World) (T : Nat) (A : Option Addr) (C x : Nat) : Prop where
  blk : Blk w T 24 #[.int .i64 2, .slice A 1 C]
  own : OwnW w A 1 C [x]
theorem Tq.same {w w' : World} {T : Nat} {A : Option Addr} {C x : Nat} (h : Tq w T A C x) (hs : Same w w') : Tq w' T A C x := ⟨h.blk.frm hs id, Own.frm h.own hs (fun _ _ => id)⟩
theorem Tq.make {w w' : World} {A : Option Addr} {C x : Nat} (h : OwnW w A 1 C [x]) (hw : w' = w.alloc (.cells #[.int .i64 2, .slice A 1 C] 24)) : Tq w' w.heap.size A C x ∧ Same w w' := by
  subst hw
  have hs : Same w (w.alloc (.cells #[.int .i64 2, .slice A 1 C] 24)) := (Frm.refl _ _).alloc _
  exact ⟨⟨Blk.new w _ _, Own.frm h hs (fun _ _ => id)⟩, hs⟩
theorem ok_own {w : World} {A : Option Addr} {C x : Nat} (h : OwnW w A 1 C [x]) (hx : x < 18446744073709551616) : TbOk w ⟨2, A, C, [x]⟩ :=
  ⟨h.sl ucell_len, fun y hy => by rw [List.mem_singleton.1 hy]; exact hx⟩
set_option maxRecDepth 100000 in
set_option maxHeartbeats 8000000 in
theorem awake_any (w : World) : Calls Try.prog 13 #[] w fun e w' => e = .returned (.bool true) ∧ Same w w' := by
  have hV := fun w => Var_any 2 0 w
  rw [show varE 2 0 = 0 by decide] at hV
  unfold RetA at hV
  rw [show ansN 2 0 = 2 from rfl, show ansL (tab (2 : Int).toNat (varF (0 : Int).toNat)) 0 = [10] by decide +kernel] at hV
  have hB := fun A0 C0 A1 C1 w h0 h1 => Binary_any 8 2 A0 C0 [10] 2 A1 C1 [12] w (by decide) h0 h1
  simp only [show ∀ A0 C0 A1 C1, binE 8 (fm [⟨2, A0, C0, [10]⟩, ⟨2, A1, C1, [12]⟩]) = 0 from fun _ _ _ _ => by unfold binE fm; simp [Tb.frm, show frm 2 [10] = true by decide +kernel, show frm 2 [12] = true by decide +kernel, fmE]] at hB
  unfold RetA at hB
  rw [show ansN 2 0 = 2 from rfl, show ansL (tab (2 : Int).toNat (binF 8 [10] [12])) 0 = [8] by decide +kernel] at hB
  have hC := fun A0 C0 w h => Cofactor_any 2 A0 C0 [8] 0 true w h
  rw [show ofE 2 0 [8] = 0 by decide +kernel] at hC
  unfold RetA at hC
  rw [show ansN 2 0 = 2 from rfl, show ansL (tab (2 : Int).toNat (hfF (0 : Int).toNat true [8])) 0 = [12] by decide +kernel] at hC
  have hN := fun A0 C0 w h => Count_any 2 A0 C0 [14] w h
  rw [show frm 2 [14] = true by decide +kernel, if_pos rfl, show popS [14] [14].length = 3 by decide +kernel, show fmE true = 0 from rfl] at hN
  have hF := fun A0 C0 w h hb => Form_any 2 A0 1 C0 [15] w h hb
  rw [show frm 2 [15] = true by decide +kernel] at hF
  have hG := fun A0 C0 w h hb => Form_any 2 A0 1 C0 [16] w h hb
  rw [show frm 2 [16] = false by decide +kernel] at hG
  have hS := fun (x : Nat) A0 C0 A1 C1 w h0 h1 => same_any 2 A0 1 C0 [x] 2 A1 1 C1 [x] w h0 h1 (by decide)
  simp only [show ∀ x : Nat, sm 2 2 [x] [x] = true from fun x => by simp [sm]] at hS
  have HV := Lib.hid hV
  have HB := Lib.hid hB
  have HC := Lib.hid hC
  have HN := Lib.hid hN
  have HF := Lib.hid hF
  have HG := Lib.hid hG
  have HSM := Lib.hid hS
  clear hV hB hC hN hF hG hS
  go_enter Try.func13, Try.ntmps13
  go_wp2_with (fail)
  refine (HV.out w).mono ?_
  rintro e wa ⟨A1, C1, rfl, hN⟩
  go_wp2_with (fail)
  refine call_world fun w1 hw1 => ?_
  obtain ⟨hq1, hsv⟩ := Tq.make hN.1 hw1
  have hs := hN.2.2.trans hsv (fun _ _ h => h)
  clear hw1 hN hsv
  generalize wa.heap.size = T1 at *
  refine (small_any 10 w1).mono ?_
  rintro e w2 ⟨Aa, Ca, rfl, hNa⟩
  go_wp2_with (fail)
  refine (small_any 12 w2).mono ?_
  rintro e w3 ⟨Ab, Cb, rfl, hNb⟩
  have hoa : OwnW w3 Aa 1 Ca [10] := Own.frm hNa.1 hNb.2.2 (fun _ _ => id)
  have hob : OwnW w3 Ab 1 Cb [12] := hNb.1
  have hs := (hs.trans hNa.2.2 (fun _ _ h => h)).trans hNb.2.2 (fun _ _ h => h)
  have hq1 := (hq1.same hNa.2.2).same hNb.2.2
  clear hNa hNb
  go_wp2_with (fail)
  refine (HB.out Aa Ca Ab Cb w3 (ok_own hoa (by decide)) (ok_own hob (by decide))).mono ?_
  rintro e wa ⟨A3, C3, rfl, hN⟩
  go_wp2_with (fail)
  refine call_world fun w4 hw4 => ?_
  obtain ⟨hq3, hsv⟩ := Tq.make hN.1 hw4
  have hs := (hs.trans hN.2.2 (fun _ _ h => h)).trans hsv (fun _ _ h => h)
  have hq1 := (hq1.same hN.2.2).same hsv
  clear hw4 hN hsv hoa hob
  generalize wa.heap.size = T3 at *
  refine (small_any 8 w4).mono ?_
  rintro e w5 ⟨Aa, Ca, rfl, hNa⟩
  have hoa : OwnW w5 Aa 1 Ca [8] := hNa.1
  have hs := hs.trans hNa.2.2 (fun _ _ h => h)
  have hq1 := hq1.same hNa.2.2
  have hq3 := hq3.same hNa.2.2
  clear hNa
  go_wp2_with (fail)
  refine (HC.out Aa Ca w5 (ok_own hoa (by decide))).mono ?_
  rintro e wa ⟨A5, C5, rfl, hN⟩
  go_wp2_with (fail)
  refine call_world fun w6 hw6 => ?_
  obtain ⟨hq5, hsv⟩ := Tq.make hN.1 hw6
  have hs := (hs.trans hN.2.2 (fun _ _ h => h)).trans hsv (fun _ _ h => h)
  have hq1 := (hq1.same hN.2.2).same hsv
  have hq3 := (hq3.same hN.2.2).same hsv
  clear hw6 hN hsv hoa
  generalize wa.heap.size = T5 at *
  refine (small_any 14 w6).mono ?_
  rintro e w7 ⟨Aa, Ca, rfl, hNa⟩
  have hoa : OwnW w7 Aa 1 Ca [14] := hNa.1
  have hs := hs.trans hNa.2.2 (fun _ _ h => h)
  have hq1 := hq1.same hNa.2.2
  have hq3 := hq3.same hNa.2.2
  have hq5 := hq5.same hNa.2.2
  clear hNa
  go_wp2_with (fail)
  refine (HN.out Aa Ca w7 (ok_own hoa (by decide))).mono ?_
  rintro e w8 ⟨rfl, hsv⟩
  have HS := Lib.hid (hs.trans hsv (fun _ _ h => h))
  have HQ1 := Lib.hid (hq1.same hsv)
  have HQ3 := Lib.hid (hq3.same hsv)
  have HQ5 := Lib.hid (hq5.same hsv)
  clear hsv hs hq1 hq3 hq5 hoa
  go_upto_region 5 with fail
  refine wp_phS (fun _ => False) [([0], 1), ([], 2), ([3, 4], 5), ([], 6), ([7, 8, 9], 10), ([], 11), ([12, 13, 14, 15, 16, 17, 18, 19, 20, 21, 22, 23, 24, 25, 26, 27, 28, 29, 30, 31, 32, 33], 34), ([], 35), ([36, 37], 38), ([], 39), ([40, 41], 42)] (by kernel_rfl) (by kernel_rfl) ?_
  simp only [wpPh, pick, List.map_cons, List.map_nil, List.getD_cons_zero, List.getD_cons_succ]
  have cA := HQ1.out.blk.cell 0
  have cB := HQ1.out.blk.cell 1
  have lT := HQ1.out.blk.lt
  have dA := HQ3.out.blk.cell 0
  have dB := HQ3.out.blk.cell 1
  have lT3 := HQ3.out.blk.lt
  have eA := HQ5.out.blk.cell 0
  have eB := HQ5.out.blk.cell 1
  have lT5 := HQ5.out.blk.lt
  have hs : Same w8 w8.drew := (Frm.refl _ _).drew
  repeat (any_goals (first | go_big_quiet_step (fail) | quiet_step (fail)))
  refine wpQuiet_nil ?_
  refine effStep_plain rfl fun K hK => ?_
  go_simp
  refine (small_any 10 _).mono ?_
  rintro e u ⟨Az, Cz, rfl, hNz⟩
  have hs := hs.trans hNz.2.2 (fun _ _ h => h)
  have hoz := hNz.1
  refine hK _ _ (Lat.mk_ (Frm.mono hs (fun _ _ h => h.elim))) ?_
  clear hK K hNz
  repeat (any_goals (first | go_big_quiet_step (fail) | quiet_step (fail)))
  refine wpQuiet_nil ?_
  refine effStep_plain rfl fun K hK => ?_
  go_simp
  refine (HSM.out 10 A1 C1 Az Cz _ ((HQ1.out.same hs).own.sl ucell_len) (hoz.sl ucell_len)).mono ?_
  rintro e u ⟨rfl, hsz⟩
  have hs := hs.trans hsz (fun _ _ h => h)
  refine hK _ _ (Lat.mk_ (Frm.mono hs (fun _ _ h => h.elim))) ?_
  clear hK K hsz hoz
  repeat (any_goals (first | go_big_quiet_step (fail) | quiet_step (fail)))
  refine wpQuiet_nil ?_
  refine effStep_on (by rfl) fun K hK => ?_
  go_simp
  refine (small_any 8 _).mono ?_
  rintro e u ⟨Az, Cz, rfl, hNz⟩
  have hs := hs.trans hNz.2.2 (fun _ _ h => h)
  have hoz := hNz.1
  refine hK _ _ (Lat.mk_ (Frm.mono hs (fun _ _ h => h.elim))) ?_
  clear hK K hNz
  repeat (any_goals (first | go_big_quiet_step (fail) | quiet_step (fail)))
  refine wpQuiet_nil ?_
  refine effStep_on (by rfl) fun K hK => ?_
  go_simp
  refine (HSM.out 8 A3 C3 Az Cz _ ((HQ3.out.same hs).own.sl ucell_len) (hoz.sl ucell_len)).mono ?_
  rintro e u ⟨rfl, hsz⟩
  have hs := hs.trans hsz (fun _ _ h => h)
  refine hK _ _ (Lat.mk_ (Frm.mono hs (fun _ _ h => h.elim))) ?_
  clear hK K hsz hoz
  repeat (any_goals (first | go_big_quiet_step (fail) | quiet_step (fail)))
  refine wpQuiet_nil ?_
  refine effStep_on (by rfl) fun K hK => ?_
  go_simp
  refine (small_any 12 _).mono ?_
  rintro e u ⟨Az, Cz, rfl, hNz⟩
  have hs := hs.trans hNz.2.2 (fun _ _ h => h)
  have hoz := hNz.1
  refine hK _ _ (Lat.mk_ (Frm.mono hs (fun _ _ h => h.elim))) ?_
  clear hK K hNz
  repeat (any_goals (first | go_big_quiet_step (fail) | quiet_step (fail)))
  refine wpQuiet_nil ?_
  refine effStep_on (by rfl) fun K hK => ?_
  go_simp
  refine (HSM.out 12 A5 C5 Az Cz _ ((HQ5.out.same hs).own.sl ucell_len) (hoz.sl ucell_len)).mono ?_
  rintro e u ⟨rfl, hsz⟩
  have hs := hs.trans hsz (fun _ _ h => h)
  refine hK _ _ (Lat.mk_ (Frm.mono hs (fun _ _ h => h.elim))) ?_
  clear hK K hsz hoz
  repeat (any_goals (first | go_big_quiet_step (fail) | quiet_step (fail)))
  refine wpQuiet_nil ?_
  refine effStep_on (by rfl) fun K hK => ?_
  go_simp
  refine (small_any 15 _).mono ?_
  rintro e u ⟨Az, Cz, rfl, hNz⟩
  have hs := hs.trans hNz.2.2 (fun _ _ h => h)
  have hoz := hNz.1
  refine hK _ _ (Lat.mk_ (Frm.mono hs (fun _ _ h => h.elim))) ?_
  clear hK K hNz
  repeat (any_goals (first | go_big_quiet_step (fail) | quiet_step (fail)))
  refine wpQuiet_nil ?_
  refine effStep_on (by rfl) fun K hK => ?_
  go_simp
  refine (HF.out Az Cz _ (hoz.sl ucell_len) (ok_own hoz (by decide)).small).mono ?_
  rintro e u ⟨rfl, hsz⟩
  have hs := hs.trans hsz (fun _ _ h => h)
  refine hK _ _ (Lat.mk_ (Frm.mono hs (fun _ _ h => h.elim))) ?_
  clear hK K hsz hoz
  repeat (any_goals (first | go_big_quiet_step (fail) | quiet_step (fail)))
  refine wpQuiet_nil ?_
  refine effStep_on (by rfl) fun K hK => ?_
  go_simp
  refine (small_any 16 _).mono ?_
  rintro e u ⟨Az, Cz, rfl, hNz⟩
  have hs := hs.trans hNz.2.2 (fun _ _ h => h)
  have hoz := hNz.1
  refine hK _ _ (Lat.mk_ (Frm.mono hs (fun _ _ h => h.elim))) ?_
  clear hK K hNz
  repeat (any_goals (first | go_big_quiet_step (fail) | quiet_step (fail)))
  refine wpQuiet_nil ?_
  refine effStep_on (by rfl) fun K hK => ?_
  go_simp
  refine (HG.out Az Cz _ (hoz.sl ucell_len) (ok_own hoz (by decide)).small).mono ?_
  rintro e u ⟨rfl, hsz⟩
  have hs := hs.trans hsz (fun _ _ h => h)
  refine hK _ _ (Lat.mk_ (Frm.mono hs (fun _ _ h => h.elim))) ?_
  clear hK K hsz hoz
  repeat (any_goals (first | go_big_quiet_step (fail) | quiet_step (fail)))
  refine wpQuiet_nil ?_
  go_wp2
  go_ret
  exact ⟨rfl, HS.out.trans hs (fun _ _ h => h)⟩
end Go.Proofs.Ytlggmoghgoeiiaa


/- Truth tables: TruthGives: the walk. -/
namespace Go.Tk
open Go.RowKit
theorem Sl.map {w : World} {m n : Nat} {α β : Type} {f : β → List Value} {A : Option Addr} {xs : List α} (g : α → β) (h : Sl w m (fun x => f (g x)) A n xs) : Sl w m f A n (xs.map g) :=
  ⟨by rw [List.length_map]; exact h.len, fun i y hy => by
    rw [List.getElem?_map] at hy
    obtain ⟨x, hx, rfl⟩ := Option.map_eq_some_iff.1 hy
    exact h.get i x hx⟩
end Go.Tk
namespace Go.Proofs.Ytlggmoghgoeiiaa
open Go.RowKit Go.Tk

abbrev tKs : List Leaf := [.int .i64, .slice 8 [.int .u64]]
def Tb.cells (t : Tb) : List Value := [.int .i64 t.N, .slice t.A t.ws.length t.C]
/-- a table that came in -/
structure TbIn (w : World) (t : Tb) : Prop where
  ok : TbOk w t
  room : t.ws.length * 8 ≤ 140737488351232
theorem u_of {w : World} : ∀ l, CellsOk w [.int .u64] l → ∃ x : {x : Nat // x < 18446744073709551616}, l = ucell x.1 := by
  rintro l ⟨v, vs, rfl, ⟨x, rfl, hx⟩, rfl⟩
  obtain ⟨h0, h1⟩ := bounds_u64 hx
  obtain ⟨n, rfl⟩ := Int.eq_ofNat_of_zero_le h0
  exact ⟨⟨n, by omega⟩, rfl⟩
theorem tb_of {w : World} : ∀ l, CellsOk w tKs l → ∃ t : {t : Tb // TbIn w t}, l = t.1.cells := by
  rintro l ⟨v, vs, rfl, ⟨N, rfl, _⟩, v2, vs2, rfl, h2, rfl⟩
  obtain ⟨A, n, C, xs, rfl, hnc, _, hb, hs⟩ := slice_ok (fun x : {x : Nat // x < 18446744073709551616} => ucell x.1) (by decide) u_of h2
  have h := Sl.map (f := ucell) Subtype.val hs
  obtain rfl := h.len
  refine ⟨⟨⟨N, A, C, xs.map Subtype.val⟩, ⟨⟨h, fun x hx => ?_⟩, Nat.le_trans (Nat.mul_le_mul_right 8 hnc) hb⟩⟩, rfl⟩
  obtain ⟨y, _, rfl⟩ := List.mem_map.1 hx
  exact y.2
theorem ofE_len {N v : Int} {ws : List Nat} {F : Nat → Bool} : (ansL (tab N.toNat F) (ofE N v ws)).length ≤ 1000000000000000000 := by
  unfold ansL
  split
  · rename_i h
    obtain ⟨n, V, rfl, _, hf, _⟩ := ofE_ok h
    rw [tab_len]
    have := nw_le hf.n16
    have h2 : ((n : Int)).toNat = n := Int.toNat_natCast n
    rw [h2]
    omega
  · simp
theorem sm_self (N : Int) (ws : List Nat) : sm N N ws ws = true := by simp [sm]
set_option maxRecDepth 100000 in
set_option maxHeartbeats 8000000 in
theorem gives_walk (Na : Int) (Aa : Option Addr) (Ca : Nat) (wsa : List Nat) (v : Int) (w : World) (h : TbIn w ⟨Na, Aa, Ca, wsa⟩) : Calls Try.prog 3 #[.agg #[.int .i64 Na, .slice Aa wsa.length Ca], .int .i64 v] w fun e w' => e = .returned (.bool true) ∧ Below w.heap.size w w' := by
  have H := Lib.hid h
  have hroom := h.room
  simp only at hroom
  clear h
  go_enter Try.func3, Try.ntmps3
  go_upto_region 1 with fail
  refine wp_world fun w1 hw1 => ?_
  have hs1 : Same w w1 := by rw [hw1]; exact (Frm.refl _ _).alloc _
  have hBXa : Blk w1 (w.heap.size) 24 #[.int .i64 Na, .slice Aa wsa.length Ca] := by
    rw [hw1]
    have := (Blk.new w 24 #[.int .i64 Na, .slice Aa wsa.length Ca])
    simpa using this
  clear hw1
  have cXa0 : w1.cell? ⟨w.heap.size, 0, none⟩ = some (.int .i64 Na) := hBXa.cell 0
  have cXa1 : w1.cell? ⟨w.heap.size, 1, none⟩ = some (.slice Aa wsa.length Ca) := hBXa.cell 1
  have lXa := hBXa.lt
  have fXa0 := hBXa.free 0
  have fXa1 := hBXa.free 1
  have HBXa := Lib.hid hBXa
  have HS1 := Lib.hid hs1
  clear hs1 hBXa
  go_wp2_with (fail)
  refine (awake_any w1).mono ?_
  rintro e w2 ⟨rfl, hs13⟩
  replace HBXa := Lib.hid (HBXa.out.frm hs13 id)
  replace cXa0 : w2.cell? ⟨w.heap.size, 0, none⟩ = some (.int .i64 Na) := HBXa.out.cell 0
  replace cXa1 : w2.cell? ⟨w.heap.size, 1, none⟩ = some (.slice Aa wsa.length Ca) := HBXa.out.cell 1
  replace lXa := HBXa.out.lt
  replace fXa0 := HBXa.out.free 0
  replace fXa1 := HBXa.out.free 1
  replace HS1 := Lib.hid (HS1.out.trans hs13 (fun _ _ h => h))
  clear hs13
  have hXl := lXa
  go_upto_region 4 with fail
  refine wp_world fun w3 hw3 => ?_
  have hs23 : Same w2 w3 := by rw [hw3]; exact (Frm.refl _ _).alloc _
  have hBL : Blk w3 w2.heap.size 4 #[.bool false, .bool true] := by rw [hw3]; exact Blk.new _ _ _
  clear hw3
  replace HBXa := Lib.hid (HBXa.out.frm hs23 id)
  replace cXa0 : w3.cell? ⟨w.heap.size, 0, none⟩ = some (.int .i64 Na) := HBXa.out.cell 0
  replace cXa1 : w3.cell? ⟨w.heap.size, 1, none⟩ = some (.slice Aa wsa.length Ca) := HBXa.out.cell 1
  replace lXa := HBXa.out.lt
  replace fXa0 := HBXa.out.free 0
  replace fXa1 := HBXa.out.free 1
  replace HS1 := Lib.hid (HS1.out.trans hs23 (fun _ _ h => h))
  clear hs23
  generalize w2.heap.size = L at *
  have HBL := Lib.hid hBL
  clear hBL hXl fXa0 fXa1
  go_wp2
  go_loopw [19] (fun i wr => ∃ k : Nat, k ≤ 2 ∧ i = .int .i64 k ∧ Same w3 wr) (fun i _ => 2 - (intOf i).toNat)
  case atStart => exact ⟨0, by omega, rfl, Frm.refl _ _⟩
  case round =>
    obtain ⟨k, hk, rfl, hs0⟩ := hrel
    replace HBXa := Lib.hid (HBXa.out.frm hs0 id)
    replace HS1 := Lib.hid (HS1.out.trans hs0 (fun _ _ h => h))
    have eL0 : wr.cell? ⟨L, 0, none⟩ = some (.bool false) := (HBL.out.frm hs0 id).cell 0
    have eL1 : wr.cell? ⟨L, 1, none⟩ = some (.bool true) := (HBL.out.frm hs0 id).cell 1
    have lL := (HBL.out.frm hs0 id).lt
    clear cXa0 cXa1 lXa
    obtain rfl | rfl | rfl : k = 0 ∨ k = 1 ∨ k = 2 := by omega
    · rw [show ((0 : Nat) : Int) = 0 from rfl]
      have hP := fun A C w h => Cofactor_any Na A C wsa v false w h
      have hD := fun A C w h => docCofactor_any Na A C wsa v false w h
      have hrl := ofE_len (N := Na) (v := v) (ws := wsa) (F := hfF v.toNat false wsa)
      unfold RetA at hP hD
      generalize ansN Na (ofE Na v wsa) = rn at hP hD
      generalize ansL (tab Na.toNat (hfF v.toNat false wsa)) (ofE Na v wsa) = rws at hP hD hrl
      generalize ofE Na v wsa = re at hP hD
      have HP := Lib.hid hP
      have HD := Lib.hid hD
      clear hP hD
      have cX0 : wr.cell? ⟨w.heap.size, 0, none⟩ = some (.int .i64 Na) := HBXa.out.cell 0
      have cX1 : wr.cell? ⟨w.heap.size, 1, none⟩ = some (.slice Aa wsa.length Ca) := HBXa.out.cell 1
      have lX := HBXa.out.lt
      go_wp2_with (fail)
      refine (rtwin_any Na Aa Ca wsa wr (Sl.same H.out.ok.wl HS1.out) hroom).mono ?_
      rintro e wb ⟨At, Ct, rfl, hNT⟩
      have hs : Same wr wb := hNT.2.2
      have hot := hNT.1
      clear hNT cX0 cX1 lX
      go_wp2_with (fail)
      refine (HP.out At Ct wb ⟨hot.sl ucell_len, H.out.ok.small⟩).mono ?_
      rintro e wc ⟨Ap, Cp, rfl, hNT⟩
      have hs := hs.trans hNT.2.2 (fun _ _ h => h)
      have hop := hNT.1
      clear hNT hot
      have cX0 : wc.cell? ⟨w.heap.size, 0, none⟩ = some (.int .i64 Na) := (HBXa.out.frm hs id).cell 0
      have cX1 : wc.cell? ⟨w.heap.size, 1, none⟩ = some (.slice Aa wsa.length Ca) := (HBXa.out.frm hs id).cell 1
      have lX := (HBXa.out.frm hs id).lt
      go_wp2_with (fail)
      refine call_world fun wd hwd => ?_
      have hsv : Same wc wd := by rw [hwd]; exact (Frm.refl _ _).alloc _
      have hop := Own.frm hop hsv (fun _ _ => id)
      have hs := hs.trans hsv (fun _ _ h => h)
      have hBp : Blk wd wc.heap.size 24 #[.int .i64 rn, .slice Ap rws.length Cp] := by rw [hwd]; exact Blk.new _ _ _
      clear hwd hsv cX0 cX1 lX
      generalize wc.heap.size = Tp at *
      refine (HD.out Aa Ca wd ((H.out.ok).same (HS1.out.trans hs (fun _ _ h => h)))).mono ?_
      rintro e we ⟨Aq, Cq, rfl, hNT⟩
      have hs := hs.trans hNT.2.2 (fun _ _ h => h)
      have hop := Own.frm hop hNT.2.2 (fun _ _ => id)
      have hBp := hBp.frm hNT.2.2 id
      have hoq := hNT.1
      clear hNT
      have hcp0 : we.cell? ⟨Tp, 0, none⟩ = some (.int .i64 rn) := hBp.cell 0
      have hcp1 : we.cell? ⟨Tp, 1, none⟩ = some (.slice Ap rws.length Cp) := hBp.cell 1
      have hlp := hBp.lt
      clear hBp
      go_wp2_with (fail)
      refine call_world fun wf hwf => ?_
      have hsv : Same we wf := by rw [hwf]; exact (Frm.refl _ _).alloc _
      have hop := Own.frm hop hsv (fun _ _ => id)
      have hoq := Own.frm hoq hsv (fun _ _ => id)
      have hs := hs.trans hsv (fun _ _ h => h)
      clear hwf hsv hcp0 hcp1 hlp
      refine (alike_any rn Ap rws.length Cp rws re rn Aq rws.length Cq rws re wf (hop.sl ucell_len) (hoq.sl ucell_len) hrl).mono ?_
      rintro e wg ⟨rfl, hsv⟩
      rw [sm_self, beq_self_eq_true, Bool.and_true]
      have hs := hs.trans hsv (fun _ _ h => h)
      clear hop hoq hsv
      go_wp2
      go_roundw
      case rel => exact ⟨1, by omega, rfl, hs0.trans hs (fun _ _ h => h)⟩
      case measure => simp [intOf]
    · rw [show ((1 : Nat) : Int) = 1 from rfl]
      have hP := fun A C w h => Cofactor_any Na A C wsa v true w h
      have hD := fun A C w h => docCofactor_any Na A C wsa v true w h
      have hrl := ofE_len (N := Na) (v := v) (ws := wsa) (F := hfF v.toNat true wsa)
      unfold RetA at hP hD
      generalize ansN Na (ofE Na v wsa) = rn at hP hD
      generalize ansL (tab Na.toNat (hfF v.toNat true wsa)) (ofE Na v wsa) = rws at hP hD hrl
      generalize ofE Na v wsa = re at hP hD
      have HP := Lib.hid hP
      have HD := Lib.hid hD
      clear hP hD
      have cX0 : wr.cell? ⟨w.heap.size, 0, none⟩ = some (.int .i64 Na) := HBXa.out.cell 0
      have cX1 : wr.cell? ⟨w.heap.size, 1, none⟩ = some (.slice Aa wsa.length Ca) := HBXa.out.cell 1
      have lX := HBXa.out.lt
      go_wp2_with (fail)
      refine (rtwin_any Na Aa Ca wsa wr (Sl.same H.out.ok.wl HS1.out) hroom).mono ?_
      rintro e wb ⟨At, Ct, rfl, hNT⟩
      have hs : Same wr wb := hNT.2.2
      have hot := hNT.1
      clear hNT cX0 cX1 lX
      go_wp2_with (fail)
      refine (HP.out At Ct wb ⟨hot.sl ucell_len, H.out.ok.small⟩).mono ?_
      rintro e wc ⟨Ap, Cp, rfl, hNT⟩
      have hs := hs.trans hNT.2.2 (fun _ _ h => h)
      have hop := hNT.1
      clear hNT hot
      have cX0 : wc.cell? ⟨w.heap.size, 0, none⟩ = some (.int .i64 Na) := (HBXa.out.frm hs id).cell 0
      have cX1 : wc.cell? ⟨w.heap.size, 1, none⟩ = some (.slice Aa wsa.length Ca) := (HBXa.out.frm hs id).cell 1
      have lX := (HBXa.out.frm hs id).lt
      go_wp2_with (fail)
      refine call_world fun wd hwd => ?_
      have hsv : Same wc wd := by rw [hwd]; exact (Frm.refl _ _).alloc _
      have hop := Own.frm hop hsv (fun _ _ => id)
      have hs := hs.trans hsv (fun _ _ h => h)
      have hBp : Blk wd wc.heap.size 24 #[.int .i64 rn, .slice Ap rws.length Cp] := by rw [hwd]; exact Blk.new _ _ _
      clear hwd hsv cX0 cX1 lX
      generalize wc.heap.size = Tp at *
      refine (HD.out Aa Ca wd ((H.out.ok).same (HS1.out.trans hs (fun _ _ h => h)))).mono ?_
      rintro e we ⟨Aq, Cq, rfl, hNT⟩
      have hs := hs.trans hNT.2.2 (fun _ _ h => h)
      have hop := Own.frm hop hNT.2.2 (fun _ _ => id)
      have hBp := hBp.frm hNT.2.2 id
      have hoq := hNT.1
      clear hNT
      have hcp0 : we.cell? ⟨Tp, 0, none⟩ = some (.int .i64 rn) := hBp.cell 0
      have hcp1 : we.cell? ⟨Tp, 1, none⟩ = some (.slice Ap rws.length Cp) := hBp.cell 1
      have hlp := hBp.lt
      clear hBp
      go_wp2_with (fail)
      refine call_world fun wf hwf => ?_
      have hsv : Same we wf := by rw [hwf]; exact (Frm.refl _ _).alloc _
      have hop := Own.frm hop hsv (fun _ _ => id)
      have hoq := Own.frm hoq hsv (fun _ _ => id)
      have hs := hs.trans hsv (fun _ _ h => h)
      clear hwf hsv hcp0 hcp1 hlp
      refine (alike_any rn Ap rws.length Cp rws re rn Aq rws.length Cq rws re wf (hop.sl ucell_len) (hoq.sl ucell_len) hrl).mono ?_
      rintro e wg ⟨rfl, hsv⟩
      rw [sm_self, beq_self_eq_true, Bool.and_true]
      have hs := hs.trans hsv (fun _ _ h => h)
      clear hop hoq hsv
      go_wp2
      go_roundw
      case rel => exact ⟨2, by omega, rfl, hs0.trans hs (fun _ _ h => h)⟩
      case measure => simp [intOf]
    · rw [show ((2 : Nat) : Int) = 2 from rfl]
      have hP := fun A C w h => Exists_any Na A C wsa v w h
      have hD := fun A C w h => docExists_any Na A C wsa v w h
      have hrl := ofE_len (N := Na) (v := v) (ws := wsa) (F := exF v.toNat wsa)
      unfold RetA at hP hD
      generalize ansN Na (ofE Na v wsa) = rn at hP hD
      generalize ansL (tab Na.toNat (exF v.toNat wsa)) (ofE Na v wsa) = rws at hP hD hrl
      generalize ofE Na v wsa = re at hP hD
      have HP := Lib.hid hP
      have HD := Lib.hid hD
      clear hP hD
      have cX0 : wr.cell? ⟨w.heap.size, 0, none⟩ = some (.int .i64 Na) := HBXa.out.cell 0
      have cX1 : wr.cell? ⟨w.heap.size, 1, none⟩ = some (.slice Aa wsa.length Ca) := HBXa.out.cell 1
      have lX := HBXa.out.lt
      go_wp2_with (fail)
      refine (rtwin_any Na Aa Ca wsa wr (Sl.same H.out.ok.wl HS1.out) hroom).mono ?_
      rintro e wb ⟨At, Ct, rfl, hNT⟩
      have hs : Same wr wb := hNT.2.2
      have hot := hNT.1
      clear hNT cX0 cX1 lX
      go_wp2_with (fail)
      refine (HP.out At Ct wb ⟨hot.sl ucell_len, H.out.ok.small⟩).mono ?_
      rintro e wc ⟨Ap, Cp, rfl, hNT⟩
      have hs := hs.trans hNT.2.2 (fun _ _ h => h)
      have hop := hNT.1
      clear hNT hot
      have cX0 : wc.cell? ⟨w.heap.size, 0, none⟩ = some (.int .i64 Na) := (HBXa.out.frm hs id).cell 0
      have cX1 : wc.cell? ⟨w.heap.size, 1, none⟩ = some (.slice Aa wsa.length Ca) := (HBXa.out.frm hs id).cell 1
      have lX := (HBXa.out.frm hs id).lt
      go_wp2_with (fail)
      refine call_world fun wd hwd => ?_
      have hsv : Same wc wd := by rw [hwd]; exact (Frm.refl _ _).alloc _
      have hop := Own.frm hop hsv (fun _ _ => id)
      have hs := hs.trans hsv (fun _ _ h => h)
      have hBp : Blk wd wc.heap.size 24 #[.int .i64 rn, .slice Ap rws.length Cp] := by rw [hwd]; exact Blk.new _ _ _
      clear hwd hsv cX0 cX1 lX
      generalize wc.heap.size = Tp at *
      refine (HD.out Aa Ca wd ((H.out.ok).same (HS1.out.trans hs (fun _ _ h => h)))).mono ?_
      rintro e we ⟨Aq, Cq, rfl, hNT⟩
      have hs := hs.trans hNT.2.2 (fun _ _ h => h)
      have hop := Own.frm hop hNT.2.2 (fun _ _ => id)
      have hBp := hBp.frm hNT.2.2 id
      have hoq := hNT.1
      clear hNT
      have hcp0 : we.cell? ⟨Tp, 0, none⟩ = some (.int .i64 rn) := hBp.cell 0
      have hcp1 : we.cell? ⟨Tp, 1, none⟩ = some (.slice Ap rws.length Cp) := hBp.cell 1
      have hlp := hBp.lt
      clear hBp
      go_wp2_with (fail)
      refine call_world fun wf hwf => ?_
      have hsv : Same we wf := by rw [hwf]; exact (Frm.refl _ _).alloc _
      have hop := Own.frm hop hsv (fun _ _ => id)
      have hoq := Own.frm hoq hsv (fun _ _ => id)
      have hs := hs.trans hsv (fun _ _ h => h)
      clear hwf hsv hcp0 hcp1 hlp
      refine (alike_any rn Ap rws.length Cp rws re rn Aq rws.length Cq rws re wf (hop.sl ucell_len) (hoq.sl ucell_len) hrl).mono ?_
      rintro e wg ⟨rfl, hsv⟩
      rw [sm_self, beq_self_eq_true, Bool.and_true]
      have hs := hs.trans hsv (fun _ _ h => h)
      clear hop hoq hsv
      go_wp2
      go_ret
      exact ⟨rfl, (HS1.out.trans hs (fun _ _ h => h)).to_below (Nat.le_refl _) (fun _ _ => id)⟩
end Go.Proofs.Ytlggmoghgoeiiaa


/- Truth tables: good of the law, formed of the reference. -/
namespace Go.Proofs.Ytlggmoghgoeiiaa
open Go.RowKit Go.Tk

theorem TbOk.rform {w : World} {t : Tb} (h : TbOk w t) {w' : World} (hs : Same w w') : Calls Try.prog 24 #[t.val] w' fun e w'' => e = .returned (.bool t.frm) ∧ Same w' w'' :=
  rForm_any t.N t.A _ t.C t.ws w' (Sl.same h.wl hs) h.small
set_option maxHeartbeats 2000000 in
theorem good_any (g n C : Nat) (ts : List Tb) (w : World) (hn : n = ts.length) (hn1 : n ≤ 1000) (h : Tbs w g ts) (hok : ∀ t ∈ ts, TbOk w t) :
    Calls Try.prog 20 #[.slice (some ⟨g, 0, none⟩) n C] w fun e w' => e = .returned (.bool (fm ts)) ∧ Same w w' := by
  have H := Lib.hid h
  have HOK := Lib.hid hok
  obtain ⟨r, hr⟩ : ∃ r, fm ts = r := ⟨_, rfl⟩
  rw [hr]
  have HR := Lib.hid hr
  have HN := Lib.hid hn
  clear h hok hr hn
  go_enter Try.func20, Try.ntmps20
  go_wp2
  go_loopw [7] (fun i wr => ∃ k : Nat, k ≤ n ∧ i = .int .i64 k ∧ (∀ j t, ts[j]? = some t → j < k → t.frm = true ∧ t.N = (ts.getD 0 ⟨0, none, 0, []⟩).N) ∧ Same w wr) (fun i _ => n - (intOf i).toNat)
  case atStart => exact ⟨0, by omega, rfl, fun j t _ h => by omega, Frm.refl _ _⟩
  case round =>
    obtain ⟨k, hk, rfl, hall, hs⟩ := hrel
    have HALL := Lib.hid hall
    have HS := Lib.hid hs
    by_cases hlt : k < n
    · have hi1 : (k : Int) < n := by omega
      have hi0 : (0 : Int) ≤ k := by omega
      have hn0 : (0 : Int) < n := by omega
      obtain ⟨t, ht⟩ : ∃ t, ts[k]? = some t := ⟨_, List.getElem?_eq_getElem (by rw [← HN.out]; exact hlt)⟩
      obtain ⟨t0, ht0⟩ : ∃ t, ts[0]? = some t := ⟨_, List.getElem?_eq_getElem (by rw [← HN.out]; omega)⟩
      have hd0 : ts.getD 0 ⟨0, none, 0, []⟩ = t0 := by rw [List.getD_eq_getElem?_getD, ht0]; rfl
      obtain ⟨hg, hc0, hc1⟩ := (H.out.same hs) k t ht
      obtain ⟨_, hz0, _⟩ := (H.out.same hs) 0 t0 ht0
      rw [Nat.zero_mul] at hz0
      have htok := HOK.out t (List.mem_of_getElem? ht)
      have hne : g ≠ wr.heap.size := by omega
      have HT := Lib.hid ht
      have HD0 := Lib.hid hd0
      clear ht ht0 hd0 hall hs
      obtain ⟨tN, tA, tC, tws⟩ := t
      obtain ⟨zN, zA, zC, zws⟩ := t0
      simp only at hc0 hc1 hz0
      have HTOK := Lib.hid htok
      clear htok
      have hbx : ∃ b, (Tb.mk tN tA tC tws).frm = b := ⟨_, rfl⟩
      obtain ⟨bb, hbb⟩ := hbx
      go_upto_region 4 with fail
      refine wp_world fun wa hwa => ?_
      have hsa : Same wr wa := by rw [hwa]; exact (Frm.refl _ _).alloc _
      have hB := Blk.new wr 24 #[.int .i64 tN, .slice tA tws.length tC]
      rw [← hwa] at hB
      have hb0 : wa.cell? ⟨wr.heap.size, 0, none⟩ = some (.int .i64 tN) := hB.cell 0
      have hb1 : wa.cell? ⟨wr.heap.size, 1, none⟩ = some (.slice tA tws.length tC) := hB.cell 1
      have hbl := hB.lt
      have hza : wa.cell? ⟨g, 0, none⟩ = some (.int .i64 zN) := (hsa.cell (p := ⟨g, 0, none⟩) hg id).trans hz0
      have hga : g < wa.heap.size := by omega
      have hfc : ∀ w', Same wa w' → Calls Try.prog 24 #[.agg #[.int .i64 tN, .slice tA tws.length tC]] w' fun e w'' => e = .returned (.bool bb) ∧ Same w' w'' := fun w' hs' => by
        have := HTOK.out.rform ((HS.out.trans hsa (fun _ _ h => h)).trans hs' (fun _ _ h => h))
        rw [hbb] at this
        exact this
      have HFC := Lib.hid hfc
      have HSA := Lib.hid (HS.out.trans hsa (fun _ _ h => h))
      have HBB := Lib.hid hbb
      clear hwa hsa hB hc0 hc1 hz0 hg hfc HTOK hbb
      cases bb with
      | false =>
        have hf : r = false := by
          rw [← HR.out]
          unfold fm
          rw [List.all_eq_false]
          exact ⟨_, List.mem_of_getElem? HT.out, by simp [HBB.out]⟩
        subst hf
        refine wp_quiet (by kernel_rfl) (by kernel_rfl) ?_
        repeat (any_goals (first | go_big_quiet_step ((go_at_call 24; exact quiet_call (HFC.out _ (more_same _ _)))) | quiet_step ((go_at_call 24; exact quiet_call (HFC.out _ (more_same _ _))))))
        refine wpQuiet_nil ?_
        rintro _ ⟨q, rfl⟩
        go_wp2
        go_ret
        exact ⟨rfl, HSA.out.trans (more_same _ q) (fun _ _ h => h)⟩
      | true =>
        by_cases hNN : tN = zN
        · subst hNN
          refine wp_quiet (by kernel_rfl) (by kernel_rfl) ?_
          repeat (any_goals (first | go_big_quiet_step ((go_at_call 24; exact quiet_call (HFC.out _ (more_same _ _)))) | quiet_step ((go_at_call 24; exact quiet_call (HFC.out _ (more_same _ _))))))
          refine wpQuiet_nil ?_
          rintro _ ⟨q, rfl⟩
          go_wp2
          go_roundw
          case rel => exact ⟨k + 1, by omega, by go_num, fun j t hj hjk => by
            by_cases hjk2 : j < k
            · exact HALL.out j t hj hjk2
            · obtain rfl : j = k := by omega
              obtain rfl := Option.some.inj (hj.symm.trans HT.out)
              exact ⟨HBB.out, by rw [HD0.out]⟩, HSA.out.trans (more_same _ q) (fun _ _ h => h)⟩
          case measure => simp [intOf]; omega
        · have hne2 : (tN != zN) = true := by simpa using hNN
          have hf : r = false := by
            rw [← HR.out]
            unfold fm
            rw [List.all_eq_false]
            exact ⟨_, List.mem_of_getElem? HT.out, by rw [HD0.out]; simp [hNN]⟩
          subst hf
          clear hNN
          refine wp_quiet (by kernel_rfl) (by kernel_rfl) ?_
          repeat (any_goals (first | go_big_quiet_step ((go_at_call 24; exact quiet_call (HFC.out _ (more_same _ _)))) | quiet_step ((go_at_call 24; exact quiet_call (HFC.out _ (more_same _ _))))))
          refine wpQuiet_nil ?_
          rintro _ ⟨q, rfl⟩
          go_wp2
          go_ret
          exact ⟨rfl, HSA.out.trans (more_same _ q) (fun _ _ h => h)⟩
    · obtain rfl : k = n := by omega
      have hf : r = true := by
        rw [← HR.out]
        unfold fm
        rw [List.all_eq_true]
        intro t ht
        obtain ⟨j, hj⟩ := List.getElem?_of_mem ht
        have := HALL.out j t hj (by rw [HN.out]; exact lt_of_get hj)
        simp [this]
      subst hf
      clear hall hs HALL
      go_wp2
      go_ret
      exact ⟨rfl, HS.out⟩
set_option maxHeartbeats 2000000 in
theorem formed_any (g n C : Nat) (ts : List Tb) (w : World) (hn : n = ts.length) (hn1 : n ≤ 1000) (h : Tbs w g ts) (hok : ∀ t ∈ ts, TbOk w t) :
    Calls Try.prog 70 #[.slice (some ⟨g, 0, none⟩) n C] w fun e w' => e = .returned (.int .i64 (fmE (fm ts))) ∧ Same w w' := by
  have H := Lib.hid h
  have HOK := Lib.hid hok
  obtain ⟨r, hr⟩ : ∃ r, fm ts = r := ⟨_, rfl⟩
  rw [hr]
  have HR := Lib.hid hr
  have HN := Lib.hid hn
  clear h hok hr hn
  go_enter Try.func70, Try.ntmps70
  go_wp2
  go_loopw [7] (fun i wr => ∃ k : Nat, k ≤ n ∧ i = .int .i64 k ∧ (∀ j t, ts[j]? = some t → j < k → t.frm = true ∧ t.N = (ts.getD 0 ⟨0, none, 0, []⟩).N) ∧ Same w wr) (fun i _ => n - (intOf i).toNat)
  case atStart => exact ⟨0, by omega, rfl, fun j t _ h => by omega, Frm.refl _ _⟩
  case round =>
    obtain ⟨k, hk, rfl, hall, hs⟩ := hrel
    have HALL := Lib.hid hall
    have HS := Lib.hid hs
    by_cases hlt : k < n
    · have hi1 : (k : Int) < n := by omega
      have hi0 : (0 : Int) ≤ k := by omega
      have hn0 : (0 : Int) < n := by omega
      obtain ⟨t, ht⟩ : ∃ t, ts[k]? = some t := ⟨_, List.getElem?_eq_getElem (by rw [← HN.out]; exact hlt)⟩
      obtain ⟨t0, ht0⟩ : ∃ t, ts[0]? = some t := ⟨_, List.getElem?_eq_getElem (by rw [← HN.out]; omega)⟩
      have hd0 : ts.getD 0 ⟨0, none, 0, []⟩ = t0 := by rw [List.getD_eq_getElem?_getD, ht0]; rfl
      obtain ⟨hg, hc0, hc1⟩ := (H.out.same hs) k t ht
      obtain ⟨_, hz0, _⟩ := (H.out.same hs) 0 t0 ht0
      rw [Nat.zero_mul] at hz0
      have htok := HOK.out t (List.mem_of_getElem? ht)
      have hne : g ≠ wr.heap.size := by omega
      have HT := Lib.hid ht
      have HD0 := Lib.hid hd0
      clear ht ht0 hd0 hall hs
      obtain ⟨tN, tA, tC, tws⟩ := t
      obtain ⟨zN, zA, zC, zws⟩ := t0
      simp only at hc0 hc1 hz0
      have HTOK := Lib.hid htok
      clear htok
      have hbx : ∃ b, (Tb.mk tN tA tC tws).frm = b := ⟨_, rfl⟩
      obtain ⟨bb, hbb⟩ := hbx
      go_upto_region 4 with fail
      refine wp_world fun wa hwa => ?_
      have hsa : Same wr wa := by rw [hwa]; exact (Frm.refl _ _).alloc _
      have hB := Blk.new wr 24 #[.int .i64 tN, .slice tA tws.length tC]
      rw [← hwa] at hB
      have hb0 : wa.cell? ⟨wr.heap.size, 0, none⟩ = some (.int .i64 tN) := hB.cell 0
      have hb1 : wa.cell? ⟨wr.heap.size, 1, none⟩ = some (.slice tA tws.length tC) := hB.cell 1
      have hbl := hB.lt
      have hza : wa.cell? ⟨g, 0, none⟩ = some (.int .i64 zN) := (hsa.cell (p := ⟨g, 0, none⟩) hg id).trans hz0
      have hga : g < wa.heap.size := by omega
      have hfc : ∀ w', Same wa w' → Calls Try.prog 24 #[.agg #[.int .i64 tN, .slice tA tws.length tC]] w' fun e w'' => e = .returned (.bool bb) ∧ Same w' w'' := fun w' hs' => by
        have := HTOK.out.rform ((HS.out.trans hsa (fun _ _ h => h)).trans hs' (fun _ _ h => h))
        rw [hbb] at this
        exact this
      have HFC := Lib.hid hfc
      have HSA := Lib.hid (HS.out.trans hsa (fun _ _ h => h))
      have HBB := Lib.hid hbb
      clear hwa hsa hB hc0 hc1 hz0 hg hfc HTOK hbb
      cases bb with
      | false =>
        have hf : r = false := by
          rw [← HR.out]
          unfold fm
          rw [List.all_eq_false]
          exact ⟨_, List.mem_of_getElem? HT.out, by simp [HBB.out]⟩
        subst hf
        refine wp_quiet (by kernel_rfl) (by kernel_rfl) ?_
        repeat (any_goals (first | go_big_quiet_step ((go_at_call 24; exact quiet_call (HFC.out _ (more_same _ _)))) | quiet_step ((go_at_call 24; exact quiet_call (HFC.out _ (more_same _ _))))))
        refine wpQuiet_nil ?_
        rintro _ ⟨q, rfl⟩
        go_wp2
        go_ret
        exact ⟨rfl, HSA.out.trans (more_same _ q) (fun _ _ h => h)⟩
      | true =>
        by_cases hNN : tN = zN
        · subst hNN
          refine wp_quiet (by kernel_rfl) (by kernel_rfl) ?_
          repeat (any_goals (first | go_big_quiet_step ((go_at_call 24; exact quiet_call (HFC.out _ (more_same _ _)))) | quiet_step ((go_at_call 24; exact quiet_call (HFC.out _ (more_same _ _))))))
          refine wpQuiet_nil ?_
          rintro _ ⟨q, rfl⟩
          go_wp2
          go_roundw
          case rel => exact ⟨k + 1, by omega, by go_num, fun j t hj hjk => by
            by_cases hjk2 : j < k
            · exact HALL.out j t hj hjk2
            · obtain rfl : j = k := by omega
              obtain rfl := Option.some.inj (hj.symm.trans HT.out)
              exact ⟨HBB.out, by rw [HD0.out]⟩, HSA.out.trans (more_same _ q) (fun _ _ h => h)⟩
          case measure => simp [intOf]; omega
        · have hne2 : (tN != zN) = true := by simpa using hNN
          have hf : r = false := by
            rw [← HR.out]
            unfold fm
            rw [List.all_eq_false]
            exact ⟨_, List.mem_of_getElem? HT.out, by rw [HD0.out]; simp [hNN]⟩
          subst hf
          clear hNN
          refine wp_quiet (by kernel_rfl) (by kernel_rfl) ?_
          repeat (any_goals (first | go_big_quiet_step ((go_at_call 24; exact quiet_call (HFC.out _ (more_same _ _)))) | quiet_step ((go_at_call 24; exact quiet_call (HFC.out _ (more_same _ _))))))
          refine wpQuiet_nil ?_
          rintro _ ⟨q, rfl⟩
          go_wp2
          go_ret
          exact ⟨rfl, HSA.out.trans (more_same _ q) (fun _ _ h => h)⟩
    · obtain rfl : k = n := by omega
      have hf : r = true := by
        rw [← HR.out]
        unfold fm
        rw [List.all_eq_true]
        intro t ht
        obtain ⟨j, hj⟩ := List.getElem?_of_mem ht
        have := HALL.out j t hj (by rw [HN.out]; exact lt_of_get hj)
        simp [this]
      subst hf
      clear hall hs HALL
      go_wp2
      go_ret
      exact ⟨rfl, HS.out⟩
end Go.Proofs.Ytlggmoghgoeiiaa


/- Truth tables: At of the program and of the reference. -/
namespace Go.Proofs.Ytlggmoghgoeiiaa
open Go.RowKit Go.Tk

def atE (fr : Bool) (N : Int) (x : Nat) : Int := if fr then (if x < 2 ^ N.toNat then 0 else 1) else 5
def atB (N : Int) (ws : List Nat) (x : Nat) : Bool := if atE (frm N ws) N x = 0 then vb ws x else false
theorem and1_bit (y r : Nat) (hy : y < 18446744073709551616) : (bits .and .u64 ((y / 2 ^ r : Nat) : Int) 1 == 1) = y.testBit r := by
  have h1 : y / 2 ^ r ≤ y := Nat.div_le_self _ _
  have h3 := u64_and_nat (y / 2 ^ r) 1 (by omega) (by omega)
  rw [nat_mask1] at h3
  rw [show (1 : Int) = ((1 : Nat) : Int) from rfl, h3, testBit_dm]
  generalize y / 2 ^ r % 2 = z
  rw [Bool.eq_iff_iff, beq_iff_eq, decide_eq_true_eq]
  omega
set_option maxRecDepth 100000 in
set_option maxHeartbeats 4000000 in
theorem At_any (Na : Int) (Aa : Option Addr) (Ca : Nat) (wsa : List Nat) (x : Nat) (w : World) (hx : x < 18446744073709551616) (h : TbOk w ⟨Na, Aa, Ca, wsa⟩) : Calls Try.prog 21 #[.agg #[.int .i64 Na, .slice Aa wsa.length Ca], .int .u64 x] w fun e w' => e = .returned (.tuple #[.bool (atB Na wsa x), .int .i64 (atE (frm Na wsa) Na x)]) ∧ Same w w' := by
  have H := Lib.hid h
  unfold atB
  cases hfr : frm Na wsa with
  | false =>
    rw [show atE false Na x = 5 from rfl, if_neg (by decide)]
    have HFM := Lib.hid ((frm_one Na Aa Ca wsa).trans hfr)
    clear hfr h
    go_enter Try.func21, Try.ntmps21
    go_upto_region 1 with fail
    refine wp_world fun w1 hw1 => ?_
    have hs1 : Same w w1 := by rw [hw1]; exact (Frm.refl _ _).alloc _
    have hBXa : Blk w1 (w.heap.size) 24 #[.int .i64 Na, .slice Aa wsa.length Ca] := by
      rw [hw1]
      have := (Blk.new w 24 #[.int .i64 Na, .slice Aa wsa.length Ca])
      simpa using this
    clear hw1
    have cXa0 : w1.cell? ⟨w.heap.size, 0, none⟩ = some (.int .i64 Na) := hBXa.cell 0
    have cXa1 : w1.cell? ⟨w.heap.size, 1, none⟩ = some (.slice Aa wsa.length Ca) := hBXa.cell 1
    have lXa := hBXa.lt
    have fXa0 := hBXa.free 0
    have fXa1 := hBXa.free 1
    have HBXa := Lib.hid hBXa
    have HS1 := Lib.hid hs1
    clear hs1 hBXa
    have HOKa := Lib.hid (H.out.same HS1.out)
    go_wp2_with (fail)
    refine call_world fun w2 hw2 => ?_
    have hs2 : Same w1 w2 := by rw [hw2]; exact (Frm.refl _ _).alloc _
    have hBL : Blk w2 w1.heap.size 24 #[.int .i64 Na, .slice Aa wsa.length Ca] := by rw [hw2]; exact Blk.new _ _ _
    have htbs : Tbs w2 w1.heap.size [⟨Na, Aa, Ca, wsa⟩] := by
      intro i t hi
      match i, hi with
      | 0, hi =>
        simp only [List.getElem?_cons_zero, Option.some.injEq] at hi
        subst hi
        exact ⟨hBL.lt, hBL.cell 0, hBL.cell 1⟩
      | i + 1, hi => simp at hi
    have hfc := form_any w1.heap.size 1 1 [⟨Na, Aa, Ca, wsa⟩] w2 rfl (by decide) htbs (fun t ht => by
      simp only [List.mem_cons, List.not_mem_nil, or_false] at ht
      rcases ht with rfl
      · exact (HOKa.out).same hs2)
    rw [HFM.out] at hfc
    refine hfc.mono ?_
    clear hfc htbs hBL hw2
    rintro e w3 ⟨rfl, hs3⟩
    have hs13 : Same w1 w3 := hs2.trans hs3 (fun _ _ h => h)
    clear hs2 hs3
    replace HBXa := Lib.hid (HBXa.out.frm hs13 id)
    replace cXa0 : w3.cell? ⟨w.heap.size, 0, none⟩ = some (.int .i64 Na) := HBXa.out.cell 0
    replace cXa1 : w3.cell? ⟨w.heap.size, 1, none⟩ = some (.slice Aa wsa.length Ca) := HBXa.out.cell 1
    replace lXa := HBXa.out.lt
    replace fXa0 := HBXa.out.free 0
    replace fXa1 := HBXa.out.free 1
    replace HS1 := Lib.hid (HS1.out.trans hs13 (fun _ _ h => h))
    clear hs13
    go_wp2
    go_ret2
    exact ⟨rfl, HS1.out⟩
  | true =>
    obtain ⟨n, rfl, hform⟩ := frm_true hfr
    have HFM := Lib.hid ((frm_one n Aa Ca wsa).trans hfr)
    have hn := hform.n16
    have hdv : (x : Int) / 2 ^ n = ((x / 2 ^ n : Nat) : Int) := by rw [pow_int]; exact (Int.natCast_ediv _ _).symm
    have hn0 : (0 : Int) ≤ n := by omega
    have hmn : min n 64 = n := by omega
    have hp : 0 < 2 ^ n := Nat.pow_pos (by omega)
    have hle : x / 2 ^ n ≤ x := Nat.div_le_self _ _
    by_cases hlt : x < 2 ^ n
    · rw [show atE true n x = 0 by unfold atE; rw [if_pos rfl, Int.toNat_natCast, if_pos hlt], if_pos rfl]
      have hz : x / 2 ^ n = 0 := Nat.div_eq_of_lt hlt
      obtain ⟨y, hy⟩ : ∃ y, wsa[x / 64]? = some y := ⟨_, List.getElem?_eq_getElem (by rw [hform.len]; exact div_lt_nw hlt)⟩
      have hyl := h.small.at1 hy
      have hlx : x / 64 < wsa.length := lt_get hy
      have hvb : vb wsa x = y.testBit (x % 64) := by unfold vb; rw [List.getD_eq_getElem?_getD, hy]; rfl
      have hb1 := and1_bit y (x % 64) hyl
      rw [← hvb] at hb1
      have hn1 : (x : Int) / 64 = ((x / 64 : Nat) : Int) := by omega
      have hn2 : (x : Int) % 64 = ((x % 64 : Nat) : Int) := by omega
      have hm64 : min (x % 64) 64 = x % 64 := by omega
      have hr64 : x % 64 < 64 := by omega
      have hpw : ((y : Nat) : Int) / 2 ^ (x % 64) = ((y / 2 ^ (x % 64) : Nat) : Int) := by rw [pow_int]; exact (Int.natCast_ediv _ _).symm
      obtain ⟨vv, hvv⟩ : ∃ v, vb wsa x = v := ⟨_, rfl⟩
      rw [hvv] at hb1 ⊢
      have HY := Lib.hid hy
      rw [hz] at hdv
      have hdv2 : (x : Int) / 2 ^ n = 0 := hdv
      have hyq : y / 2 ^ (x % 64) ≤ y := Nat.div_le_self _ _
      clear hfr hform hy hvb hvv hz h hdv hp hle
      generalize x % 64 = r at *
      generalize x / 64 = qq at *
      generalize y / 2 ^ r = z at *
      go_enter Try.func21, Try.ntmps21
      go_upto_region 1 with fail
      refine wp_world fun w1 hw1 => ?_
      have hs1 : Same w w1 := by rw [hw1]; exact (Frm.refl _ _).alloc _
      have hBXa : Blk w1 (w.heap.size) 24 #[.int .i64 n, .slice Aa wsa.length Ca] := by
        rw [hw1]
        have := (Blk.new w 24 #[.int .i64 n, .slice Aa wsa.length Ca])
        simpa using this
      clear hw1
      have cXa0 : w1.cell? ⟨w.heap.size, 0, none⟩ = some (.int .i64 n) := hBXa.cell 0
      have cXa1 : w1.cell? ⟨w.heap.size, 1, none⟩ = some (.slice Aa wsa.length Ca) := hBXa.cell 1
      have lXa := hBXa.lt
      have fXa0 := hBXa.free 0
      have fXa1 := hBXa.free 1
      have HBXa := Lib.hid hBXa
      have HS1 := Lib.hid hs1
      clear hs1 hBXa
      have HOKa := Lib.hid (H.out.same HS1.out)
      go_wp2_with (fail)
      refine call_world fun w2 hw2 => ?_
      have hs2 : Same w1 w2 := by rw [hw2]; exact (Frm.refl _ _).alloc _
      have hBL : Blk w2 w1.heap.size 24 #[.int .i64 n, .slice Aa wsa.length Ca] := by rw [hw2]; exact Blk.new _ _ _
      have htbs : Tbs w2 w1.heap.size [⟨n, Aa, Ca, wsa⟩] := by
        intro i t hi
        match i, hi with
        | 0, hi =>
          simp only [List.getElem?_cons_zero, Option.some.injEq] at hi
          subst hi
          exact ⟨hBL.lt, hBL.cell 0, hBL.cell 1⟩
        | i + 1, hi => simp at hi
      have hfc := form_any w1.heap.size 1 1 [⟨n, Aa, Ca, wsa⟩] w2 rfl (by decide) htbs (fun t ht => by
        simp only [List.mem_cons, List.not_mem_nil, or_false] at ht
        rcases ht with rfl
        · exact (HOKa.out).same hs2)
      rw [HFM.out] at hfc
      refine hfc.mono ?_
      clear hfc htbs hBL hw2
      rintro e w3 ⟨rfl, hs3⟩
      have hs13 : Same w1 w3 := hs2.trans hs3 (fun _ _ h => h)
      clear hs2 hs3
      replace HBXa := Lib.hid (HBXa.out.frm hs13 id)
      replace cXa0 : w3.cell? ⟨w.heap.size, 0, none⟩ = some (.int .i64 n) := HBXa.out.cell 0
      replace cXa1 : w3.cell? ⟨w.heap.size, 1, none⟩ = some (.slice Aa wsa.length Ca) := HBXa.out.cell 1
      replace lXa := HBXa.out.lt
      replace fXa0 := HBXa.out.free 0
      replace fXa1 := HBXa.out.free 1
      replace HS1 := Lib.hid (HS1.out.trans hs13 (fun _ _ h => h))
      clear hs13
      obtain ⟨bq, offq, hA, hbl, hcq⟩ := WL.at1 (Sl.same H.out.wl HS1.out) HY.out
      simp only at hA
      subst hA
      have hqi : (qq : Int) < wsa.length := by omega
      have hq0 : (0 : Int) ≤ qq := by omega
      go_wp2
      go_ret2
      exact ⟨rfl, HS1.out⟩
    · rw [show atE true n x = 1 by unfold atE; rw [if_pos rfl, Int.toNat_natCast, if_neg hlt], if_neg (by decide)]
      have hz : 0 < x / 2 ^ n := Nat.div_pos (by omega) hp
      clear hfr hform h hp
      generalize x / 2 ^ n = z at *
      have hz0 : (z : Int) ≠ 0 := by omega
      go_enter Try.func21, Try.ntmps21
      go_upto_region 1 with fail
      refine wp_world fun w1 hw1 => ?_
      have hs1 : Same w w1 := by rw [hw1]; exact (Frm.refl _ _).alloc _
      have hBXa : Blk w1 (w.heap.size) 24 #[.int .i64 n, .slice Aa wsa.length Ca] := by
        rw [hw1]
        have := (Blk.new w 24 #[.int .i64 n, .slice Aa wsa.length Ca])
        simpa using this
      clear hw1
      have cXa0 : w1.cell? ⟨w.heap.size, 0, none⟩ = some (.int .i64 n) := hBXa.cell 0
      have cXa1 : w1.cell? ⟨w.heap.size, 1, none⟩ = some (.slice Aa wsa.length Ca) := hBXa.cell 1
      have lXa := hBXa.lt
      have fXa0 := hBXa.free 0
      have fXa1 := hBXa.free 1
      have HBXa := Lib.hid hBXa
      have HS1 := Lib.hid hs1
      clear hs1 hBXa
      have HOKa := Lib.hid (H.out.same HS1.out)
      go_wp2_with (fail)
      refine call_world fun w2 hw2 => ?_
      have hs2 : Same w1 w2 := by rw [hw2]; exact (Frm.refl _ _).alloc _
      have hBL : Blk w2 w1.heap.size 24 #[.int .i64 n, .slice Aa wsa.length Ca] := by rw [hw2]; exact Blk.new _ _ _
      have htbs : Tbs w2 w1.heap.size [⟨n, Aa, Ca, wsa⟩] := by
        intro i t hi
        match i, hi with
        | 0, hi =>
          simp only [List.getElem?_cons_zero, Option.some.injEq] at hi
          subst hi
          exact ⟨hBL.lt, hBL.cell 0, hBL.cell 1⟩
        | i + 1, hi => simp at hi
      have hfc := form_any w1.heap.size 1 1 [⟨n, Aa, Ca, wsa⟩] w2 rfl (by decide) htbs (fun t ht => by
        simp only [List.mem_cons, List.not_mem_nil, or_false] at ht
        rcases ht with rfl
        · exact (HOKa.out).same hs2)
      rw [HFM.out] at hfc
      refine hfc.mono ?_
      clear hfc htbs hBL hw2
      rintro e w3 ⟨rfl, hs3⟩
      have hs13 : Same w1 w3 := hs2.trans hs3 (fun _ _ h => h)
      clear hs2 hs3
      replace HBXa := Lib.hid (HBXa.out.frm hs13 id)
      replace cXa0 : w3.cell? ⟨w.heap.size, 0, none⟩ = some (.int .i64 n) := HBXa.out.cell 0
      replace cXa1 : w3.cell? ⟨w.heap.size, 1, none⟩ = some (.slice Aa wsa.length Ca) := HBXa.out.cell 1
      replace lXa := HBXa.out.lt
      replace fXa0 := HBXa.out.free 0
      replace fXa1 := HBXa.out.free 1
      replace HS1 := Lib.hid (HS1.out.trans hs13 (fun _ _ h => h))
      clear hs13
      go_wp2
      go_ret2
      exact ⟨rfl, HS1.out⟩
set_option maxRecDepth 100000 in
set_option maxHeartbeats 4000000 in
theorem docAt_any (Na : Int) (Aa : Option Addr) (Ca : Nat) (wsa : List Nat) (x : Nat) (w : World) (hx : x < 18446744073709551616) (h : TbOk w ⟨Na, Aa, Ca, wsa⟩) : Calls Try.prog 40 #[.agg #[.int .i64 Na, .slice Aa wsa.length Ca], .int .u64 x] w fun e w' => e = .returned (.tuple #[.bool (atB Na wsa x), .int .i64 (atE (frm Na wsa) Na x)]) ∧ Same w w' := by
  have Ha := Lib.hid h
  unfold atB
  have hrf := fun (w' : World) (hs : Same w w') => rForm_any Na Aa _ Ca wsa w' (Sl.same h.wl hs) h.small
  simp only at hrf
  cases hfr : frm Na wsa with
  | false =>
    rw [show atE false Na x = 5 from rfl, if_neg (by decide)]
    rw [hfr] at hrf
    have HRF := Lib.hid hrf
    clear hfr h hrf
    go_enter Try.func40, Try.ntmps40
    go_upto_region 1 with fail
    refine wp_world fun w1 hw1 => ?_
    have hs1 : Same w w1 := by rw [hw1]; exact (Frm.refl _ _).alloc _
    have hBXa : Blk w1 (w.heap.size) 24 #[.int .i64 Na, .slice Aa wsa.length Ca] := by
      rw [hw1]
      have := (Blk.new w 24 #[.int .i64 Na, .slice Aa wsa.length Ca])
      simpa using this
    clear hw1
    have cXa0 : w1.cell? ⟨w.heap.size, 0, none⟩ = some (.int .i64 Na) := hBXa.cell 0
    have cXa1 : w1.cell? ⟨w.heap.size, 1, none⟩ = some (.slice Aa wsa.length Ca) := hBXa.cell 1
    have lXa := hBXa.lt
    have fXa0 := hBXa.free 0
    have fXa1 := hBXa.free 1
    have HBXa := Lib.hid hBXa
    have HS1 := Lib.hid hs1
    clear hs1 hBXa
    go_wp2_with (fail)
    refine (HRF.out w1 HS1.out).mono ?_
    rintro e w3 ⟨rfl, hs13⟩
    replace HBXa := Lib.hid (HBXa.out.frm hs13 id)
    replace cXa0 : w3.cell? ⟨w.heap.size, 0, none⟩ = some (.int .i64 Na) := HBXa.out.cell 0
    replace cXa1 : w3.cell? ⟨w.heap.size, 1, none⟩ = some (.slice Aa wsa.length Ca) := HBXa.out.cell 1
    replace lXa := HBXa.out.lt
    replace fXa0 := HBXa.out.free 0
    replace fXa1 := HBXa.out.free 1
    replace HS1 := Lib.hid (HS1.out.trans hs13 (fun _ _ h => h))
    clear hs13
    go_wp2
    go_ret2
    exact ⟨rfl, HS1.out⟩
  | true =>
    rw [hfr] at hrf
    obtain ⟨n, rfl, hform⟩ := frm_true hfr
    have HRF := Lib.hid hrf
    have HFa := Lib.hid hform
    have hn := hform.n16
    clear hrf
    have hMp0 : 0 < 2 ^ n := Nat.pow_pos (by omega)
    have hp16 := pow_le16 hn
    by_cases hlt : x < 2 ^ n
    · rw [show atE true n x = 0 by unfold atE; rw [if_pos rfl, Int.toNat_natCast, if_pos hlt], if_pos rfl]
      obtain ⟨M, hM⟩ : ∃ M, 2 ^ n = M := ⟨_, rfl⟩
      rw [hM] at hlt hp16 hMp0
      have hMp := hMp0
      have HM := Lib.hid hM
      obtain ⟨vv, hvv⟩ : ∃ v, vb wsa x = v := ⟨_, rfl⟩
      rw [hvv]
      have HVV := Lib.hid hvv
      clear hM hfr hform h hMp0 hvv
      go_enter Try.func40, Try.ntmps40
      go_upto_region 1 with fail
      refine wp_world fun w1 hw1 => ?_
      have hs1 : Same w w1 := by rw [hw1]; exact (Frm.refl _ _).alloc _
      have hBXa : Blk w1 (w.heap.size) 24 #[.int .i64 n, .slice Aa wsa.length Ca] := by
        rw [hw1]
        have := (Blk.new w 24 #[.int .i64 n, .slice Aa wsa.length Ca])
        simpa using this
      clear hw1
      have cXa0 : w1.cell? ⟨w.heap.size, 0, none⟩ = some (.int .i64 n) := hBXa.cell 0
      have cXa1 : w1.cell? ⟨w.heap.size, 1, none⟩ = some (.slice Aa wsa.length Ca) := hBXa.cell 1
      have lXa := hBXa.lt
      have fXa0 := hBXa.free 0
      have fXa1 := hBXa.free 1
      have HBXa := Lib.hid hBXa
      have HS1 := Lib.hid hs1
      clear hs1 hBXa
      go_wp2_with (fail)
      refine (HRF.out w1 HS1.out).mono ?_
      rintro e w3 ⟨rfl, hs13⟩
      replace HBXa := Lib.hid (HBXa.out.frm hs13 id)
      replace cXa0 : w3.cell? ⟨w.heap.size, 0, none⟩ = some (.int .i64 n) := HBXa.out.cell 0
      replace cXa1 : w3.cell? ⟨w.heap.size, 1, none⟩ = some (.slice Aa wsa.length Ca) := HBXa.out.cell 1
      replace lXa := HBXa.out.lt
      replace fXa0 := HBXa.out.free 0
      replace fXa1 := HBXa.out.free 1
      replace HS1 := Lib.hid (HS1.out.trans hs13 (fun _ _ h => h))
      clear hs13
      go_wp2_with (fail)
      refine (values_any n Ca Aa wsa w3 (Ha.out.same HS1.out) HFa.out).mono ?_
      rintro e w4 ⟨Al, CL, rfl, hNB⟩
      rw [HM.out] at hNB ⊢
      obtain ⟨L, rfl, hLl⟩ := Own.form1 hNB.1 (by rw [vals_len]; exact hMp)
      have hLn : w3.heap.size ≤ L := hNB.2.1 L ⟨_, rfl, rfl⟩
      have hsv := hNB.2.2
      have hOL := hNB.1
      rw [vals_len] at hOL
      have HOL := Lib.hid hOL
      clear hNB hOL
      obtain ⟨hLl2, hLc⟩ := OwnB.cell HOL.out hlt
      have hxi : (x : Int) < M := by omega
      have hx0 : (0 : Int) ≤ x := by omega
      have hMu : IntKind.u64.wrap (M : Int) = M := IntWalk.u64_in _ (by omega)
      have HS4 := Lib.hid (HS1.out.trans hsv (fun _ _ h => h))
      rw [HVV.out] at hLc
      clear hsv
      go_wp2
      go_ret2
      exact ⟨rfl, HS4.out⟩
    · rw [show atE true n x = 1 by unfold atE; rw [if_pos rfl, Int.toNat_natCast, if_neg hlt], if_neg (by decide)]
      obtain ⟨M, hM⟩ : ∃ M, 2 ^ n = M := ⟨_, rfl⟩
      rw [hM] at hlt hp16 hMp0
      have hMp := hMp0
      have HM := Lib.hid hM
      clear hM hfr hform h hMp0
      go_enter Try.func40, Try.ntmps40
      go_upto_region 1 with fail
      refine wp_world fun w1 hw1 => ?_
      have hs1 : Same w w1 := by rw [hw1]; exact (Frm.refl _ _).alloc _
      have hBXa : Blk w1 (w.heap.size) 24 #[.int .i64 n, .slice Aa wsa.length Ca] := by
        rw [hw1]
        have := (Blk.new w 24 #[.int .i64 n, .slice Aa wsa.length Ca])
        simpa using this
      clear hw1
      have cXa0 : w1.cell? ⟨w.heap.size, 0, none⟩ = some (.int .i64 n) := hBXa.cell 0
      have cXa1 : w1.cell? ⟨w.heap.size, 1, none⟩ = some (.slice Aa wsa.length Ca) := hBXa.cell 1
      have lXa := hBXa.lt
      have fXa0 := hBXa.free 0
      have fXa1 := hBXa.free 1
      have HBXa := Lib.hid hBXa
      have HS1 := Lib.hid hs1
      clear hs1 hBXa
      go_wp2_with (fail)
      refine (HRF.out w1 HS1.out).mono ?_
      rintro e w3 ⟨rfl, hs13⟩
      replace HBXa := Lib.hid (HBXa.out.frm hs13 id)
      replace cXa0 : w3.cell? ⟨w.heap.size, 0, none⟩ = some (.int .i64 n) := HBXa.out.cell 0
      replace cXa1 : w3.cell? ⟨w.heap.size, 1, none⟩ = some (.slice Aa wsa.length Ca) := HBXa.out.cell 1
      replace lXa := HBXa.out.lt
      replace fXa0 := HBXa.out.free 0
      replace fXa1 := HBXa.out.free 1
      replace HS1 := Lib.hid (HS1.out.trans hs13 (fun _ _ h => h))
      clear hs13
      go_wp2_with (fail)
      refine (values_any n Ca Aa wsa w3 (Ha.out.same HS1.out) HFa.out).mono ?_
      rintro e w4 ⟨Al, CL, rfl, hNB⟩
      rw [HM.out] at hNB ⊢
      obtain ⟨L, rfl, hLl⟩ := Own.form1 hNB.1 (by rw [vals_len]; exact hMp)
      have hLn : w3.heap.size ≤ L := hNB.2.1 L ⟨_, rfl, rfl⟩
      have hsv := hNB.2.2
      have hOL := hNB.1
      rw [vals_len] at hOL
      have HOL := Lib.hid hOL
      clear hNB hOL
      have hxi : ¬ (x : Int) < M := by omega
      have hMu : IntKind.u64.wrap (M : Int) = M := IntWalk.u64_in _ (by omega)
      have HS4 := Lib.hid (HS1.out.trans hsv (fun _ _ h => h))
      clear hsv
      go_wp2
      go_ret2
      exact ⟨rfl, HS4.out⟩
end Go.Proofs.Ytlggmoghgoeiiaa


/- Truth tables: TruthPoints: the walk. -/
namespace Go.Proofs.Ytlggmoghgoeiiaa
open Go.RowKit Go.Tk

theorem popS_cnt {ws : List Nat} : ∀ k, k ≤ ws.length → popS ws k = cntB (vb ws) (64 * k)
  | 0, _ => rfl
  | k + 1, h => by
    obtain ⟨x, hx⟩ : ∃ x, ws[k]? = some x := ⟨_, List.getElem?_eq_getElem (by omega)⟩
    rw [popS_succ hx, popS_cnt k (by omega), show 64 * (k + 1) = 64 * k + 64 by omega, cntB_add]
    unfold popc
    congr 1
    exact cntB_congr fun j hj => (vb_word hx hj).symm
theorem popS_form {n : Nat} {ws : List Nat} (h : FormN n ws) : popS ws ws.length = cntB (vb ws) (2 ^ n) := by
  rw [popS_cnt _ (Nat.le_refl _), h.len]
  by_cases h6 : 6 ≤ n
  · rw [Nat.mul_comm, nw_mul h6]
  · have hp := Nat.pow_le_pow_right (show 0 < 2 by omega) (show n ≤ 5 by omega)
    rw [nw_small (by omega), show 64 * 1 = 2 ^ n + (64 - 2 ^ n) by omega, cntB_add]
    have : cntB (fun j => vb ws (2 ^ n + j)) (64 - 2 ^ n) = 0 := cntB_false fun j hj => by
      unfold vb
      have hlt : 2 ^ n + j < 64 := by omega
      rw [Nat.div_eq_of_lt hlt, Nat.mod_eq_of_lt hlt]
      exact Nat.testBit_lt_two_pow (Nat.lt_of_lt_of_le (h.top (by omega)) (Nat.pow_le_pow_right (by omega) (by omega)))
    omega
set_option maxRecDepth 100000 in
set_option maxHeartbeats 8000000 in
theorem points_walk (Na : Int) (Aa : Option Addr) (Ca : Nat) (wsa : List Nat) (w : World) (h : TbIn w ⟨Na, Aa, Ca, wsa⟩) : Calls Try.prog 4 #[.agg #[.int .i64 Na, .slice Aa wsa.length Ca]] w fun e w' => e = .returned (.bool true) ∧ Below w.heap.size w w' := by
  have H := Lib.hid h
  clear h
  cases hfr : frm Na wsa with
  | false =>
    have HFM := Lib.hid ((frm_one Na Aa Ca wsa).trans hfr)
    clear hfr
    go_enter Try.func4, Try.ntmps4
    go_upto_region 1 with fail
    refine wp_world fun w1 hw1 => ?_
    have hs1 : Same w w1 := by rw [hw1]; exact (Frm.refl _ _).alloc _
    have hBXa : Blk w1 (w.heap.size) 24 #[.int .i64 Na, .slice Aa wsa.length Ca] := by
      rw [hw1]
      have := (Blk.new w 24 #[.int .i64 Na, .slice Aa wsa.length Ca])
      simpa using this
    clear hw1
    have cXa0 : w1.cell? ⟨w.heap.size, 0, none⟩ = some (.int .i64 Na) := hBXa.cell 0
    have cXa1 : w1.cell? ⟨w.heap.size, 1, none⟩ = some (.slice Aa wsa.length Ca) := hBXa.cell 1
    have lXa := hBXa.lt
    have fXa0 := hBXa.free 0
    have fXa1 := hBXa.free 1
    have HBXa := Lib.hid hBXa
    have HS1 := Lib.hid hs1
    clear hs1 hBXa
    go_wp2_with (fail)
    refine (awake_any w1).mono ?_
    rintro e w2a ⟨rfl, hs13⟩
    replace HBXa := Lib.hid (HBXa.out.frm hs13 id)
    replace cXa0 : w2a.cell? ⟨w.heap.size, 0, none⟩ = some (.int .i64 Na) := HBXa.out.cell 0
    replace cXa1 : w2a.cell? ⟨w.heap.size, 1, none⟩ = some (.slice Aa wsa.length Ca) := HBXa.out.cell 1
    replace lXa := HBXa.out.lt
    replace fXa0 := HBXa.out.free 0
    replace fXa1 := HBXa.out.free 1
    replace HS1 := Lib.hid (HS1.out.trans hs13 (fun _ _ h => h))
    clear hs13
    have HOKa := Lib.hid (H.out.ok.same HS1.out)
    go_wp2_with (fail)
    refine call_world fun w2 hw2 => ?_
    have hs2 : Same w2a w2 := by rw [hw2]; exact (Frm.refl _ _).alloc _
    have hBL : Blk w2 w2a.heap.size 24 #[.int .i64 Na, .slice Aa wsa.length Ca] := by rw [hw2]; exact Blk.new _ _ _
    have htbs : Tbs w2 w2a.heap.size [⟨Na, Aa, Ca, wsa⟩] := by
      intro i t hi
      match i, hi with
      | 0, hi =>
        simp only [List.getElem?_cons_zero, Option.some.injEq] at hi
        subst hi
        exact ⟨hBL.lt, hBL.cell 0, hBL.cell 1⟩
      | i + 1, hi => simp at hi
    have hfc := good_any w2a.heap.size 1 1 [⟨Na, Aa, Ca, wsa⟩] w2 rfl (by decide) htbs (fun t ht => by
      simp only [List.mem_cons, List.not_mem_nil, or_false] at ht
      rcases ht with rfl
      · exact (HOKa.out).same hs2)
    rw [HFM.out] at hfc
    refine hfc.mono ?_
    clear hfc htbs hBL hw2
    rintro e w3 ⟨rfl, hs3⟩
    have hs23 : Same w2a w3 := hs2.trans hs3 (fun _ _ h => h)
    clear hs2 hs3
    replace HBXa := Lib.hid (HBXa.out.frm hs23 id)
    replace cXa0 : w3.cell? ⟨w.heap.size, 0, none⟩ = some (.int .i64 Na) := HBXa.out.cell 0
    replace cXa1 : w3.cell? ⟨w.heap.size, 1, none⟩ = some (.slice Aa wsa.length Ca) := HBXa.out.cell 1
    replace lXa := HBXa.out.lt
    replace fXa0 := HBXa.out.free 0
    replace fXa1 := HBXa.out.free 1
    replace HS1 := Lib.hid (HS1.out.trans hs23 (fun _ _ h => h))
    clear hs23
    go_wp2
    go_ret
    exact ⟨rfl, HS1.out.to_below (Nat.le_refl _) (fun _ _ => id)⟩
  | true =>
    obtain ⟨n, rfl, hform⟩ := frm_true hfr
    have HFM := Lib.hid ((frm_one n Aa Ca wsa).trans hfr)
    by_cases h12 : (12 : Int) < n
    · clear hfr hform
      go_enter Try.func4, Try.ntmps4
      go_upto_region 1 with fail
      refine wp_world fun w1 hw1 => ?_
      have hs1 : Same w w1 := by rw [hw1]; exact (Frm.refl _ _).alloc _
      have hBXa : Blk w1 (w.heap.size) 24 #[.int .i64 n, .slice Aa wsa.length Ca] := by
        rw [hw1]
        have := (Blk.new w 24 #[.int .i64 n, .slice Aa wsa.length Ca])
        simpa using this
      clear hw1
      have cXa0 : w1.cell? ⟨w.heap.size, 0, none⟩ = some (.int .i64 n) := hBXa.cell 0
      have cXa1 : w1.cell? ⟨w.heap.size, 1, none⟩ = some (.slice Aa wsa.length Ca) := hBXa.cell 1
      have lXa := hBXa.lt
      have fXa0 := hBXa.free 0
      have fXa1 := hBXa.free 1
      have HBXa := Lib.hid hBXa
      have HS1 := Lib.hid hs1
      clear hs1 hBXa
      go_wp2_with (fail)
      refine (awake_any w1).mono ?_
      rintro e w2a ⟨rfl, hs13⟩
      replace HBXa := Lib.hid (HBXa.out.frm hs13 id)
      replace cXa0 : w2a.cell? ⟨w.heap.size, 0, none⟩ = some (.int .i64 n) := HBXa.out.cell 0
      replace cXa1 : w2a.cell? ⟨w.heap.size, 1, none⟩ = some (.slice Aa wsa.length Ca) := HBXa.out.cell 1
      replace lXa := HBXa.out.lt
      replace fXa0 := HBXa.out.free 0
      replace fXa1 := HBXa.out.free 1
      replace HS1 := Lib.hid (HS1.out.trans hs13 (fun _ _ h => h))
      clear hs13
      have HOKa := Lib.hid (H.out.ok.same HS1.out)
      go_wp2_with (fail)
      refine call_world fun w2 hw2 => ?_
      have hs2 : Same w2a w2 := by rw [hw2]; exact (Frm.refl _ _).alloc _
      have hBL : Blk w2 w2a.heap.size 24 #[.int .i64 n, .slice Aa wsa.length Ca] := by rw [hw2]; exact Blk.new _ _ _
      have htbs : Tbs w2 w2a.heap.size [⟨n, Aa, Ca, wsa⟩] := by
        intro i t hi
        match i, hi with
        | 0, hi =>
          simp only [List.getElem?_cons_zero, Option.some.injEq] at hi
          subst hi
          exact ⟨hBL.lt, hBL.cell 0, hBL.cell 1⟩
        | i + 1, hi => simp at hi
      have hfc := good_any w2a.heap.size 1 1 [⟨n, Aa, Ca, wsa⟩] w2 rfl (by decide) htbs (fun t ht => by
        simp only [List.mem_cons, List.not_mem_nil, or_false] at ht
        rcases ht with rfl
        · exact (HOKa.out).same hs2)
      rw [HFM.out] at hfc
      refine hfc.mono ?_
      clear hfc htbs hBL hw2
      rintro e w3 ⟨rfl, hs3⟩
      have hs23 : Same w2a w3 := hs2.trans hs3 (fun _ _ h => h)
      clear hs2 hs3
      replace HBXa := Lib.hid (HBXa.out.frm hs23 id)
      replace cXa0 : w3.cell? ⟨w.heap.size, 0, none⟩ = some (.int .i64 n) := HBXa.out.cell 0
      replace cXa1 : w3.cell? ⟨w.heap.size, 1, none⟩ = some (.slice Aa wsa.length Ca) := HBXa.out.cell 1
      replace lXa := HBXa.out.lt
      replace fXa0 := HBXa.out.free 0
      replace fXa1 := HBXa.out.free 1
      replace HS1 := Lib.hid (HS1.out.trans hs23 (fun _ _ h => h))
      clear hs23
      go_wp2
      go_ret
      exact ⟨rfl, HS1.out.to_below (Nat.le_refl _) (fun _ _ => id)⟩
    · have h13 : ¬ (n : Int) > 12 := by omega
      have hn : n ≤ 12 := by omega
      have hp12 : 2 ^ n ≤ 2 ^ 12 := Nat.pow_le_pow_right (by omega) hn
      have hMp0 : 0 < 2 ^ n := Nat.pow_pos (by omega)
      have hat : ∀ (x : Nat) (w : World), x < 2 ^ n → TbOk w ⟨n, Aa, Ca, wsa⟩ → Calls Try.prog 21 #[.agg #[.int .i64 n, .slice Aa wsa.length Ca], .int .u64 x] w fun e w' => e = .returned (.tuple #[.bool (vb wsa x), .int .i64 0]) ∧ Same w w' := fun x w hx h => by
        have := At_any n Aa Ca wsa x w (by omega) h
        rw [show atE (frm n wsa) n x = 0 by rw [hfr]; unfold atE; rw [if_pos rfl, Int.toNat_natCast, if_pos hx], show atB n wsa x = vb wsa x by unfold atB; rw [hfr, show atE true n x = 0 by unfold atE; rw [if_pos rfl, Int.toNat_natCast, if_pos hx], if_pos rfl]] at this
        exact this
      have hat2 : ∀ (w : World), TbOk w ⟨n, Aa, Ca, wsa⟩ → Calls Try.prog 21 #[.agg #[.int .i64 n, .slice Aa wsa.length Ca], .int .u64 ((2 ^ n : Nat) : Int)] w fun e w' => e = .returned (.tuple #[.bool false, .int .i64 1]) ∧ Same w w' := fun w h => by
        have := At_any n Aa Ca wsa (2 ^ n) w (by omega) h
        rw [show atE (frm n wsa) n (2 ^ n) = 1 by rw [hfr]; unfold atE; rw [if_pos rfl, Int.toNat_natCast, if_neg (by omega)], show atB n wsa (2 ^ n) = false by unfold atB; rw [hfr, show atE true n (2 ^ n) = 1 by unfold atE; rw [if_pos rfl, Int.toNat_natCast, if_neg (by omega)], if_neg (by decide)]] at this
        exact this
      have hcn := fun (w : World) (h : TbOk w ⟨n, Aa, Ca, wsa⟩) => Count_any n Aa Ca wsa w h
      rw [hfr, if_pos rfl, popS_form hform, show fmE true = 0 from rfl] at hcn
      have hdl : ∀ i, i < 2 ^ n → ∃ x, wsa[i / 64]? = some x := fun i hi => ⟨_, List.getElem?_eq_getElem (by rw [hform.len]; exact div_lt_nw hi)⟩
      have hsw : IntKind.u64.wrap ((2 : Int) ^ n) = ((2 ^ n : Nat) : Int) := by
        rw [pow_int]
        generalize 2 ^ n = p at hp12
        exact IntWalk.u64_in _ (by omega)
      have hn0 : (0 : Int) ≤ n := by omega
      have hmn : min n 64 = n := by omega
      obtain ⟨M, hM⟩ : ∃ M, 2 ^ n = M := ⟨_, rfl⟩
      rw [hM] at hp12 hMp0 hat hat2 hcn hdl hsw
      have HAT := Lib.hid hat
      have HAT2 := Lib.hid hat2
      have HCN := Lib.hid hcn
      have HDL := Lib.hid hdl
      clear hfr hform hM hat hat2 hcn hdl hn
      go_enter Try.func4, Try.ntmps4
      go_upto_region 1 with fail
      refine wp_world fun w1 hw1 => ?_
      have hs1 : Same w w1 := by rw [hw1]; exact (Frm.refl _ _).alloc _
      have hBXa : Blk w1 (w.heap.size) 24 #[.int .i64 n, .slice Aa wsa.length Ca] := by
        rw [hw1]
        have := (Blk.new w 24 #[.int .i64 n, .slice Aa wsa.length Ca])
        simpa using this
      clear hw1
      have cXa0 : w1.cell? ⟨w.heap.size, 0, none⟩ = some (.int .i64 n) := hBXa.cell 0
      have cXa1 : w1.cell? ⟨w.heap.size, 1, none⟩ = some (.slice Aa wsa.length Ca) := hBXa.cell 1
      have lXa := hBXa.lt
      have fXa0 := hBXa.free 0
      have fXa1 := hBXa.free 1
      have HBXa := Lib.hid hBXa
      have HS1 := Lib.hid hs1
      clear hs1 hBXa
      go_wp2_with (fail)
      refine (awake_any w1).mono ?_
      rintro e w2a ⟨rfl, hs13⟩
      replace HBXa := Lib.hid (HBXa.out.frm hs13 id)
      replace cXa0 : w2a.cell? ⟨w.heap.size, 0, none⟩ = some (.int .i64 n) := HBXa.out.cell 0
      replace cXa1 : w2a.cell? ⟨w.heap.size, 1, none⟩ = some (.slice Aa wsa.length Ca) := HBXa.out.cell 1
      replace lXa := HBXa.out.lt
      replace fXa0 := HBXa.out.free 0
      replace fXa1 := HBXa.out.free 1
      replace HS1 := Lib.hid (HS1.out.trans hs13 (fun _ _ h => h))
      clear hs13
      have HOKa := Lib.hid (H.out.ok.same HS1.out)
      go_wp2_with (fail)
      refine call_world fun w2 hw2 => ?_
      have hs2 : Same w2a w2 := by rw [hw2]; exact (Frm.refl _ _).alloc _
      have hBL : Blk w2 w2a.heap.size 24 #[.int .i64 n, .slice Aa wsa.length Ca] := by rw [hw2]; exact Blk.new _ _ _
      have htbs : Tbs w2 w2a.heap.size [⟨n, Aa, Ca, wsa⟩] := by
        intro i t hi
        match i, hi with
        | 0, hi =>
          simp only [List.getElem?_cons_zero, Option.some.injEq] at hi
          subst hi
          exact ⟨hBL.lt, hBL.cell 0, hBL.cell 1⟩
        | i + 1, hi => simp at hi
      have hfc := good_any w2a.heap.size 1 1 [⟨n, Aa, Ca, wsa⟩] w2 rfl (by decide) htbs (fun t ht => by
        simp only [List.mem_cons, List.not_mem_nil, or_false] at ht
        rcases ht with rfl
        · exact (HOKa.out).same hs2)
      rw [HFM.out] at hfc
      refine hfc.mono ?_
      clear hfc htbs hBL hw2
      rintro e w3 ⟨rfl, hs3⟩
      have hs23 : Same w2a w3 := hs2.trans hs3 (fun _ _ h => h)
      clear hs2 hs3
      replace HBXa := Lib.hid (HBXa.out.frm hs23 id)
      replace cXa0 : w3.cell? ⟨w.heap.size, 0, none⟩ = some (.int .i64 n) := HBXa.out.cell 0
      replace cXa1 : w3.cell? ⟨w.heap.size, 1, none⟩ = some (.slice Aa wsa.length Ca) := HBXa.out.cell 1
      replace lXa := HBXa.out.lt
      replace fXa0 := HBXa.out.free 0
      replace fXa1 := HBXa.out.free 1
      replace HS1 := Lib.hid (HS1.out.trans hs23 (fun _ _ h => h))
      clear hs23
      go_wp2
      go_loopw [3, 4] (fun c x wr => ∃ k : Nat, k ≤ M ∧ x = .int .u64 k ∧ c = .int .u64 (cntB (vb wsa) k : Nat) ∧ Same w3 wr) (fun _ x _ => M - (intOf x).toNat)
      case atStart => exact ⟨0, by omega, rfl, rfl, Frm.refl _ _⟩
      case round =>
        obtain ⟨k, hk, rfl, rfl, hs⟩ := hrel
        have hcl := cntB_le (vb wsa) k
        have HBr := Lib.hid (HBXa.out.frm hs id)
        have HSr := Lib.hid (HS1.out.trans hs (fun _ _ h => h))
        have HS0 := Lib.hid hs
        have dX0 : wr.cell? ⟨w.heap.size, 0, none⟩ = some (.int .i64 n) := HBr.out.cell 0
        have dX1 : wr.cell? ⟨w.heap.size, 1, none⟩ = some (.slice Aa wsa.length Ca) := HBr.out.cell 1
        have dXl := HBr.out.lt
        clear cXa0 cXa1 fXa0 fXa1 lXa HBXa HS1 hs
        by_cases hlt : k < M
        · have hk1 : (k : Int) < M := by omega
          obtain ⟨y, hy⟩ := HDL.out k hlt
          have hyl := H.out.ok.small.at1 hy
          have hlx : k / 64 < wsa.length := lt_get hy
          have hvb : vb wsa k = y.testBit (k % 64) := by unfold vb; rw [List.getD_eq_getElem?_getD, hy]; rfl
          obtain ⟨bq, offq, hA, hbl, hcq⟩ := WL.at1 (Sl.same H.out.ok.wl HSr.out) hy
          simp only at hA
          subst hA
          have hb1 := and1_bit y (k % 64) hyl
          rw [← hvb] at hb1
          have hn1 : (k : Int) / 64 = ((k / 64 : Nat) : Int) := by omega
          have hn2 : (k : Int) % 64 = ((k % 64 : Nat) : Int) := by omega
          have hm64 : min (k % 64) 64 = k % 64 := by omega
          have hr64 : k % 64 < 64 := by omega
          have hpw : ((y : Nat) : Int) / 2 ^ (k % 64) = ((y / 2 ^ (k % 64) : Nat) : Int) := by rw [pow_int]; exact (Int.natCast_ediv _ _).symm
          have hst : cntB (vb wsa) (k + 1) = cntB (vb wsa) k + (if vb wsa k then 1 else 0) := rfl
          have hac := HAT.out k wr hlt (H.out.ok.same HSr.out)
          have hqi : ((k / 64 : Nat) : Int) < wsa.length := by omega
          have hq0 : (0 : Int) ≤ ((k / 64 : Nat) : Int) := by omega
          have hyq : y / 2 ^ (k % 64) ≤ y := Nat.div_le_self _ _
          have HST := Lib.hid hst
          clear hy hvb hst
          generalize vb wsa k = v at *
          generalize k % 64 = r at *
          generalize k / 64 = qq at *
          generalize y / 2 ^ r = z at *
          generalize cntB (vb wsa) k = cc at *
          have HAC := Lib.hid hac
          clear hac
          go_wp2_with (fail)
          refine HAC.out.mono ?_
          rintro e w5 ⟨rfl, hs⟩
          have HBr5 := Lib.hid (HBr.out.frm hs id)
          have eX1 : w5.cell? ⟨w.heap.size, 1, none⟩ = some (.slice (some ⟨bq, offq, none⟩) wsa.length Ca) := HBr5.out.cell 1
          have eXl := HBr5.out.lt
          have ecq := (hs.cell (p := ⟨bq, offq + qq, none⟩) hbl id).trans hcq
          have ebl := Nat.lt_of_lt_of_le hbl hs.size
          have HSw := Lib.hid (HS0.out.trans hs (fun _ _ h => h))
          clear hs dX0 dX1 dXl hcq hbl
          cases v
          · go_wp2
            go_roundw
            case rel => exact ⟨k + 1, by omega, by go_num, by rw [HST.out]; rfl, HSw.out⟩
            case measure => simp [intOf]; omega
          · go_wp2
            go_roundw
            case rel => exact ⟨k + 1, by omega, by go_num, by rw [HST.out]; go_num, HSw.out⟩
            case measure => simp [intOf]; omega
        · obtain rfl : k = M := by omega
          go_wp2_with (fail)
          refine (HCN.out wr (H.out.ok.same HSr.out)).mono ?_
          rintro e w5 ⟨rfl, hs⟩
          have HBr5 := Lib.hid (HBr.out.frm hs id)
          have eX0 : w5.cell? ⟨w.heap.size, 0, none⟩ = some (.int .i64 n) := HBr5.out.cell 0
          have eX1 : w5.cell? ⟨w.heap.size, 1, none⟩ = some (.slice Aa wsa.length Ca) := HBr5.out.cell 1
          have eXl := HBr5.out.lt
          have HSw := Lib.hid ((HSr.out).trans hs (fun _ _ h => h))
          clear hs dX0 dX1 dXl
          go_upto_region 15 with fail
          refine wp_quiet (by kernel_rfl) (by kernel_rfl) ?_
          repeat (any_goals (first | go_big_quiet_step ((go_at_call 21; exact quiet_call (HAT2.out _ (H.out.ok.same (HSw.out.trans (more_same _ _) (fun _ _ h => h)))))) | quiet_step ((go_at_call 21; exact quiet_call (HAT2.out _ (H.out.ok.same (HSw.out.trans (more_same _ _) (fun _ _ h => h))))))))
          refine wpQuiet_nil ?_
          rintro wz ⟨q, hq⟩
          have hsz : Same w5 wz := by rw [hq]; exact more_same _ q
          clear hq
          go_wp2
          go_ret
          exact ⟨rfl, (HSw.out.trans hsz (fun _ _ h => h)).to_below (Nat.le_refl _) (fun _ _ => id)⟩
end Go.Proofs.Ytlggmoghgoeiiaa


/- Truth tables: the reference's DocConst, DocVar. -/
namespace Go.Proofs.Ytlggmoghgoeiiaa
open Go.RowKit Go.Tk

set_option maxRecDepth 100000 in
set_option maxHeartbeats 8000000 in
theorem docConst_any (N : Int) (b : Bool) (w : World) : Calls Try.prog 26 #[.int .i64 N, .bool b] w (RetA w N (tab N.toNat (fun _ => b)) (cntE N)) := by
  have hct := fun w => rcount_any N w
  obtain ⟨c, hc⟩ : ∃ c, cntE N = c := ⟨_, rfl⟩
  rw [hc] at hct ⊢
  have HCT := Lib.hid hct
  clear hct
  by_cases h0 : ¬ c = 0
  · have h0' : (c != 0) = true := by simpa using h0
    unfold RetA
    rw [show ansN N c = 0 by unfold ansN; rw [if_neg h0], show ansL (tab N.toNat (fun _ => b)) c = [] by unfold ansL; rw [if_neg h0]]
    clear hc h0
    go_enter Try.func26, Try.ntmps26
    go_upto_region 1 with fail
    refine wp_world fun w1 hw1 => ?_
    have hs1 : Same w w1 := by rw [hw1]; exact (Frm.refl _ _).alloc _
    have hBR : Blk w1 w.heap.size 24 #[.int .i64 0, .slice none 0 0] := by rw [hw1]; exact Blk.new _ _ _
    clear hw1
    obtain ⟨R, hR⟩ : ∃ b, w.heap.size = b := ⟨_, rfl⟩
    rw [hR] at hBR ⊢
    have leR : w.heap.size ≤ R := by omega
    clear hR
    have cR0 : w1.cell? ⟨R, 0, none⟩ = some (.int .i64 0) := hBR.cell 0
    have cR1 : w1.cell? ⟨R, 1, none⟩ = some (.slice none 0 0) := hBR.cell 1
    have lR := hBR.lt
    have fR0 := hBR.free 0
    have fR1 := hBR.free 1
    have HBR := Lib.hid hBR
    have HS1 := Lib.hid hs1
    clear hs1 hBR
    go_wp2_with (fail)
    refine (HCT.out w1).mono ?_
    rintro e w2 ⟨rfl, rfl⟩
    go_wp2
    refine wp_post fun we hwe => ?_
    have hBE : Blk we R 24 #[.int .i64 0, .slice none 0 0] := by
      rw [hwe]
      have := (HBR.out.set 0 (.int .i64 0)).set 1 (.slice none 0 0)
      simpa using this
    have hSE : Same w we := by rw [hwe]; exact (HS1.out.setNew 0 _ leR).setNew 1 _ leR
    have hr0 : we.cell? ⟨R, 0, none⟩ = some (.int .i64 0) := hBE.cell 0
    have hr1 : we.cell? ⟨R, 1, none⟩ = some (.slice none 0 0) := hBE.cell 1
    clear hwe hBE
    refine bodyPost_ret (v := .tuple #[.agg #[.int .i64 0, .slice none 0 0], .int .i64 c]) (by simp [results, Try.results26, go_sem, hr0, hr1]) rfl ?_
    exact ⟨none, 0, rfl, NewT.nil hSE⟩
  replace h0 : c = 0 := by omega
  subst h0
  obtain ⟨hn0, hn16⟩ := cntE_ok hc
  obtain ⟨n, rfl⟩ := Int.eq_ofNat_of_zero_le hn0
  have hn : n ≤ 16 := by omega
  unfold RetA
  rw [show ansN n 0 = n from rfl, show ansL (tab (n : Int).toNat (fun _ => b)) 0 = tab n (fun _ => b) from rfl]
  clear hc hn0 hn16
  have hp16 := pow_le16 hn
  have hMp0 : 0 < 2 ^ n := Nat.pow_pos (by omega)
  have hsw := pow_lt_shift hn
  have hsw2 := pow_lt_shift2 hn
  have hn0 : (0 : Int) ≤ n := by omega
  have hmn : min n 64 = n := by omega
  obtain ⟨M, hM⟩ : ∃ M, 2 ^ n = M := ⟨_, rfl⟩
  have hMp : 0 < M := by omega
  rw [hM] at hp16 hsw hsw2
  have HM := Lib.hid hM
  clear hM hMp0
  obtain ⟨G, hG⟩ : ∃ G, (fun _ : Nat => b) = G := ⟨_, rfl⟩
  rw [hG]
  have HG := Lib.hid hG
  clear hG
  go_enter Try.func26, Try.ntmps26
  go_upto_region 1 with fail
  refine wp_world fun w1 hw1 => ?_
  have hs1 : Same w w1 := by rw [hw1]; exact (Frm.refl _ _).alloc _
  have hBR : Blk w1 w.heap.size 24 #[.int .i64 0, .slice none 0 0] := by rw [hw1]; exact Blk.new _ _ _
  clear hw1
  obtain ⟨R, hR⟩ : ∃ b, w.heap.size = b := ⟨_, rfl⟩
  rw [hR] at hBR ⊢
  have leR : w.heap.size ≤ R := by omega
  clear hR
  have cR0 : w1.cell? ⟨R, 0, none⟩ = some (.int .i64 0) := hBR.cell 0
  have cR1 : w1.cell? ⟨R, 1, none⟩ = some (.slice none 0 0) := hBR.cell 1
  have lR := hBR.lt
  have fR0 := hBR.free 0
  have fR1 := hBR.free 1
  have HBR := Lib.hid hBR
  have HS1 := Lib.hid hs1
  clear hs1 hBR
  go_wp2_with (fail)
  refine (HCT.out w1).mono ?_
  rintro e w2 ⟨rfl, rfl⟩
  have hmk := fun w => run_make_n (P := Try.prog) Try.underlying26 info_bool .i64 .i64 M (show 1 * M ≤ 281474976710656 by omega) (show M ≤ 9223372036854775807 by omega) w
  go_upto_region 5 with fail
  refine wp_world fun w5 hw5 => ?_
  have hsv : Same w1 w5 := by rw [hw5]; exact (Frm.refl _ _).alloc _
  have hOD : OwnB w5 (some ⟨w1.heap.size, 0, none⟩) M M (vals M (mixF G (fun _ => false) 0)) := by
    rw [vals_zero, vals_false, hw5]
    have := Own.ofMade (m := 1) w1 4 (fun b : Bool => [.bool b]) (fun _ => rfl) (by decide) false M (show M ≤ 9223372036854775807 by omega) rfl
    simpa using this
  clear hw5 hmk
  obtain ⟨D, hD⟩ : ∃ D, w1.heap.size = D := ⟨_, rfl⟩
  rw [hD] at hOD ⊢
  have hneRD : R ≠ D := by have := HBR.out.lt; omega
  have hDn : w.heap.size ≤ D := by have := HS1.out.size; omega
  have HOD := Lib.hid hOD
  have hDl5 : D < w5.heap.size := by
    obtain ⟨h, _⟩ := OwnB.cell hOD hMp
    exact h
  clear hD hOD
  replace HBR := Lib.hid (HBR.out.frm hsv id)
  replace cR0 : w5.cell? ⟨R, 0, none⟩ = some (.int .i64 0) := HBR.out.cell 0
  replace cR1 : w5.cell? ⟨R, 1, none⟩ = some (.slice none 0 0) := HBR.out.cell 1
  replace lR := HBR.out.lt
  replace fR0 := HBR.out.free 0
  replace fR1 := HBR.out.free 1
  replace HS1 := Lib.hid (HS1.out.trans hsv (fun _ _ h => h))
  clear hsv
  go_wp2
  go_loopw [20] (fun i wr => ∃ k : Nat, k ≤ M ∧ i = .int .i64 k ∧ Same w wr ∧ Blk wr R 24 #[.int .i64 0, .slice none 0 0] ∧ OwnB wr (some ⟨D, 0, none⟩) M M (vals M (mixF G (fun _ => false) k))) (fun i _ => M - (intOf i).toNat)
  case atStart => exact ⟨0, by omega, rfl, HS1.out, HBR.out, HOD.out⟩
  case round =>
    obtain ⟨k, hk, rfl, hs, hBR, hOD⟩ := hrel
    have HSr := Lib.hid hs
    have HBrR := Lib.hid hBR
    by_cases hlt : k < M
    · have hk0 : (0 : Int) ≤ k := by omega
      have hk1 : (k : Int) < M := by omega
      have HST := Lib.hid (OwnB.put hOD hlt)
      obtain ⟨hDl, hDc⟩ := OwnB.cell hOD hlt
      have hDf := Own.free hOD k
      have hGk : b = G k := by rw [← HG.out]
      rw [← hGk] at HST
      clear hs hBR hOD hGk
      go_wp2
      go_roundw
      case rel => exact ⟨k + 1, by omega, by go_num, HSr.out.setNew k _ hDn, HBrR.out.far (p := ⟨D, k, none⟩) hneRD _, HST.out⟩
      case measure => simp [intOf]; omega
    · obtain rfl : k = M := by omega
      rw [vals_full] at hOD
      have HODr := Lib.hid hOD
      have cR0 : wr.cell? ⟨R, 0, none⟩ = some (.int .i64 0) := hBR.cell 0
      have fR0 := hBR.free 0
      have cR1 : wr.cell? ⟨R, 1, none⟩ = some (.slice none 0 0) := hBR.cell 1
      have fR1 := hBR.free 1
      have lR := hBR.lt
      clear hs  hBR  hOD
      go_wp2_with (fail)
      rw [← HM.out] at HODr ⊢
      refine (rof_any n _ (some ⟨D, 0, none⟩) G wr hn (Own.sl (fun _ => rfl) HODr.out)).mono ?_
      rintro e w8 ⟨Aq, Cq, rfl, hNT⟩
      have hoq := hNT.1
      have hfq := hNT.2.1
      have hsq := hNT.2.2
      have hRq : ∀ a, Aq = some a → a.block ≠ R := fun a ha h => by
        have := hfq a.block ⟨a, ha, rfl⟩
        omega
      have HBRq := Lib.hid (HBrR.out.frm hsq id)
      have HSq := Lib.hid (HSr.out.trans hsq (fun _ _ h => h))
      have hfq' : Fresh w.heap.size Aq := fun b hb => by have := hfq b hb; have := HSr.out.size; omega
      have HOQ := Lib.hid hoq
      have HFQ := Lib.hid hfq'
      have hcR0 : w8.cell? ⟨R, 0, none⟩ = some (.int .i64 0) := HBRq.out.cell 0
      have hcR1 : w8.cell? ⟨R, 1, none⟩ = some (.slice none 0 0) := HBRq.out.cell 1
      have hfR0 := HBRq.out.free 0
      have hfR1 := HBRq.out.free 1
      have hlR := HBRq.out.lt
      clear hNT hoq hfq hsq hfq'
      go_wp2
      refine wp_post fun we hwe => ?_
      have hBE : Blk we R 24 #[.int .i64 n, .slice Aq (tab n G).length Cq] := by
        rw [hwe]
        have := (HBRq.out.set 0 (.int .i64 n)).set 1 (.slice Aq (tab n G).length Cq)
        simpa using this
      have hSE : Same w we := by rw [hwe]; exact (HSq.out.setNew 0 _ leR).setNew 1 _ leR
      have hOE : OwnW we Aq (tab n G).length Cq (tab n G) := by
        rw [hwe]
        exact (Own.far (p := ⟨R, 0, none⟩) HOQ.out hRq _).far (p := ⟨R, 1, none⟩) hRq _
      have hr0 : we.cell? ⟨R, 0, none⟩ = some (.int .i64 n) := hBE.cell 0
      have hr1 : we.cell? ⟨R, 1, none⟩ = some (.slice Aq (tab n G).length Cq) := hBE.cell 1
      clear hwe hBE
      refine bodyPost_ret (v := .tuple #[.agg #[.int .i64 n, .slice Aq (tab n G).length Cq], .int .i64 0]) (by simp [results, Try.results26, go_sem, hr0, hr1]) rfl ?_
      exact ⟨Aq, Cq, rfl, hOE, HFQ.out, hSE⟩
set_option maxRecDepth 100000 in
set_option maxHeartbeats 8000000 in
theorem docVar_any (N v : Int) (w : World) : Calls Try.prog 28 #[.int .i64 N, .int .i64 v] w (RetA w N (tab N.toNat (varF v.toNat)) (varE N v)) := by
  have hct := fun w => rcount_any N w
  obtain ⟨c, hc⟩ : ∃ c, cntE N = c := ⟨_, rfl⟩
  rw [hc] at hct
  have HCT := Lib.hid hct
  clear hct
  by_cases h0 : ¬ c = 0
  · have he : varE N v = c := by unfold varE; rw [hc, if_pos h0]
    have h0' : (c != 0) = true := by simpa using h0
    unfold RetA
    rw [he, show ansN N c = 0 by unfold ansN; rw [if_neg h0], show ansL (tab N.toNat (varF v.toNat)) c = [] by unfold ansL; rw [if_neg h0]]
    clear he hc h0
    go_enter Try.func28, Try.ntmps28
    go_upto_region 1 with fail
    refine wp_world fun w1 hw1 => ?_
    have hs1 : Same w w1 := by rw [hw1]; exact (Frm.refl _ _).alloc _
    have hBR : Blk w1 w.heap.size 24 #[.int .i64 0, .slice none 0 0] := by rw [hw1]; exact Blk.new _ _ _
    clear hw1
    obtain ⟨R, hR⟩ : ∃ b, w.heap.size = b := ⟨_, rfl⟩
    rw [hR] at hBR ⊢
    have leR : w.heap.size ≤ R := by omega
    clear hR
    have cR0 : w1.cell? ⟨R, 0, none⟩ = some (.int .i64 0) := hBR.cell 0
    have cR1 : w1.cell? ⟨R, 1, none⟩ = some (.slice none 0 0) := hBR.cell 1
    have lR := hBR.lt
    have fR0 := hBR.free 0
    have fR1 := hBR.free 1
    have HBR := Lib.hid hBR
    have HS1 := Lib.hid hs1
    clear hs1 hBR
    go_wp2_with (fail)
    refine (HCT.out w1).mono ?_
    rintro e w2 ⟨rfl, rfl⟩
    go_wp2
    refine wp_post fun we hwe => ?_
    have hBE : Blk we R 24 #[.int .i64 0, .slice none 0 0] := by
      rw [hwe]
      have := (HBR.out.set 0 (.int .i64 0)).set 1 (.slice none 0 0)
      simpa using this
    have hSE : Same w we := by rw [hwe]; exact (HS1.out.setNew 0 _ leR).setNew 1 _ leR
    have hr0 : we.cell? ⟨R, 0, none⟩ = some (.int .i64 0) := hBE.cell 0
    have hr1 : we.cell? ⟨R, 1, none⟩ = some (.slice none 0 0) := hBE.cell 1
    clear hwe hBE
    refine bodyPost_ret (v := .tuple #[.agg #[.int .i64 0, .slice none 0 0], .int .i64 c]) (by simp [results, Try.results28, go_sem, hr0, hr1]) rfl ?_
    exact ⟨none, 0, rfl, NewT.nil hSE⟩
  replace h0 : c = 0 := by omega
  subst h0
  obtain ⟨hn0, hn16⟩ := cntE_ok hc
  obtain ⟨n, rfl⟩ := Int.eq_ofNat_of_zero_le hn0
  have hn : n ≤ 16 := by omega
  clear hn0 hn16
  by_cases h1 : v < 0 ∨ (n : Int) ≤ v
  · have he : varE n v = 2 := by unfold varE; rw [hc, if_neg (by simp), if_pos h1]
    unfold RetA
    rw [he, show ansN n 2 = 0 from rfl, show ansL (tab (n : Int).toNat (varF v.toNat)) 2 = [] from rfl]
    clear he hc
    by_cases h2 : v < 0
    · clear h1
      go_enter Try.func28, Try.ntmps28
      go_upto_region 1 with fail
      refine wp_world fun w1 hw1 => ?_
      have hs1 : Same w w1 := by rw [hw1]; exact (Frm.refl _ _).alloc _
      have hBR : Blk w1 w.heap.size 24 #[.int .i64 0, .slice none 0 0] := by rw [hw1]; exact Blk.new _ _ _
      clear hw1
      obtain ⟨R, hR⟩ : ∃ b, w.heap.size = b := ⟨_, rfl⟩
      rw [hR] at hBR ⊢
      have leR : w.heap.size ≤ R := by omega
      clear hR
      have cR0 : w1.cell? ⟨R, 0, none⟩ = some (.int .i64 0) := hBR.cell 0
      have cR1 : w1.cell? ⟨R, 1, none⟩ = some (.slice none 0 0) := hBR.cell 1
      have lR := hBR.lt
      have fR0 := hBR.free 0
      have fR1 := hBR.free 1
      have HBR := Lib.hid hBR
      have HS1 := Lib.hid hs1
      clear hs1 hBR
      go_wp2_with (fail)
      refine (HCT.out w1).mono ?_
      rintro e w2 ⟨rfl, rfl⟩
      go_wp2
      refine wp_post fun we hwe => ?_
      have hBE : Blk we R 24 #[.int .i64 0, .slice none 0 0] := by
        rw [hwe]
        have := (HBR.out.set 0 (.int .i64 0)).set 1 (.slice none 0 0)
        simpa using this
      have hSE : Same w we := by rw [hwe]; exact (HS1.out.setNew 0 _ leR).setNew 1 _ leR
      have hr0 : we.cell? ⟨R, 0, none⟩ = some (.int .i64 0) := hBE.cell 0
      have hr1 : we.cell? ⟨R, 1, none⟩ = some (.slice none 0 0) := hBE.cell 1
      clear hwe hBE
      refine bodyPost_ret (v := .tuple #[.agg #[.int .i64 0, .slice none 0 0], .int .i64 2]) (by simp [results, Try.results28, go_sem, hr0, hr1]) rfl ?_
      exact ⟨none, 0, rfl, NewT.nil hSE⟩
    · have h3 : v ≥ (n : Int) := by omega
      clear h1
      go_enter Try.func28, Try.ntmps28
      go_upto_region 1 with fail
      refine wp_world fun w1 hw1 => ?_
      have hs1 : Same w w1 := by rw [hw1]; exact (Frm.refl _ _).alloc _
      have hBR : Blk w1 w.heap.size 24 #[.int .i64 0, .slice none 0 0] := by rw [hw1]; exact Blk.new _ _ _
      clear hw1
      obtain ⟨R, hR⟩ : ∃ b, w.heap.size = b := ⟨_, rfl⟩
      rw [hR] at hBR ⊢
      have leR : w.heap.size ≤ R := by omega
      clear hR
      have cR0 : w1.cell? ⟨R, 0, none⟩ = some (.int .i64 0) := hBR.cell 0
      have cR1 : w1.cell? ⟨R, 1, none⟩ = some (.slice none 0 0) := hBR.cell 1
      have lR := hBR.lt
      have fR0 := hBR.free 0
      have fR1 := hBR.free 1
      have HBR := Lib.hid hBR
      have HS1 := Lib.hid hs1
      clear hs1 hBR
      go_wp2_with (fail)
      refine (HCT.out w1).mono ?_
      rintro e w2 ⟨rfl, rfl⟩
      go_wp2
      refine wp_post fun we hwe => ?_
      have hBE : Blk we R 24 #[.int .i64 0, .slice none 0 0] := by
        rw [hwe]
        have := (HBR.out.set 0 (.int .i64 0)).set 1 (.slice none 0 0)
        simpa using this
      have hSE : Same w we := by rw [hwe]; exact (HS1.out.setNew 0 _ leR).setNew 1 _ leR
      have hr0 : we.cell? ⟨R, 0, none⟩ = some (.int .i64 0) := hBE.cell 0
      have hr1 : we.cell? ⟨R, 1, none⟩ = some (.slice none 0 0) := hBE.cell 1
      clear hwe hBE
      refine bodyPost_ret (v := .tuple #[.agg #[.int .i64 0, .slice none 0 0], .int .i64 2]) (by simp [results, Try.results28, go_sem, hr0, hr1]) rfl ?_
      exact ⟨none, 0, rfl, NewT.nil hSE⟩
  · obtain ⟨V, rfl⟩ : ∃ V : Nat, v = V := ⟨v.toNat, by omega⟩
    have hV : V < n := by omega
    have h2 : ¬ (V : Int) < 0 := by omega
    have h3 : ¬ (V : Int) ≥ n := by omega
    have h3n : ¬ n ≤ V := by omega
    have he : varE n V = 0 := by unfold varE; rw [hc, if_neg (by simp), if_neg h1]
    unfold RetA
    rw [he, show ansN n 0 = n from rfl, show ansL (tab (n : Int).toNat (varF (V : Int).toNat)) 0 = tab n (varF V) from rfl]
    clear he hc h1
    have hp16 := pow_le16 hn
    have hMp0 : 0 < 2 ^ n := Nat.pow_pos (by omega)
    have hsw := pow_lt_shift hn
    have hsw2 := pow_lt_shift2 hn
    have hn0 : (0 : Int) ≤ n := by omega
    have hmn : min n 64 = n := by omega
    obtain ⟨M, hM⟩ : ∃ M, 2 ^ n = M := ⟨_, rfl⟩
    have hMp : 0 < M := by omega
    rw [hM] at hp16 hsw hsw2
    have HM := Lib.hid hM
    clear hM hMp0
    obtain ⟨G, hG⟩ : ∃ G, varF V = G := ⟨_, rfl⟩
    rw [hG]
    have HG := Lib.hid hG
    clear hG
    go_enter Try.func28, Try.ntmps28
    go_upto_region 1 with fail
    refine wp_world fun w1 hw1 => ?_
    have hs1 : Same w w1 := by rw [hw1]; exact (Frm.refl _ _).alloc _
    have hBR : Blk w1 w.heap.size 24 #[.int .i64 0, .slice none 0 0] := by rw [hw1]; exact Blk.new _ _ _
    clear hw1
    obtain ⟨R, hR⟩ : ∃ b, w.heap.size = b := ⟨_, rfl⟩
    rw [hR] at hBR ⊢
    have leR : w.heap.size ≤ R := by omega
    clear hR
    have cR0 : w1.cell? ⟨R, 0, none⟩ = some (.int .i64 0) := hBR.cell 0
    have cR1 : w1.cell? ⟨R, 1, none⟩ = some (.slice none 0 0) := hBR.cell 1
    have lR := hBR.lt
    have fR0 := hBR.free 0
    have fR1 := hBR.free 1
    have HBR := Lib.hid hBR
    have HS1 := Lib.hid hs1
    clear hs1 hBR
    go_wp2_with (fail)
    refine (HCT.out w1).mono ?_
    rintro e w2 ⟨rfl, rfl⟩
    have hmk := fun w => run_make_n (P := Try.prog) Try.underlying26 info_bool .i64 .i64 M (show 1 * M ≤ 281474976710656 by omega) (show M ≤ 9223372036854775807 by omega) w
    go_upto_region 7 with fail
    refine wp_world fun w5 hw5 => ?_
    have hsv : Same w1 w5 := by rw [hw5]; exact (Frm.refl _ _).alloc _
    have hOD : OwnB w5 (some ⟨w1.heap.size, 0, none⟩) M M (vals M (mixF G (fun _ => false) 0)) := by
      rw [vals_zero, vals_false, hw5]
      have := Own.ofMade (m := 1) w1 4 (fun b : Bool => [.bool b]) (fun _ => rfl) (by decide) false M (show M ≤ 9223372036854775807 by omega) rfl
      simpa using this
    clear hw5 hmk
    obtain ⟨D, hD⟩ : ∃ D, w1.heap.size = D := ⟨_, rfl⟩
    rw [hD] at hOD ⊢
    have hneRD : R ≠ D := by have := HBR.out.lt; omega
    have hDn : w.heap.size ≤ D := by have := HS1.out.size; omega
    have HOD := Lib.hid hOD
    have hDl5 : D < w5.heap.size := by
      obtain ⟨h, _⟩ := OwnB.cell hOD hMp
      exact h
    clear hD hOD
    replace HBR := Lib.hid (HBR.out.frm hsv id)
    replace cR0 : w5.cell? ⟨R, 0, none⟩ = some (.int .i64 0) := HBR.out.cell 0
    replace cR1 : w5.cell? ⟨R, 1, none⟩ = some (.slice none 0 0) := HBR.out.cell 1
    replace lR := HBR.out.lt
    replace fR0 := HBR.out.free 0
    replace fR1 := HBR.out.free 1
    replace HS1 := Lib.hid (HS1.out.trans hsv (fun _ _ h => h))
    clear hsv
    go_wp2
    go_loopw [28] (fun i wr => ∃ k : Nat, k ≤ M ∧ i = .int .i64 k ∧ Same w wr ∧ Blk wr R 24 #[.int .i64 0, .slice none 0 0] ∧ OwnB wr (some ⟨D, 0, none⟩) M M (vals M (mixF G (fun _ => false) k))) (fun i _ => M - (intOf i).toNat)
    case atStart => exact ⟨0, by omega, rfl, HS1.out, HBR.out, HOD.out⟩
    case round =>
      obtain ⟨k, hk, rfl, hs, hBR, hOD⟩ := hrel
      have HSr := Lib.hid hs
      have HBrR := Lib.hid hBR
      by_cases hlt : k < M
      · have hk0 : (0 : Int) ≤ k := by omega
        have hk1 : (k : Int) < M := by omega
        have HST := Lib.hid (OwnB.put hOD hlt)
        obtain ⟨hDl, hDc⟩ := OwnB.cell hOD hlt
        have hDf := Own.free hOD k
        have hbi : ∀ w', Calls Try.prog 68 #[.int .i64 k, .int .i64 V] w' fun e w'' => e = .returned (.bool (G k)) ∧ w' = w'' := fun w' => by
          rw [← HG.out]
          exact bit_any k V w' (by omega)
        have HBI := Lib.hid hbi
        clear hs hBR hOD hbi
        generalize G k = g at *
        go_wp2_with (fail)
        refine (HBI.out wr).mono ?_
        rintro e w6 ⟨rfl, rfl⟩
        go_wp2
        go_roundw
        case rel => exact ⟨k + 1, by omega, by go_num, HSr.out.setNew k _ hDn, HBrR.out.far (p := ⟨D, k, none⟩) hneRD _, HST.out⟩
        case measure => simp [intOf]; omega
      · obtain rfl : k = M := by omega
        rw [vals_full] at hOD
        have HODr := Lib.hid hOD
        have cR0 : wr.cell? ⟨R, 0, none⟩ = some (.int .i64 0) := hBR.cell 0
        have fR0 := hBR.free 0
        have cR1 : wr.cell? ⟨R, 1, none⟩ = some (.slice none 0 0) := hBR.cell 1
        have fR1 := hBR.free 1
        have lR := hBR.lt
        clear hs  hBR  hOD
        go_wp2_with (fail)
        rw [← HM.out] at HODr ⊢
        refine (rof_any n _ (some ⟨D, 0, none⟩) G wr hn (Own.sl (fun _ => rfl) HODr.out)).mono ?_
        rintro e w8 ⟨Aq, Cq, rfl, hNT⟩
        have hoq := hNT.1
        have hfq := hNT.2.1
        have hsq := hNT.2.2
        have hRq : ∀ a, Aq = some a → a.block ≠ R := fun a ha h => by
          have := hfq a.block ⟨a, ha, rfl⟩
          omega
        have HBRq := Lib.hid (HBrR.out.frm hsq id)
        have HSq := Lib.hid (HSr.out.trans hsq (fun _ _ h => h))
        have hfq' : Fresh w.heap.size Aq := fun b hb => by have := hfq b hb; have := HSr.out.size; omega
        have HOQ := Lib.hid hoq
        have HFQ := Lib.hid hfq'
        have hcR0 : w8.cell? ⟨R, 0, none⟩ = some (.int .i64 0) := HBRq.out.cell 0
        have hcR1 : w8.cell? ⟨R, 1, none⟩ = some (.slice none 0 0) := HBRq.out.cell 1
        have hfR0 := HBRq.out.free 0
        have hfR1 := HBRq.out.free 1
        have hlR := HBRq.out.lt
        clear hNT hoq hfq hsq hfq'
        go_wp2
        refine wp_post fun we hwe => ?_
        have hBE : Blk we R 24 #[.int .i64 n, .slice Aq (tab n G).length Cq] := by
          rw [hwe]
          have := (HBRq.out.set 0 (.int .i64 n)).set 1 (.slice Aq (tab n G).length Cq)
          simpa using this
        have hSE : Same w we := by rw [hwe]; exact (HSq.out.setNew 0 _ leR).setNew 1 _ leR
        have hOE : OwnW we Aq (tab n G).length Cq (tab n G) := by
          rw [hwe]
          exact (Own.far (p := ⟨R, 0, none⟩) HOQ.out hRq _).far (p := ⟨R, 1, none⟩) hRq _
        have hr0 : we.cell? ⟨R, 0, none⟩ = some (.int .i64 n) := hBE.cell 0
        have hr1 : we.cell? ⟨R, 1, none⟩ = some (.slice Aq (tab n G).length Cq) := hBE.cell 1
        clear hwe hBE
        refine bodyPost_ret (v := .tuple #[.agg #[.int .i64 n, .slice Aq (tab n G).length Cq], .int .i64 0]) (by simp [results, Try.results28, go_sem, hr0, hr1]) rfl ?_
        exact ⟨Aq, Cq, rfl, hOE, HFQ.out, hSE⟩
end Go.Proofs.Ytlggmoghgoeiiaa


/- Truth tables: TruthForms: the walk. -/
namespace Go.Proofs.Ytlggmoghgoeiiaa
open Go.RowKit Go.Tk

theorem tab_len_le {n : Nat} {F : Nat → Bool} (h : n ≤ 16) : (tab n F).length ≤ 1000000000000000000 := by
  rw [tab_len]
  have := nw_le h
  omega
theorem cntE_len {N : Int} {F : Nat → Bool} : (ansL (tab N.toNat F) (cntE N)).length ≤ 1000000000000000000 := by
  unfold ansL
  split
  · rename_i h
    have := cntE_ok h
    exact tab_len_le (by omega)
  · simp
theorem varE_len {N v : Int} {F : Nat → Bool} : (ansL (tab N.toNat F) (varE N v)).length ≤ 1000000000000000000 := by
  unfold ansL
  split
  · rename_i h
    unfold varE at h
    split at h
    · rename_i h2; exact absurd h h2
    · rename_i h2
      have := cntE_ok (Decidable.not_not.1 h2)
      exact tab_len_le (by omega)
  · simp
set_option maxRecDepth 100000 in
set_option maxHeartbeats 8000000 in
theorem forms_walk (Na : Int) (Aa : Option Addr) (Ca : Nat) (wsa : List Nat) (n v : Int) (w : World) (h : TbIn w ⟨Na, Aa, Ca, wsa⟩) : Calls Try.prog 5 #[.agg #[.int .i64 Na, .slice Aa wsa.length Ca], .int .i64 n, .int .i64 v] w fun e w' => e = .returned (.bool true) ∧ Below w.heap.size w w' := by
  have H := Lib.hid h
  have hroom := h.room
  simp only at hroom
  have hfp := fun (w' : World) (A : Option Addr) (C : Nat) (h : WL w' A wsa.length wsa) => Form_any Na A _ C wsa w' h H.out.ok.small
  have hfr := fun (w' : World) (h : WL w' Aa wsa.length wsa) => rForm_any Na Aa _ Ca wsa w' h H.out.ok.small
  obtain ⟨fr, hfe⟩ : ∃ r, frm Na wsa = r := ⟨_, rfl⟩
  rw [hfe] at hfp hfr
  have HFP := Lib.hid hfp
  have HFR := Lib.hid hfr
  clear h hfp hfr hfe
  go_enter Try.func5, Try.ntmps5
  go_upto_region 1 with fail
  refine wp_world fun w1 hw1 => ?_
  have hs1 : Same w w1 := by rw [hw1]; exact (Frm.refl _ _).alloc _
  have hBXa : Blk w1 (w.heap.size) 24 #[.int .i64 Na, .slice Aa wsa.length Ca] := by
    rw [hw1]
    have := (Blk.new w 24 #[.int .i64 Na, .slice Aa wsa.length Ca])
    simpa using this
  clear hw1
  have cXa0 : w1.cell? ⟨w.heap.size, 0, none⟩ = some (.int .i64 Na) := hBXa.cell 0
  have cXa1 : w1.cell? ⟨w.heap.size, 1, none⟩ = some (.slice Aa wsa.length Ca) := hBXa.cell 1
  have lXa := hBXa.lt
  have fXa0 := hBXa.free 0
  have fXa1 := hBXa.free 1
  have HBXa := Lib.hid hBXa
  have HS1 := Lib.hid hs1
  clear hs1 hBXa
  refine wp_phS (fun _ => False) [([], 0), ([1, 2, 3, 6], 4), ([], 5), ([], 7), ([8], 9)] (by kernel_rfl) (by kernel_rfl) ?_
  simp only [wpPh, pick, List.map_cons, List.map_nil, List.getD_cons_zero, List.getD_cons_succ]
  have hs : Same w1 w1.drew := (Frm.refl _ _).drew
  repeat (any_goals (first | go_big_quiet_step (fail) | quiet_step (fail)))
  refine wpQuiet_nil ?_
  refine effStep_plain rfl fun K hK => ?_
  go_simp
  refine (awake_any _).mono ?_
  rintro e u1 ⟨rfl, hsz⟩
  have hs := hs.trans hsz (fun _ _ h => h)
  refine hK _ _ (Lat.mk_ (Frm.mono hs (fun _ _ h => h.elim))) ?_
  clear hK K hsz
  repeat (any_goals (first | go_big_quiet_step (fail) | quiet_step (fail)))
  refine wpQuiet_nil ?_
  refine effStep_on (by rfl) fun K hK => ?_
  go_simp
  refine (rtwin_any Na Aa Ca wsa _ (Sl.same H.out.ok.wl (HS1.out.trans hs (fun _ _ h => h))) hroom).mono ?_
  rintro e u2 ⟨At, Ct, rfl, hNT⟩
  have hs := hs.trans hNT.2.2 (fun _ _ h => h)
  have hot := hNT.1
  refine hK _ _ (Lat.mk_ (Frm.mono hs (fun _ _ h => h.elim))) ?_
  clear hK K hNT
  repeat (any_goals (first | go_big_quiet_step (fail) | quiet_step (fail)))
  refine wpQuiet_nil ?_
  refine effStep_on (by rfl) fun K hK => ?_
  go_simp
  refine (HFP.out _ At Ct (hot.sl ucell_len)).mono ?_
  rintro e u3 ⟨rfl, hsz⟩
  have hs := hs.trans hsz (fun _ _ h => h)
  refine hK _ _ (Lat.mk_ (Frm.mono hs (fun _ _ h => h.elim))) ?_
  clear hK K hsz hot
  repeat (any_goals (first | go_big_quiet_step (fail) | quiet_step (fail)))
  refine wpQuiet_nil ?_
  refine effStep_on (by rfl) fun K hK => ?_
  go_simp
  refine (HFR.out _ (Sl.same H.out.ok.wl (HS1.out.trans hs (fun _ _ h => h)))).mono ?_
  rintro e u4 ⟨rfl, hsz⟩
  have hs13 := hs.trans hsz (fun _ _ h => h)
  refine hK _ _ (Lat.mk_ (Frm.mono hs13 (fun _ _ h => h.elim))) ?_
  have hbe : (fr != fr) = false := by cases fr <;> rfl
  clear hK K hsz hs
  replace HBXa := Lib.hid (HBXa.out.frm hs13 id)
  replace cXa0 : u4.cell? ⟨w.heap.size, 0, none⟩ = some (.int .i64 Na) := HBXa.out.cell 0
  replace cXa1 : u4.cell? ⟨w.heap.size, 1, none⟩ = some (.slice Aa wsa.length Ca) := HBXa.out.cell 1
  replace lXa := HBXa.out.lt
  replace fXa0 := HBXa.out.free 0
  replace fXa1 := HBXa.out.free 1
  replace HS1 := Lib.hid (HS1.out.trans hs13 (fun _ _ h => h))
  clear hs13
  repeat (any_goals (first | go_big_quiet_step (fail) | quiet_step (fail)))
  refine wpQuiet_nil ?_
  go_upto_region 4 with fail
  refine wp_world fun w3 hw3 => ?_
  have hs23 : Same u4 w3 := by rw [hw3]; exact (Frm.refl _ _).alloc _
  have hBL : Blk w3 u4.heap.size 4 #[.bool false, .bool true] := by rw [hw3]; exact Blk.new _ _ _
  clear hw3
  replace HS1 := Lib.hid (HS1.out.trans hs23 (fun _ _ h => h))
  generalize u4.heap.size = L at *
  have HBL := Lib.hid hBL
  clear hBL hs23 fXa0 fXa1 cXa0 cXa1 lXa HBXa
  go_wp2
  go_loopw [29] (fun i wr => ∃ k : Nat, k ≤ 2 ∧ i = .int .i64 k ∧ Same w3 wr) (fun i _ => 2 - (intOf i).toNat)
  case atStart => exact ⟨0, by omega, rfl, Frm.refl _ _⟩
  case round =>
    obtain ⟨k, hk, rfl, hs0⟩ := hrel
    replace HS1 := Lib.hid (HS1.out.trans hs0 (fun _ _ h => h))
    have eL0 : wr.cell? ⟨L, 0, none⟩ = some (.bool false) := (HBL.out.frm hs0 id).cell 0
    have eL1 : wr.cell? ⟨L, 1, none⟩ = some (.bool true) := (HBL.out.frm hs0 id).cell 1
    have lL := (HBL.out.frm hs0 id).lt
    obtain rfl | rfl | rfl : k = 0 ∨ k = 1 ∨ k = 2 := by omega
    · rw [show ((0 : Nat) : Int) = 0 from rfl]
      have hP := fun w => Const_any n false w
      have hD := fun w => docConst_any n false w
      have hrl := cntE_len (N := n) (F := fun _ => false)
      unfold RetA at hP hD
      generalize ansN n (cntE n) = rn at hP hD
      generalize ansL (tab n.toNat (fun _ => false)) (cntE n) = rws at hP hD hrl
      generalize cntE n = re at hP hD
      have HP := Lib.hid hP
      have HD := Lib.hid hD
      clear hP hD
      go_wp2_with (fail)
      refine (HP.out wr).mono ?_
      rintro e wc ⟨Ap, Cp, rfl, hNT⟩
      have hs := hNT.2.2
      have hop := hNT.1
      clear hNT
      go_wp2_with (fail)
      refine call_world fun wd hwd => ?_
      have hsv : Same wc wd := by rw [hwd]; exact (Frm.refl _ _).alloc _
      have hop := Own.frm hop hsv (fun _ _ => id)
      have hs := hs.trans hsv (fun _ _ h => h)
      have hBp : Blk wd wc.heap.size 24 #[.int .i64 rn, .slice Ap rws.length Cp] := by rw [hwd]; exact Blk.new _ _ _
      clear hwd hsv
      generalize wc.heap.size = Tp at *
      refine (HD.out wd).mono ?_
      rintro e we ⟨Aq, Cq, rfl, hNT⟩
      have hs := hs.trans hNT.2.2 (fun _ _ h => h)
      have hop := Own.frm hop hNT.2.2 (fun _ _ => id)
      have hBp := hBp.frm hNT.2.2 id
      have hoq := hNT.1
      clear hNT
      have hcp0 : we.cell? ⟨Tp, 0, none⟩ = some (.int .i64 rn) := hBp.cell 0
      have hcp1 : we.cell? ⟨Tp, 1, none⟩ = some (.slice Ap rws.length Cp) := hBp.cell 1
      have hlp := hBp.lt
      clear hBp
      go_wp2_with (fail)
      refine call_world fun wf hwf => ?_
      have hsv : Same we wf := by rw [hwf]; exact (Frm.refl _ _).alloc _
      have hop := Own.frm hop hsv (fun _ _ => id)
      have hoq := Own.frm hoq hsv (fun _ _ => id)
      have hs := hs.trans hsv (fun _ _ h => h)
      clear hwf hsv hcp0 hcp1 hlp
      refine (alike_any rn Ap rws.length Cp rws re rn Aq rws.length Cq rws re wf (hop.sl ucell_len) (hoq.sl ucell_len) hrl).mono ?_
      rintro e wg ⟨rfl, hsv⟩
      rw [sm_self, beq_self_eq_true, Bool.and_true]
      have hs := hs.trans hsv (fun _ _ h => h)
      clear hop hoq hsv
      go_wp2
      go_roundw
      case rel => exact ⟨1, by omega, rfl, hs0.trans hs (fun _ _ h => h)⟩
      case measure => simp [intOf]
    · rw [show ((1 : Nat) : Int) = 1 from rfl]
      have hP := fun w => Const_any n true w
      have hD := fun w => docConst_any n true w
      have hrl := cntE_len (N := n) (F := fun _ => true)
      unfold RetA at hP hD
      generalize ansN n (cntE n) = rn at hP hD
      generalize ansL (tab n.toNat (fun _ => true)) (cntE n) = rws at hP hD hrl
      generalize cntE n = re at hP hD
      have HP := Lib.hid hP
      have HD := Lib.hid hD
      clear hP hD
      go_wp2_with (fail)
      refine (HP.out wr).mono ?_
      rintro e wc ⟨Ap, Cp, rfl, hNT⟩
      have hs := hNT.2.2
      have hop := hNT.1
      clear hNT
      go_wp2_with (fail)
      refine call_world fun wd hwd => ?_
      have hsv : Same wc wd := by rw [hwd]; exact (Frm.refl _ _).alloc _
      have hop := Own.frm hop hsv (fun _ _ => id)
      have hs := hs.trans hsv (fun _ _ h => h)
      have hBp : Blk wd wc.heap.size 24 #[.int .i64 rn, .slice Ap rws.length Cp] := by rw [hwd]; exact Blk.new _ _ _
      clear hwd hsv
      generalize wc.heap.size = Tp at *
      refine (HD.out wd).mono ?_
      rintro e we ⟨Aq, Cq, rfl, hNT⟩
      have hs := hs.trans hNT.2.2 (fun _ _ h => h)
      have hop := Own.frm hop hNT.2.2 (fun _ _ => id)
      have hBp := hBp.frm hNT.2.2 id
      have hoq := hNT.1
      clear hNT
      have hcp0 : we.cell? ⟨Tp, 0, none⟩ = some (.int .i64 rn) := hBp.cell 0
      have hcp1 : we.cell? ⟨Tp, 1, none⟩ = some (.slice Ap rws.length Cp) := hBp.cell 1
      have hlp := hBp.lt
      clear hBp
      go_wp2_with (fail)
      refine call_world fun wf hwf => ?_
      have hsv : Same we wf := by rw [hwf]; exact (Frm.refl _ _).alloc _
      have hop := Own.frm hop hsv (fun _ _ => id)
      have hoq := Own.frm hoq hsv (fun _ _ => id)
      have hs := hs.trans hsv (fun _ _ h => h)
      clear hwf hsv hcp0 hcp1 hlp
      refine (alike_any rn Ap rws.length Cp rws re rn Aq rws.length Cq rws re wf (hop.sl ucell_len) (hoq.sl ucell_len) hrl).mono ?_
      rintro e wg ⟨rfl, hsv⟩
      rw [sm_self, beq_self_eq_true, Bool.and_true]
      have hs := hs.trans hsv (fun _ _ h => h)
      clear hop hoq hsv
      go_wp2
      go_roundw
      case rel => exact ⟨2, by omega, rfl, hs0.trans hs (fun _ _ h => h)⟩
      case measure => simp [intOf]
    · rw [show ((2 : Nat) : Int) = 2 from rfl]
      have hP := fun w => Var_any n v w
      have hD := fun w => docVar_any n v w
      have hrl := varE_len (N := n) (v := v) (F := varF v.toNat)
      unfold RetA at hP hD
      generalize ansN n (varE n v) = rn at hP hD
      generalize ansL (tab n.toNat (varF v.toNat)) (varE n v) = rws at hP hD hrl
      generalize varE n v = re at hP hD
      have HP := Lib.hid hP
      have HD := Lib.hid hD
      clear hP hD
      go_wp2_with (fail)
      refine (HP.out wr).mono ?_
      rintro e wc ⟨Ap, Cp, rfl, hNT⟩
      have hs := hNT.2.2
      have hop := hNT.1
      clear hNT
      go_wp2_with (fail)
      refine call_world fun wd hwd => ?_
      have hsv : Same wc wd := by rw [hwd]; exact (Frm.refl _ _).alloc _
      have hop := Own.frm hop hsv (fun _ _ => id)
      have hs := hs.trans hsv (fun _ _ h => h)
      have hBp : Blk wd wc.heap.size 24 #[.int .i64 rn, .slice Ap rws.length Cp] := by rw [hwd]; exact Blk.new _ _ _
      clear hwd hsv
      generalize wc.heap.size = Tp at *
      refine (HD.out wd).mono ?_
      rintro e we ⟨Aq, Cq, rfl, hNT⟩
      have hs := hs.trans hNT.2.2 (fun _ _ h => h)
      have hop := Own.frm hop hNT.2.2 (fun _ _ => id)
      have hBp := hBp.frm hNT.2.2 id
      have hoq := hNT.1
      clear hNT
      have hcp0 : we.cell? ⟨Tp, 0, none⟩ = some (.int .i64 rn) := hBp.cell 0
      have hcp1 : we.cell? ⟨Tp, 1, none⟩ = some (.slice Ap rws.length Cp) := hBp.cell 1
      have hlp := hBp.lt
      clear hBp
      go_wp2_with (fail)
      refine call_world fun wf hwf => ?_
      have hsv : Same we wf := by rw [hwf]; exact (Frm.refl _ _).alloc _
      have hop := Own.frm hop hsv (fun _ _ => id)
      have hoq := Own.frm hoq hsv (fun _ _ => id)
      have hs := hs.trans hsv (fun _ _ h => h)
      clear hwf hsv hcp0 hcp1 hlp
      refine (alike_any rn Ap rws.length Cp rws re rn Aq rws.length Cq rws re wf (hop.sl ucell_len) (hoq.sl ucell_len) hrl).mono ?_
      rintro e wg ⟨rfl, hsv⟩
      rw [sm_self, beq_self_eq_true, Bool.and_true]
      have hs := hs.trans hsv (fun _ _ h => h)
      clear hop hoq hsv
      go_wp2
      go_ret
      exact ⟨rfl, (HS1.out.trans hs (fun _ _ h => h)).to_below (Nat.le_refl _) (fun _ _ => id)⟩
end Go.Proofs.Ytlggmoghgoeiiaa


/- Truth tables: Ite of the program. -/
namespace Go.Proofs.Ytlggmoghgoeiiaa
open Go.RowKit Go.Tk

def iteN (x y z : Nat) : Nat := (x &&& y) ||| (notN x &&& z)
theorem iteN_lt {x y z : Nat} (hx : x < 18446744073709551616) : iteN x y z < 18446744073709551616 :=
  Nat.or_lt_two_pow (n := 64) (Nat.lt_of_le_of_lt Nat.and_le_left hx) (Nat.lt_of_le_of_lt Nat.and_le_left (notN_lt x))
theorem iteN_bit {x y z j : Nat} (hx : x < 18446744073709551616) (hj : j < 64) : (iteN x y z).testBit j = if x.testBit j then y.testBit j else z.testBit j := by
  unfold iteN
  rw [Nat.testBit_or, Nat.testBit_and, Nat.testBit_and, notN_bit hx hj]
  cases x.testBit j <;> simp
def iteF (wsa wsb wsc : List Nat) : Nat → Bool := fun i => if vb wsa i then vb wsb i else vb wsc i
theorem fm_three {Na Nb Nc : Int} {Aa Ab Ac : Option Addr} {Ca Cb Cc : Nat} {wsa wsb wsc : List Nat} (h : fm [⟨Na, Aa, Ca, wsa⟩, ⟨Nb, Ab, Cb, wsb⟩, ⟨Nc, Ac, Cc, wsc⟩] = true) : ∃ n : Nat, Na = n ∧ Nb = n ∧ Nc = n ∧ FormN n wsa ∧ FormN n wsb ∧ FormN n wsc := by
  simp [fm, Tb.frm] at h
  obtain ⟨h1, ⟨h2, h3⟩, h4, h5⟩ := h
  obtain ⟨n, rfl, ha⟩ := frm_true h1
  rw [h3] at h2
  rw [h5] at h4
  exact ⟨n, rfl, h3, h5, ha, frm_nat.1 h2, frm_nat.1 h4⟩
set_option maxRecDepth 100000 in
set_option maxHeartbeats 2000000 in
theorem ite1_any (i Ba Bb Bc : Nat) (w : World) (Aa : Option Addr) (Ca : Nat) (wsa : List Nat) (hia : i < wsa.length) (ha : WL w Aa wsa.length wsa) (hba : Small wsa) (hca1 : w.cell? ⟨Ba, 1, none⟩ = some (.slice Aa wsa.length Ca)) (Ab : Option Addr) (Cb : Nat) (wsb : List Nat) (hib : i < wsb.length) (hb : WL w Ab wsb.length wsb) (hbb : Small wsb) (hcb1 : w.cell? ⟨Bb, 1, none⟩ = some (.slice Ab wsb.length Cb)) (Ac : Option Addr) (Cc : Nat) (wsc : List Nat) (hic : i < wsc.length) (hc : WL w Ac wsc.length wsc) (hbc : Small wsc) (hcc1 : w.cell? ⟨Bc, 1, none⟩ = some (.slice Ac wsc.length Cc)) :
    Calls Try.prog 72 #[.int .i64 i, .pointer (some ⟨Ba, 0, none⟩), .pointer (some ⟨Bb, 0, none⟩), .pointer (some ⟨Bc, 0, none⟩)] w fun e w' => e = .returned (.int .u64 (iteN (wsa.getD i 0) (wsb.getD i 0) (wsc.getD i 0) : Nat)) ∧ Same w w' := by
  obtain ⟨x, hxa⟩ : ∃ x, wsa[i]? = some x := ⟨_, List.getElem?_eq_getElem hia⟩
  obtain ⟨ba, offa, rfl, hbla, hca⟩ := ha.at1 hxa
  have hbx := hba.at1 hxa
  have hi1a : (i : Int) < wsa.length := by omega
  have hlBa : Ba < w.heap.size := World.block_lt_of_cell? w _ hca1
  rw [show wsa.getD i 0 = x by rw [List.getD_eq_getElem?_getD, hxa]; rfl]
  obtain ⟨y, hxb⟩ : ∃ x, wsb[i]? = some x := ⟨_, List.getElem?_eq_getElem hib⟩
  obtain ⟨bb, offb, rfl, hblb, hcb⟩ := hb.at1 hxb
  have hby := hbb.at1 hxb
  have hi1b : (i : Int) < wsb.length := by omega
  have hlBb : Bb < w.heap.size := World.block_lt_of_cell? w _ hcb1
  rw [show wsb.getD i 0 = y by rw [List.getD_eq_getElem?_getD, hxb]; rfl]
  obtain ⟨z, hxc⟩ : ∃ x, wsc[i]? = some x := ⟨_, List.getElem?_eq_getElem hic⟩
  obtain ⟨bc, offc, rfl, hblc, hcc⟩ := hc.at1 hxc
  have hbz := hbc.at1 hxc
  have hi1c : (i : Int) < wsc.length := by omega
  have hlBc : Bc < w.heap.size := World.block_lt_of_cell? w _ hcc1
  rw [show wsc.getD i 0 = z by rw [List.getD_eq_getElem?_getD, hxc]; rfl]
  have hi0 : (0 : Int) ≤ i := by omega
  have hxorx := xor_not hbx
  have hsg : ¬ IntKind.u64.signed = true := by decide
  have hlx := notN_lt x
  have ha1 := u64_and_nat x y hbx hby
  have ha2 := u64_and_nat (notN x) z hlx hbz
  have ho := u64_or_nat (x &&& y) (notN x &&& z) (Nat.lt_of_le_of_lt Nat.and_le_left hbx) (Nat.lt_of_le_of_lt Nat.and_le_left hlx)
  rw [show (x &&& y) ||| (notN x &&& z) = iteN x y z from rfl] at ho
  generalize iteN x y z = v at ho ⊢
  generalize notN x &&& z = q2 at *
  generalize x &&& y = q1 at *
  generalize notN x = nx at *
  clear hxa hxb hxc
  go_enter Try.func72, Try.ntmps72
  go_upto_region 1 with fail
  refine wp_quiet (by kernel_rfl) (by kernel_rfl) ?_
  repeat (any_goals (first | go_big_quiet_step (fail) | quiet_step (fail)))
  refine wpQuiet_nil ?_
  rintro wz ⟨q, hq⟩
  have hsz : Same w wz := by rw [hq]; exact more_same _ q
  clear hq hca hcb hcc hca1 hcb1 hcc1 hbla hblb hblc
  go_wp2
  go_ret
  exact ⟨rfl, hsz⟩
set_option maxHeartbeats 4000000 in
theorem Ite_any (Na : Int) (Aa : Option Addr) (Ca : Nat) (wsa : List Nat) (Nb : Int) (Ab : Option Addr) (Cb : Nat) (wsb : List Nat) (Nc : Int) (Ac : Option Addr) (Cc : Nat) (wsc : List Nat) (w : World) (ha : TbOk w ⟨Na, Aa, Ca, wsa⟩) (hb : TbOk w ⟨Nb, Ab, Cb, wsb⟩) (hc : TbOk w ⟨Nc, Ac, Cc, wsc⟩) :
    Calls Try.prog 33 #[.agg #[.int .i64 Na, .slice Aa wsa.length Ca], .agg #[.int .i64 Nb, .slice Ab wsb.length Cb], .agg #[.int .i64 Nc, .slice Ac wsc.length Cc]] w (RetA w Na (tab Na.toNat (iteF wsa wsb wsc)) (fmE (fm [⟨Na, Aa, Ca, wsa⟩, ⟨Nb, Ab, Cb, wsb⟩, ⟨Nc, Ac, Cc, wsc⟩]))) := by
  have hmf : ∀ (fn : Fn) (first cap : Array Value) (w : World), (Instr.makeFunc fn first cap).run Try.prog w = .ok (.func fn first cap) w := fun _ _ _ _ => rfl
  have Ha := Lib.hid ha
  have Hb := Lib.hid hb
  have Hc := Lib.hid hc
  clear ha hb hc
  cases hfr : fm [⟨Na, Aa, Ca, wsa⟩, ⟨Nb, Ab, Cb, wsb⟩, ⟨Nc, Ac, Cc, wsc⟩] with
  | false =>
    unfold RetA
    rw [show fmE false = 5 from rfl, show ansN Na 5 = 0 from rfl, show ansL (tab Na.toNat (iteF wsa wsb wsc)) 5 = [] from rfl]
    have HFM := Lib.hid hfr
    clear hfr hmf
    go_enter Try.func33, Try.ntmps33
    go_upto_region 1 with fail
    refine wp_world fun w1 hw1 => ?_
    have hs1 : Same w w1 := by rw [hw1]; exact ((((Frm.refl _ _).alloc _).alloc _).alloc _).alloc _
    have hBXa : Blk w1 (w.heap.size) 24 #[.int .i64 Na, .slice Aa wsa.length Ca] := by
      rw [hw1]
      have := ((((Blk.new w 24 #[.int .i64 Na, .slice Aa wsa.length Ca]).alloc (.cells #[.int .i64 Nb, .slice Ab wsb.length Cb] 24)).alloc (.cells #[.int .i64 Nc, .slice Ac wsc.length Cc] 24)).alloc (.cells #[.int .i64 0, .slice none 0 0] 24))
      simpa using this
    have hBXb : Blk w1 (w.heap.size + 1) 24 #[.int .i64 Nb, .slice Ab wsb.length Cb] := by
      rw [hw1]
      have := (((Blk.new (w.alloc (.cells #[.int .i64 Na, .slice Aa wsa.length Ca] 24)) 24 #[.int .i64 Nb, .slice Ab wsb.length Cb]).alloc (.cells #[.int .i64 Nc, .slice Ac wsc.length Cc] 24)).alloc (.cells #[.int .i64 0, .slice none 0 0] 24))
      simpa using this
    have hBXc : Blk w1 (w.heap.size + 1 + 1) 24 #[.int .i64 Nc, .slice Ac wsc.length Cc] := by
      rw [hw1]
      have := ((Blk.new ((w.alloc (.cells #[.int .i64 Na, .slice Aa wsa.length Ca] 24)).alloc (.cells #[.int .i64 Nb, .slice Ab wsb.length Cb] 24)) 24 #[.int .i64 Nc, .slice Ac wsc.length Cc]).alloc (.cells #[.int .i64 0, .slice none 0 0] 24))
      simpa using this
    have hBR : Blk w1 (w.heap.size + 1 + 1 + 1) 24 #[.int .i64 0, .slice none 0 0] := by
      rw [hw1]
      have := (Blk.new (((w.alloc (.cells #[.int .i64 Na, .slice Aa wsa.length Ca] 24)).alloc (.cells #[.int .i64 Nb, .slice Ab wsb.length Cb] 24)).alloc (.cells #[.int .i64 Nc, .slice Ac wsc.length Cc] 24)) 24 #[.int .i64 0, .slice none 0 0])
      simpa using this
    clear hw1
    obtain ⟨R, hR⟩ : ∃ b, w.heap.size + 1 + 1 + 1 = b := ⟨_, rfl⟩
    rw [hR] at hBR ⊢
    obtain ⟨Xc, hXc⟩ : ∃ b, w.heap.size + 1 + 1 = b := ⟨_, rfl⟩
    rw [hXc] at hBXc ⊢
    obtain ⟨Xb, hXb⟩ : ∃ b, w.heap.size + 1 = b := ⟨_, rfl⟩
    rw [hXb] at hBXb ⊢
    have leXb : w.heap.size ≤ Xb := by omega
    have leXc : w.heap.size ≤ Xc := by omega
    have leR : w.heap.size ≤ R := by omega
    have neXaXb : w.heap.size ≠ Xb := by omega
    have neXaXc : w.heap.size ≠ Xc := by omega
    have neXaR : w.heap.size ≠ R := by omega
    have neXbXc : Xb ≠ Xc := by omega
    have neXbR : Xb ≠ R := by omega
    have neXcR : Xc ≠ R := by omega
    clear hXb hXc hR
    have cXa0 : w1.cell? ⟨w.heap.size, 0, none⟩ = some (.int .i64 Na) := hBXa.cell 0
    have cXa1 : w1.cell? ⟨w.heap.size, 1, none⟩ = some (.slice Aa wsa.length Ca) := hBXa.cell 1
    have lXa := hBXa.lt
    have fXa0 := hBXa.free 0
    have fXa1 := hBXa.free 1
    have HBXa := Lib.hid hBXa
    have cXb0 : w1.cell? ⟨Xb, 0, none⟩ = some (.int .i64 Nb) := hBXb.cell 0
    have cXb1 : w1.cell? ⟨Xb, 1, none⟩ = some (.slice Ab wsb.length Cb) := hBXb.cell 1
    have lXb := hBXb.lt
    have fXb0 := hBXb.free 0
    have fXb1 := hBXb.free 1
    have HBXb := Lib.hid hBXb
    have cXc0 : w1.cell? ⟨Xc, 0, none⟩ = some (.int .i64 Nc) := hBXc.cell 0
    have cXc1 : w1.cell? ⟨Xc, 1, none⟩ = some (.slice Ac wsc.length Cc) := hBXc.cell 1
    have lXc := hBXc.lt
    have fXc0 := hBXc.free 0
    have fXc1 := hBXc.free 1
    have HBXc := Lib.hid hBXc
    have cR0 : w1.cell? ⟨R, 0, none⟩ = some (.int .i64 0) := hBR.cell 0
    have cR1 : w1.cell? ⟨R, 1, none⟩ = some (.slice none 0 0) := hBR.cell 1
    have lR := hBR.lt
    have fR0 := hBR.free 0
    have fR1 := hBR.free 1
    have HBR := Lib.hid hBR
    have HS1 := Lib.hid hs1
    clear hs1 hBXa hBXb hBXc hBR
    have HOKa := Lib.hid (Ha.out.same HS1.out)
    have HOKb := Lib.hid (Hb.out.same HS1.out)
    have HOKc := Lib.hid (Hc.out.same HS1.out)
    go_wp2_with (fail)
    refine call_world fun w2 hw2 => ?_
    have hs2 : Same w1 w2 := by rw [hw2]; exact (Frm.refl _ _).alloc _
    have hBL : Blk w2 w1.heap.size 24 #[.int .i64 Na, .slice Aa wsa.length Ca, .int .i64 Nb, .slice Ab wsb.length Cb, .int .i64 Nc, .slice Ac wsc.length Cc] := by rw [hw2]; exact Blk.new _ _ _
    have htbs : Tbs w2 w1.heap.size [⟨Na, Aa, Ca, wsa⟩, ⟨Nb, Ab, Cb, wsb⟩, ⟨Nc, Ac, Cc, wsc⟩] := by
      intro i t hi
      match i, hi with
      | 0, hi =>
        simp only [List.getElem?_cons_zero, Option.some.injEq] at hi
        subst hi
        exact ⟨hBL.lt, hBL.cell 0, hBL.cell 1⟩
      | 1, hi =>
        simp only [List.getElem?_cons_zero, List.getElem?_cons_succ, Option.some.injEq] at hi
        subst hi
        exact ⟨hBL.lt, hBL.cell 2, hBL.cell 3⟩
      | 2, hi =>
        simp only [List.getElem?_cons_zero, List.getElem?_cons_succ, Option.some.injEq] at hi
        subst hi
        exact ⟨hBL.lt, hBL.cell 4, hBL.cell 5⟩
      | i + 3, hi => simp at hi
    have hfc := form_any w1.heap.size 3 3 [⟨Na, Aa, Ca, wsa⟩, ⟨Nb, Ab, Cb, wsb⟩, ⟨Nc, Ac, Cc, wsc⟩] w2 rfl (by decide) htbs (fun t ht => by
      simp only [List.mem_cons, List.not_mem_nil, or_false] at ht
      rcases ht with rfl | rfl | rfl
      · exact (HOKa.out).same hs2
      · exact (HOKb.out).same hs2
      · exact (HOKc.out).same hs2)
    rw [HFM.out] at hfc
    refine hfc.mono ?_
    clear hfc htbs hBL hw2
    rintro e w3 ⟨rfl, hs3⟩
    have hs13 : Same w1 w3 := hs2.trans hs3 (fun _ _ h => h)
    clear hs2 hs3
    replace HBXa := Lib.hid (HBXa.out.frm hs13 id)
    replace cXa0 : w3.cell? ⟨w.heap.size, 0, none⟩ = some (.int .i64 Na) := HBXa.out.cell 0
    replace cXa1 : w3.cell? ⟨w.heap.size, 1, none⟩ = some (.slice Aa wsa.length Ca) := HBXa.out.cell 1
    replace lXa := HBXa.out.lt
    replace fXa0 := HBXa.out.free 0
    replace fXa1 := HBXa.out.free 1
    replace HBXb := Lib.hid (HBXb.out.frm hs13 id)
    replace cXb0 : w3.cell? ⟨Xb, 0, none⟩ = some (.int .i64 Nb) := HBXb.out.cell 0
    replace cXb1 : w3.cell? ⟨Xb, 1, none⟩ = some (.slice Ab wsb.length Cb) := HBXb.out.cell 1
    replace lXb := HBXb.out.lt
    replace fXb0 := HBXb.out.free 0
    replace fXb1 := HBXb.out.free 1
    replace HBXc := Lib.hid (HBXc.out.frm hs13 id)
    replace cXc0 : w3.cell? ⟨Xc, 0, none⟩ = some (.int .i64 Nc) := HBXc.out.cell 0
    replace cXc1 : w3.cell? ⟨Xc, 1, none⟩ = some (.slice Ac wsc.length Cc) := HBXc.out.cell 1
    replace lXc := HBXc.out.lt
    replace fXc0 := HBXc.out.free 0
    replace fXc1 := HBXc.out.free 1
    replace HBR := Lib.hid (HBR.out.frm hs13 id)
    replace cR0 : w3.cell? ⟨R, 0, none⟩ = some (.int .i64 0) := HBR.out.cell 0
    replace cR1 : w3.cell? ⟨R, 1, none⟩ = some (.slice none 0 0) := HBR.out.cell 1
    replace lR := HBR.out.lt
    replace fR0 := HBR.out.free 0
    replace fR1 := HBR.out.free 1
    replace HS1 := Lib.hid (HS1.out.trans hs13 (fun _ _ h => h))
    clear hs13
    go_wp2
    refine wp_post fun we hwe => ?_
    have hBE : Blk we R 24 #[.int .i64 0, .slice none 0 0] := by
      rw [hwe]
      have := (HBR.out.set 0 (.int .i64 0)).set 1 (.slice none 0 0)
      simpa using this
    have hSE : Same w we := by rw [hwe]; exact (HS1.out.setNew 0 _ leR).setNew 1 _ leR
    have hr0 : we.cell? ⟨R, 0, none⟩ = some (.int .i64 0) := hBE.cell 0
    have hr1 : we.cell? ⟨R, 1, none⟩ = some (.slice none 0 0) := hBE.cell 1
    clear hwe hBE
    refine bodyPost_ret (v := .tuple #[.agg #[.int .i64 0, .slice none 0 0], .int .i64 5]) (by simp [results, Try.results33, go_sem, hr0, hr1]) rfl ?_
    exact ⟨none, 0, rfl, NewT.nil hSE⟩
  | true =>
    obtain ⟨n, rfl, rfl, rfl, hfa, hfb, hfc⟩ := fm_three hfr
    unfold RetA
    rw [show fmE true = 0 from rfl, show ansN n 0 = n from rfl, show ansL (tab (n : Int).toNat (iteF wsa wsb wsc)) 0 = tab n (iteF wsa wsb wsc) from rfl]
    have HFM := Lib.hid hfr
    have hn := hfa.n16
    have hsa := Ha.out.small
    have hsb := Hb.out.small
    have hsc := Hc.out.small
    have HTB := Lib.hid (laid_tab (n := n) (g := (fun i => iteN (wsa.getD i 0) (wsb.getD i 0) (wsc.getD i 0))) (F := iteF wsa wsb wsc) fun k hk j hj _ => by
      obtain ⟨x, hx⟩ : ∃ x, wsa[k]? = some x := ⟨_, List.getElem?_eq_getElem (by rw [hfa.len]; exact hk)⟩
      obtain ⟨y, hy⟩ : ∃ y, wsb[k]? = some y := ⟨_, List.getElem?_eq_getElem (by rw [hfb.len]; exact hk)⟩
      obtain ⟨z, hz⟩ : ∃ z, wsc[k]? = some z := ⟨_, List.getElem?_eq_getElem (by rw [hfc.len]; exact hk)⟩
      rw [getD_of hx, getD_of hy, getD_of hz, iteN_bit (hsa.at1 hx) hj]
      unfold iteF
      rw [vb_word hx hj, vb_word hy hj, vb_word hz hj])
    have HLa := Lib.hid hfa.len
    have HLb := Lib.hid hfb.len
    have HLc := Lib.hid hfc.len
    have HSa := Lib.hid hsa
    have HSb := Lib.hid hsb
    have HSc := Lib.hid hsc
    clear hfr hfa hfb hfc hsa hsb hsc
    have hen : ∀ (args : Array Value) (w : World), (callFunc 72 args).run Try.prog w = .ok (.enter 72 args) w := enters_of Try.func72 (by kernel_rfl) rfl
    have HEN := Lib.hid hen
    clear hen
    go_enter Try.func33, Try.ntmps33
    go_upto_region 1 with fail
    refine wp_world fun w1 hw1 => ?_
    have hs1 : Same w w1 := by rw [hw1]; exact ((((Frm.refl _ _).alloc _).alloc _).alloc _).alloc _
    have hBXa : Blk w1 (w.heap.size) 24 #[.int .i64 n, .slice Aa wsa.length Ca] := by
      rw [hw1]
      have := ((((Blk.new w 24 #[.int .i64 n, .slice Aa wsa.length Ca]).alloc (.cells #[.int .i64 n, .slice Ab wsb.length Cb] 24)).alloc (.cells #[.int .i64 n, .slice Ac wsc.length Cc] 24)).alloc (.cells #[.int .i64 0, .slice none 0 0] 24))
      simpa using this
    have hBXb : Blk w1 (w.heap.size + 1) 24 #[.int .i64 n, .slice Ab wsb.length Cb] := by
      rw [hw1]
      have := (((Blk.new (w.alloc (.cells #[.int .i64 n, .slice Aa wsa.length Ca] 24)) 24 #[.int .i64 n, .slice Ab wsb.length Cb]).alloc (.cells #[.int .i64 n, .slice Ac wsc.length Cc] 24)).alloc (.cells #[.int .i64 0, .slice none 0 0] 24))
      simpa using this
    have hBXc : Blk w1 (w.heap.size + 1 + 1) 24 #[.int .i64 n, .slice Ac wsc.length Cc] := by
      rw [hw1]
      have := ((Blk.new ((w.alloc (.cells #[.int .i64 n, .slice Aa wsa.length Ca] 24)).alloc (.cells #[.int .i64 n, .slice Ab wsb.length Cb] 24)) 24 #[.int .i64 n, .slice Ac wsc.length Cc]).alloc (.cells #[.int .i64 0, .slice none 0 0] 24))
      simpa using this
    have hBR : Blk w1 (w.heap.size + 1 + 1 + 1) 24 #[.int .i64 0, .slice none 0 0] := by
      rw [hw1]
      have := (Blk.new (((w.alloc (.cells #[.int .i64 n, .slice Aa wsa.length Ca] 24)).alloc (.cells #[.int .i64 n, .slice Ab wsb.length Cb] 24)).alloc (.cells #[.int .i64 n, .slice Ac wsc.length Cc] 24)) 24 #[.int .i64 0, .slice none 0 0])
      simpa using this
    clear hw1
    obtain ⟨R, hR⟩ : ∃ b, w.heap.size + 1 + 1 + 1 = b := ⟨_, rfl⟩
    rw [hR] at hBR ⊢
    obtain ⟨Xc, hXc⟩ : ∃ b, w.heap.size + 1 + 1 = b := ⟨_, rfl⟩
    rw [hXc] at hBXc ⊢
    obtain ⟨Xb, hXb⟩ : ∃ b, w.heap.size + 1 = b := ⟨_, rfl⟩
    rw [hXb] at hBXb ⊢
    have leXb : w.heap.size ≤ Xb := by omega
    have leXc : w.heap.size ≤ Xc := by omega
    have leR : w.heap.size ≤ R := by omega
    have neXaXb : w.heap.size ≠ Xb := by omega
    have neXaXc : w.heap.size ≠ Xc := by omega
    have neXaR : w.heap.size ≠ R := by omega
    have neXbXc : Xb ≠ Xc := by omega
    have neXbR : Xb ≠ R := by omega
    have neXcR : Xc ≠ R := by omega
    clear hXb hXc hR
    have cXa0 : w1.cell? ⟨w.heap.size, 0, none⟩ = some (.int .i64 n) := hBXa.cell 0
    have cXa1 : w1.cell? ⟨w.heap.size, 1, none⟩ = some (.slice Aa wsa.length Ca) := hBXa.cell 1
    have lXa := hBXa.lt
    have fXa0 := hBXa.free 0
    have fXa1 := hBXa.free 1
    have HBXa := Lib.hid hBXa
    have cXb0 : w1.cell? ⟨Xb, 0, none⟩ = some (.int .i64 n) := hBXb.cell 0
    have cXb1 : w1.cell? ⟨Xb, 1, none⟩ = some (.slice Ab wsb.length Cb) := hBXb.cell 1
    have lXb := hBXb.lt
    have fXb0 := hBXb.free 0
    have fXb1 := hBXb.free 1
    have HBXb := Lib.hid hBXb
    have cXc0 : w1.cell? ⟨Xc, 0, none⟩ = some (.int .i64 n) := hBXc.cell 0
    have cXc1 : w1.cell? ⟨Xc, 1, none⟩ = some (.slice Ac wsc.length Cc) := hBXc.cell 1
    have lXc := hBXc.lt
    have fXc0 := hBXc.free 0
    have fXc1 := hBXc.free 1
    have HBXc := Lib.hid hBXc
    have cR0 : w1.cell? ⟨R, 0, none⟩ = some (.int .i64 0) := hBR.cell 0
    have cR1 : w1.cell? ⟨R, 1, none⟩ = some (.slice none 0 0) := hBR.cell 1
    have lR := hBR.lt
    have fR0 := hBR.free 0
    have fR1 := hBR.free 1
    have HBR := Lib.hid hBR
    have HS1 := Lib.hid hs1
    clear hs1 hBXa hBXb hBXc hBR
    have HOKa := Lib.hid (Ha.out.same HS1.out)
    have HOKb := Lib.hid (Hb.out.same HS1.out)
    have HOKc := Lib.hid (Hc.out.same HS1.out)
    go_wp2_with (fail)
    refine call_world fun w2 hw2 => ?_
    have hs2 : Same w1 w2 := by rw [hw2]; exact (Frm.refl _ _).alloc _
    have hBL : Blk w2 w1.heap.size 24 #[.int .i64 n, .slice Aa wsa.length Ca, .int .i64 n, .slice Ab wsb.length Cb, .int .i64 n, .slice Ac wsc.length Cc] := by rw [hw2]; exact Blk.new _ _ _
    have htbs : Tbs w2 w1.heap.size [⟨n, Aa, Ca, wsa⟩, ⟨n, Ab, Cb, wsb⟩, ⟨n, Ac, Cc, wsc⟩] := by
      intro i t hi
      match i, hi with
      | 0, hi =>
        simp only [List.getElem?_cons_zero, Option.some.injEq] at hi
        subst hi
        exact ⟨hBL.lt, hBL.cell 0, hBL.cell 1⟩
      | 1, hi =>
        simp only [List.getElem?_cons_zero, List.getElem?_cons_succ, Option.some.injEq] at hi
        subst hi
        exact ⟨hBL.lt, hBL.cell 2, hBL.cell 3⟩
      | 2, hi =>
        simp only [List.getElem?_cons_zero, List.getElem?_cons_succ, Option.some.injEq] at hi
        subst hi
        exact ⟨hBL.lt, hBL.cell 4, hBL.cell 5⟩
      | i + 3, hi => simp at hi
    have hfc := form_any w1.heap.size 3 3 [⟨n, Aa, Ca, wsa⟩, ⟨n, Ab, Cb, wsb⟩, ⟨n, Ac, Cc, wsc⟩] w2 rfl (by decide) htbs (fun t ht => by
      simp only [List.mem_cons, List.not_mem_nil, or_false] at ht
      rcases ht with rfl | rfl | rfl
      · exact (HOKa.out).same hs2
      · exact (HOKb.out).same hs2
      · exact (HOKc.out).same hs2)
    rw [HFM.out] at hfc
    refine hfc.mono ?_
    clear hfc htbs hBL hw2
    rintro e w3 ⟨rfl, hs3⟩
    have hs13 : Same w1 w3 := hs2.trans hs3 (fun _ _ h => h)
    clear hs2 hs3
    replace HBXa := Lib.hid (HBXa.out.frm hs13 id)
    replace cXa0 : w3.cell? ⟨w.heap.size, 0, none⟩ = some (.int .i64 n) := HBXa.out.cell 0
    replace cXa1 : w3.cell? ⟨w.heap.size, 1, none⟩ = some (.slice Aa wsa.length Ca) := HBXa.out.cell 1
    replace lXa := HBXa.out.lt
    replace fXa0 := HBXa.out.free 0
    replace fXa1 := HBXa.out.free 1
    replace HBXb := Lib.hid (HBXb.out.frm hs13 id)
    replace cXb0 : w3.cell? ⟨Xb, 0, none⟩ = some (.int .i64 n) := HBXb.out.cell 0
    replace cXb1 : w3.cell? ⟨Xb, 1, none⟩ = some (.slice Ab wsb.length Cb) := HBXb.out.cell 1
    replace lXb := HBXb.out.lt
    replace fXb0 := HBXb.out.free 0
    replace fXb1 := HBXb.out.free 1
    replace HBXc := Lib.hid (HBXc.out.frm hs13 id)
    replace cXc0 : w3.cell? ⟨Xc, 0, none⟩ = some (.int .i64 n) := HBXc.out.cell 0
    replace cXc1 : w3.cell? ⟨Xc, 1, none⟩ = some (.slice Ac wsc.length Cc) := HBXc.out.cell 1
    replace lXc := HBXc.out.lt
    replace fXc0 := HBXc.out.free 0
    replace fXc1 := HBXc.out.free 1
    replace HBR := Lib.hid (HBR.out.frm hs13 id)
    replace cR0 : w3.cell? ⟨R, 0, none⟩ = some (.int .i64 0) := HBR.out.cell 0
    replace cR1 : w3.cell? ⟨R, 1, none⟩ = some (.slice none 0 0) := HBR.out.cell 1
    replace lR := HBR.out.lt
    replace fR0 := HBR.out.free 0
    replace fR1 := HBR.out.free 1
    replace HS1 := Lib.hid (HS1.out.trans hs13 (fun _ _ h => h))
    clear hs13
    have htl : Tells w3 n 72 #[.pointer (some ⟨w.heap.size, 0, none⟩), .pointer (some ⟨Xb, 0, none⟩), .pointer (some ⟨Xc, 0, none⟩)] (fun i => iteN (wsa.getD i 0) (wsb.getD i 0) (wsc.getD i 0)) := fun i hi => ⟨iteN_lt (by have hil : i < wsa.length := (by rw [HLa.out]; exact hi); rw [List.getD_eq_getElem?_getD, List.getElem?_eq_getElem hil]; exact HSa.out _ (List.getElem_mem hil)), fun w' hs' => by
      refine (ite1_any i w.heap.size Xb Xc w' Aa Ca wsa (by rw [HLa.out]; exact hi) (Sl.same (Sl.same Ha.out.wl HS1.out) hs') HSa.out ((hs'.cell (p := ⟨w.heap.size, 1, none⟩) lXa id).trans cXa1) Ab Cb wsb (by rw [HLb.out]; exact hi) (Sl.same (Sl.same Hb.out.wl HS1.out) hs') HSb.out ((hs'.cell (p := ⟨Xb, 1, none⟩) lXb id).trans cXb1) Ac Cc wsc (by rw [HLc.out]; exact hi) (Sl.same (Sl.same Hc.out.wl HS1.out) hs') HSc.out ((hs'.cell (p := ⟨Xc, 1, none⟩) lXc id).trans cXc1)).mono ?_
      exact fun e w'' h => h⟩
    have HTL := Lib.hid htl
    clear htl
    go_wp2_with (fail)
    refine (laid_any n 72 #[.pointer (some ⟨w.heap.size, 0, none⟩), .pointer (some ⟨Xb, 0, none⟩), .pointer (some ⟨Xc, 0, none⟩)] (fun i => iteN (wsa.getD i 0) (wsb.getD i 0) (wsc.getD i 0)) w3 hn HEN.out HTL.out).mono ?_
    rintro e w4 ⟨Aq, Cq, rfl, hNT⟩
    rw [HTB.out] at hNT ⊢
    have hoq := hNT.1
    have hfq := hNT.2.1
    have hsq := hNT.2.2
    have hRq : ∀ a, Aq = some a → a.block ≠ R := fun a ha h => by
      have := hfq a.block ⟨a, ha, rfl⟩
      omega
    have HBRq := Lib.hid (HBR.out.frm hsq id)
    have HSq := Lib.hid (HS1.out.trans hsq (fun _ _ h => h))
    have hfq' : Fresh w.heap.size Aq := fun b hb => by have := hfq b hb; have := HS1.out.size; omega
    have HOQ := Lib.hid hoq
    have HFQ := Lib.hid hfq'
    have hcR0 : w4.cell? ⟨R, 0, none⟩ = some (.int .i64 0) := HBRq.out.cell 0
    have hcR1 : w4.cell? ⟨R, 1, none⟩ = some (.slice none 0 0) := HBRq.out.cell 1
    have hfR0 := HBRq.out.free 0
    have hfR1 := HBRq.out.free 1
    have hlR := HBRq.out.lt
    clear hNT hoq hfq hsq hfq'
    go_wp2
    refine wp_post fun we hwe => ?_
    have hBE : Blk we R 24 #[.int .i64 n, .slice Aq (tab n (iteF wsa wsb wsc)).length Cq] := by
      rw [hwe]
      have := (HBRq.out.set 0 (.int .i64 n)).set 1 (.slice Aq (tab n (iteF wsa wsb wsc)).length Cq)
      simpa using this
    have hSE : Same w we := by rw [hwe]; exact (HSq.out.setNew 0 _ leR).setNew 1 _ leR
    have hOE : OwnW we Aq (tab n (iteF wsa wsb wsc)).length Cq (tab n (iteF wsa wsb wsc)) := by
      rw [hwe]
      exact (Own.far (p := ⟨R, 0, none⟩) HOQ.out hRq _).far (p := ⟨R, 1, none⟩) hRq _
    have hr0 : we.cell? ⟨R, 0, none⟩ = some (.int .i64 n) := hBE.cell 0
    have hr1 : we.cell? ⟨R, 1, none⟩ = some (.slice Aq (tab n (iteF wsa wsb wsc)).length Cq) := hBE.cell 1
    clear hwe hBE
    refine bodyPost_ret (v := .tuple #[.agg #[.int .i64 n, .slice Aq (tab n (iteF wsa wsb wsc)).length Cq], .int .i64 0]) (by simp [results, Try.results33, go_sem, hr0, hr1]) rfl ?_
    exact ⟨Aq, Cq, rfl, hOE, HFQ.out, hSE⟩
end Go.Proofs.Ytlggmoghgoeiiaa
