/- Contracts and plain laws, put together in one file. No condition. -/
import Derived.Test.YtakepdkokjecoaaJShapePairs2
import Derived.Laws.IdiomStrings
import Derived.Maps.RangeWalk
import Derived.Test.YtakepdkokjecoaaProg
import Derived.KernelRfl
import Derived.BigRegion


/- Shape: the document's Form, Same. -/
namespace Go.Proofs.Ytakepdkokjecoaa
open Go.RowKit Go.Tk

theorem shr_zero (x p : Nat) : ((x : Int) / 2 ^ p == 0) = decide (x < 2 ^ p) := by
  have h : ((x : Int) / 2 ^ p) = ((x / 2 ^ p : Nat) : Int) := by rw [Int.natCast_ediv, Int.natCast_pow]; rfl
  rw [h, Bool.eq_iff_iff]
  have h2 : 0 < 2 ^ p := Nat.pow_pos (by omega)
  simp only [beq_iff_eq, decide_eq_true_eq]
  rw [show ((0 : Int)) = ((0 : Nat) : Int) from rfl, Int.natCast_inj, Nat.div_eq_zero_iff]
  omega
set_option maxHeartbeats 1000000 in
theorem sform_any (N : Int) (A : Option Addr) (m C : Nat) (ws : List Nat) (w : World) (h : WL w A m ws) (hb : Small ws) :
    Calls Try.prog 44 #[.agg #[.int .i64 N, .slice A m C]] w fun e w' => e = .returned (.bool (frm N ws)) ∧ Same w w' := by
  obtain rfl := h.len
  have H := Lib.hid h
  clear h
  obtain ⟨r, hr⟩ : ∃ r, frm N ws = r := ⟨_, rfl⟩
  rw [hr]
  by_cases h0 : N < 0
  · have hf : r = false := by rw [← hr]; exact frm_false (.inl h0)
    subst hf
    clear hr
    go_enter Try.func44, Try.ntmps44
    go_upto_region 1 with fail
    refine wp_quiet (by kernel_rfl) (by kernel_rfl) ?_
    repeat (any_goals (first | go_big_quiet_step (fail) | quiet_step (fail)))
    refine wpQuiet_nil ?_
    rintro _ ⟨q, rfl⟩
    go_wp2
    go_ret
    exact ⟨rfl, ((Frm.refl _ _).alloc _).trans (more_same _ q) (fun _ _ h => h)⟩
  by_cases h1 : N > 16
  · have hf : r = false := by rw [← hr]; exact frm_false (.inr (.inl (by omega)))
    subst hf
    clear hr
    go_enter Try.func44, Try.ntmps44
    go_upto_region 1 with fail
    refine wp_quiet (by kernel_rfl) (by kernel_rfl) ?_
    repeat (any_goals (first | go_big_quiet_step (fail) | quiet_step (fail)))
    refine wpQuiet_nil ?_
    rintro _ ⟨q, rfl⟩
    go_wp2
    go_ret
    exact ⟨rfl, ((Frm.refl _ _).alloc _).trans (more_same _ q) (fun _ _ h => h)⟩
  obtain ⟨n, rfl⟩ : ∃ n : Nat, N = n := ⟨N.toNat, by omega⟩
  have hN : n ≤ 16 := by omega
  by_cases hl : ws.length = nw n
  · have hnp := nw_pos n
    have hnl := nw_le hN
    have hWd := fun w => swords_any n w hN
    obtain ⟨x, hx⟩ : ∃ x, ws[0]? = some x := ⟨_, List.getElem?_eq_getElem (by omega)⟩
    have hxb := hb.at1 hx
    have hr2 : (decide (6 ≤ (n : Int)) || decide (x < 2 ^ 2 ^ n)) = r := by
      rw [← hr]
      unfold frm
      rw [show ws.getD 0 0 = x by rw [List.getD_eq_getElem?_getD, hx]; rfl, Int.toNat_natCast]
      have e1 : decide ((0 : Int) ≤ n ∧ (n : Int) ≤ 16 ∧ ws.length = nw n) = true := by simp [hl] <;> omega
      rw [e1, Bool.true_and]
    obtain ⟨k, hk⟩ : ∃ k, nw n = k := ⟨_, rfl⟩
    rw [hk] at hl hnp hnl hWd
    obtain ⟨b, off, rfl, hbl, hc⟩ := H.out.at1 hx
    have hidx2 : (0 : Int) < k := by omega
    have HWD := Lib.hid hWd
    have HR2 := Lib.hid hr2
    have HH := Lib.hid hl
    clear hr hk hx hWd hr2
    rw [hl]
    clear hl
    by_cases h6 : 6 ≤ n
    · have hf : r = true := by rw [← HR2.out]; simp <;> omega
      subst hf
      have h6' : (n : Int) ≥ 6 := by omega
      go_enter Try.func44, Try.ntmps44
      go_upto_region 1 with fail
      refine wp_quiet (by kernel_rfl) (by kernel_rfl) ?_
      repeat (any_goals (first | go_big_quiet_step ((go_at_call 35; exact quiet_call ((HWD.out _).mono fun e w' h => ⟨h.1, h.2 ▸ Frm.refl _ _⟩))) | quiet_step ((go_at_call 35; exact quiet_call ((HWD.out _).mono fun e w' h => ⟨h.1, h.2 ▸ Frm.refl _ _⟩)))))
      refine wpQuiet_nil ?_
      rintro wz ⟨q, hq⟩
      have hsz : Same w wz := by rw [hq]; exact ((Frm.refl _ _).alloc _).trans (more_same _ q) (fun _ _ h => h)
      have hB := (Blk.new w 37 #[.int .i64 n, .slice (some ⟨b, off, none⟩) k C]).frm (more_same _ q) id
      rw [← hq] at hB
      have hc0 : wz.cell? ⟨w.heap.size, 0, none⟩ = some (.int .i64 n) := hB.cell 0
      have hc1 : wz.cell? ⟨w.heap.size, 1, none⟩ = some (.slice (some ⟨b, off, none⟩) k C) := hB.cell 1
      have hcl := hB.lt
      have hcz : wz.cell? ⟨b, off, none⟩ = some (.int .u64 x) := (hsz.cell (p := ⟨b, off, none⟩) hbl id).trans hc
      have hbz : b < wz.heap.size := by have := hsz.size; omega
      have HSZ := Lib.hid hsz
      clear hq hc hbl hB hsz
      go_upto_region 3 with fail
      refine wp_quiet (by kernel_rfl) (by kernel_rfl) ?_
      repeat (any_goals (first | go_big_quiet_step (fail) | quiet_step (fail)))
      refine wpQuiet_nil ?_
      rintro _ ⟨q2, rfl⟩
      go_wp2
      go_ret
      exact ⟨rfl, HSZ.out.trans (more_same _ q2) (fun _ _ h => h)⟩
    · have hpn : 2 ^ n ≤ 2 ^ 5 := Nat.pow_le_pow_right (by omega) (by omega)
      have hf : decide (x < 2 ^ 2 ^ n) = r := by rw [← HR2.out, show decide (6 ≤ (n : Int)) = false by simp <;> omega]; rfl
      have h6' : ¬ (n : Int) ≥ 6 := by omega
      have hpp : 2 ^ 2 ^ n ≤ 2 ^ 32 := Nat.pow_le_pow_right (by omega) hpn
      have h3 : (2 : Int) ^ n = ((2 ^ n : Nat) : Int) := pow_int n
      have hn0 : (0 : Int) ≤ n := by omega
      have hm : min n 64 = n := by omega
      generalize 2 ^ n = p at *
      have hm2 : min p 64 = p := by omega
      have hq : ((x : Int) / 2 ^ p == 0) = r := by rw [← hf]; exact shr_zero x p
      have hu3 : IntKind.u64.wrap ((2 : Int) ^ n) = (p : Int) := by rw [h3]; exact IntWalk.u64_in _ (by omega)
      clear HR2 hf h3 hpp hpn
      go_enter Try.func44, Try.ntmps44
      go_upto_region 1 with fail
      refine wp_quiet (by kernel_rfl) (by kernel_rfl) ?_
      repeat (any_goals (first | go_big_quiet_step ((go_at_call 35; exact quiet_call ((HWD.out _).mono fun e w' h => ⟨h.1, h.2 ▸ Frm.refl _ _⟩))) | quiet_step ((go_at_call 35; exact quiet_call ((HWD.out _).mono fun e w' h => ⟨h.1, h.2 ▸ Frm.refl _ _⟩)))))
      refine wpQuiet_nil ?_
      rintro wz ⟨q, hq⟩
      have hsz : Same w wz := by rw [hq]; exact ((Frm.refl _ _).alloc _).trans (more_same _ q) (fun _ _ h => h)
      have hB := (Blk.new w 37 #[.int .i64 n, .slice (some ⟨b, off, none⟩) k C]).frm (more_same _ q) id
      rw [← hq] at hB
      have hc0 : wz.cell? ⟨w.heap.size, 0, none⟩ = some (.int .i64 n) := hB.cell 0
      have hc1 : wz.cell? ⟨w.heap.size, 1, none⟩ = some (.slice (some ⟨b, off, none⟩) k C) := hB.cell 1
      have hcl := hB.lt
      have hcz : wz.cell? ⟨b, off, none⟩ = some (.int .u64 x) := (hsz.cell (p := ⟨b, off, none⟩) hbl id).trans hc
      have hbz : b < wz.heap.size := by have := hsz.size; omega
      have HSZ := Lib.hid hsz
      clear hq hc hbl hB hsz
      go_upto_region 3 with fail
      refine wp_quiet (by kernel_rfl) (by kernel_rfl) ?_
      repeat (any_goals (first | go_big_quiet_step (fail) | quiet_step (fail)))
      refine wpQuiet_nil ?_
      rintro _ ⟨q2, rfl⟩
      go_wp2
      go_ret
      exact ⟨rfl, HSZ.out.trans (more_same _ q2) (fun _ _ h => h)⟩
  · have hf : r = false := by rw [← hr]; exact frm_false (.inr (.inr hl))
    subst hf
    have hl' : ((ws.length : Int) != ((nw n : Nat) : Int)) = true := by simp <;> omega
    clear hr
    go_enter Try.func44, Try.ntmps44
    go_upto_region 1 with fail
    refine wp_quiet (by kernel_rfl) (by kernel_rfl) ?_
    repeat (any_goals (first | go_big_quiet_step ((go_at_call 35; exact quiet_call ((swords_any _ _ hN).mono fun e w' h => ⟨h.1, h.2 ▸ Frm.refl _ _⟩))) | quiet_step ((go_at_call 35; exact quiet_call ((swords_any _ _ hN).mono fun e w' h => ⟨h.1, h.2 ▸ Frm.refl _ _⟩)))))
    refine wpQuiet_nil ?_
    rintro _ ⟨q, rfl⟩
    go_wp2
    go_ret
    exact ⟨rfl, ((Frm.refl _ _).alloc _).trans (more_same _ q) (fun _ _ h => h)⟩
set_option maxRecDepth 100000 in
set_option maxHeartbeats 4000000 in
theorem tsame_any (Na : Int) (Aa : Option Addr) (La Ca : Nat) (wsa : List Nat) (Nb : Int) (Ab : Option Addr) (Lb Cb : Nat) (wsb : List Nat) (w : World) (ha : WL w Aa La wsa) (hb : WL w Ab Lb wsb) (hbd : La ≤ 1000000000000000000) :
    Calls Try.prog 49 #[.agg #[.int .i64 Na, .slice Aa La Ca], .agg #[.int .i64 Nb, .slice Ab Lb Cb]] w fun e w' => e = .returned (.bool (sm Na Nb wsa wsb)) ∧ Same w w' := by
  have hla := ha.len
  have hlb := hb.len
  obtain ⟨r, hr⟩ : ∃ r, sm Na Nb wsa wsb = r := ⟨_, rfl⟩
  rw [hr]
  have HA := Lib.hid ha
  have HB := Lib.hid hb
  by_cases h1 : Na = Nb
  · by_cases h2 : La = Lb
    · subst h1 h2
      have HR := Lib.hid hr
      have HLA := Lib.hid hla
      have HLB := Lib.hid hlb
      clear hr hla hlb ha hb
      go_enter Try.func49, Try.ntmps49
      go_upto_region 1 with fail
      refine wp_world fun w1 hw1 => ?_
      have hs1 : Same w w1 := by rw [hw1]; exact ((Frm.refl _ _).alloc _).alloc _
      have hBXa : Blk w1 (w.heap.size) 37 #[.int .i64 Na, .slice Aa La Ca] := by
        rw [hw1]
        have := ((Blk.new w 37 #[.int .i64 Na, .slice Aa La Ca]).alloc (.cells #[.int .i64 Na, .slice Ab La Cb] 37))
        simpa using this
      have hBXb : Blk w1 (w.heap.size + 1) 37 #[.int .i64 Na, .slice Ab La Cb] := by
        rw [hw1]
        have := (Blk.new (w.alloc (.cells #[.int .i64 Na, .slice Aa La Ca] 37)) 37 #[.int .i64 Na, .slice Ab La Cb])
        simpa using this
      clear hw1
      obtain ⟨Xb, hXb⟩ : ∃ b, w.heap.size + 1 = b := ⟨_, rfl⟩
      rw [hXb] at hBXb ⊢
      have leXb : w.heap.size ≤ Xb := by omega
      have neXaXb : w.heap.size ≠ Xb := by omega
      clear hXb
      have cXa0 : w1.cell? ⟨w.heap.size, 0, none⟩ = some (.int .i64 Na) := hBXa.cell 0
      have cXa1 : w1.cell? ⟨w.heap.size, 1, none⟩ = some (.slice Aa La Ca) := hBXa.cell 1
      have lXa := hBXa.lt
      have fXa0 := hBXa.free 0
      have fXa1 := hBXa.free 1
      have HBXa := Lib.hid hBXa
      have cXb0 : w1.cell? ⟨Xb, 0, none⟩ = some (.int .i64 Na) := hBXb.cell 0
      have cXb1 : w1.cell? ⟨Xb, 1, none⟩ = some (.slice Ab La Cb) := hBXb.cell 1
      have lXb := hBXb.lt
      have fXb0 := hBXb.free 0
      have fXb1 := hBXb.free 1
      have HBXb := Lib.hid hBXb
      have HS1 := Lib.hid hs1
      clear hs1 hBXa hBXb
      have HS := Lib.hid HS1.out
      have HBa := Lib.hid HBXa.out
      have HBb := Lib.hid HBXb.out
      go_wp2
      go_loopw [5] (fun i wr => ∃ k : Nat, k ≤ La ∧ i = .int .i64 k ∧ (∀ j x y, wsa[j]? = some x → wsb[j]? = some y → j < k → x = y) ∧ Same w1 wr) (fun i _ => La - (intOf i).toNat)
      case atStart => exact ⟨0, by omega, rfl, fun j x y _ _ h => by omega, Frm.refl _ _⟩
      case round =>
        obtain ⟨k, hk, rfl, hall, hs⟩ := hrel
        have HALL := Lib.hid hall
        have HSR := Lib.hid hs
        clear hall
        by_cases hlt : k < La
        · have hk0 : (0 : Int) ≤ k := by omega
          have hk1 : (k : Int) < La := by omega
          obtain ⟨x, hx⟩ : ∃ x, wsa[k]? = some x := ⟨_, List.getElem?_eq_getElem (by rw [← HLA.out]; exact hlt)⟩
          obtain ⟨y, hy⟩ : ∃ x, wsb[k]? = some x := ⟨_, List.getElem?_eq_getElem (by rw [← HLB.out]; exact hlt)⟩
          obtain ⟨ba, offa, hAa, hbla, hca⟩ := WL.at1 (Sl.same (Sl.same HA.out HS.out) hs) hx
          obtain ⟨bb, offb, hAb, hblb, hcb⟩ := WL.at1 (Sl.same (Sl.same HB.out HS.out) hs) hy
          subst hAa hAb
          have HX := Lib.hid hx
          have HY := Lib.hid hy
          have dXa1 : wr.cell? ⟨w.heap.size, 1, none⟩ = some (.slice (some ⟨ba, offa, none⟩) La Ca) := (HBa.out.frm hs id).cell 1
          have dXb1 : wr.cell? ⟨Xb, 1, none⟩ = some (.slice (some ⟨bb, offb, none⟩) La Cb) := (HBb.out.frm hs id).cell 1
          have mXa := (HBa.out.frm hs id).lt
          have mXb := (HBb.out.frm hs id).lt
          clear hx hy hs cXa1 cXb1 lXa lXb
          by_cases hxy : x = y
          · subst hxy
            have hbq : ((x : Int) != (x : Int)) = false := by simp
            go_upto_region 6 with fail
            refine wp_quiet (by kernel_rfl) (by kernel_rfl) ?_
            repeat (any_goals (first | go_big_quiet_step (fail) | quiet_step (fail)))
            refine wpQuiet_nil ?_
            rintro wq ⟨q, hq⟩
            have hsq : Same wr wq := by rw [hq]; exact more_same _ q
            clear hq
            go_wp2
            go_roundw
            case rel => exact ⟨k + 1, by omega, by go_num, fun j x' y' hx' hy' hj => by
              by_cases hjk : j < k
              · exact HALL.out j x' y' hx' hy' hjk
              · obtain rfl : j = k := by omega
                exact (Option.some.inj (hx'.symm.trans HX.out)).trans (Option.some.inj (hy'.symm.trans HY.out)).symm, HSR.out.trans hsq (fun _ _ h => h)⟩
            case measure => simp [intOf] <;> omega
          · have hf : r = false := by
              rw [← HR.out]
              unfold sm
              rw [decide_eq_false_iff_not]
              rintro ⟨_, hw⟩
              rw [hw] at HX
              exact hxy (Option.some.inj (HX.out.symm.trans HY.out))
            subst hf
            have hxi : (x : Int) ≠ y := by omega
            go_upto_region 6 with fail
            refine wp_quiet (by kernel_rfl) (by kernel_rfl) ?_
            repeat (any_goals (first | go_big_quiet_step (fail) | quiet_step (fail)))
            refine wpQuiet_nil ?_
            rintro wq ⟨q, hq⟩
            have hsq : Same wr wq := by rw [hq]; exact more_same _ q
            clear hq
            go_wp2
            go_ret
            exact ⟨rfl, (HS.out.trans HSR.out (fun _ _ h => h)).trans hsq (fun _ _ h => h)⟩
        · obtain rfl : k = La := by omega
          have hf : r = true := by
            rw [← HR.out]
            unfold sm
            rw [decide_eq_true_eq]
            refine ⟨rfl, List.ext_getElem? fun j => ?_⟩
            by_cases hj : j < k
            · obtain ⟨x, hx⟩ : ∃ x, wsa[j]? = some x := ⟨_, List.getElem?_eq_getElem (by rw [← HLA.out]; exact hj)⟩
              obtain ⟨y, hy⟩ : ∃ x, wsb[j]? = some x := ⟨_, List.getElem?_eq_getElem (by rw [← HLB.out]; exact hj)⟩
              rw [hx, hy, HALL.out j x y hx hy hj]
            · rw [List.getElem?_eq_none (by rw [← HLA.out]; omega), List.getElem?_eq_none (by rw [← HLB.out]; omega)]
          subst hf
          have dXa1 : wr.cell? ⟨w.heap.size, 1, none⟩ = some (.slice Aa k Ca) := (HBa.out.frm hs id).cell 1
          have mXa := (HBa.out.frm hs id).lt
          clear hs cXa1 cXb1 lXa lXb
          go_wp2
          go_ret
          exact ⟨rfl, HS.out.trans HSR.out (fun _ _ h => h)⟩
    · have hf : r = false := by
        rw [← hr]
        unfold sm
        rw [decide_eq_false_iff_not]
        rintro ⟨_, hw⟩
        rw [hw] at hla
        omega
      subst h1 hf
      have h3 : (La : Int) ≠ Lb := by omega
      clear hr hla hlb ha hb
      go_enter Try.func49, Try.ntmps49
      go_upto_region 1 with fail
      refine wp_world fun w1 hw1 => ?_
      have hs1 : Same w w1 := by rw [hw1]; exact ((Frm.refl _ _).alloc _).alloc _
      have hBXa : Blk w1 (w.heap.size) 37 #[.int .i64 Na, .slice Aa La Ca] := by
        rw [hw1]
        have := ((Blk.new w 37 #[.int .i64 Na, .slice Aa La Ca]).alloc (.cells #[.int .i64 Na, .slice Ab Lb Cb] 37))
        simpa using this
      have hBXb : Blk w1 (w.heap.size + 1) 37 #[.int .i64 Na, .slice Ab Lb Cb] := by
        rw [hw1]
        have := (Blk.new (w.alloc (.cells #[.int .i64 Na, .slice Aa La Ca] 37)) 37 #[.int .i64 Na, .slice Ab Lb Cb])
        simpa using this
      clear hw1
      obtain ⟨Xb, hXb⟩ : ∃ b, w.heap.size + 1 = b := ⟨_, rfl⟩
      rw [hXb] at hBXb ⊢
      have leXb : w.heap.size ≤ Xb := by omega
      have neXaXb : w.heap.size ≠ Xb := by omega
      clear hXb
      have cXa0 : w1.cell? ⟨w.heap.size, 0, none⟩ = some (.int .i64 Na) := hBXa.cell 0
      have cXa1 : w1.cell? ⟨w.heap.size, 1, none⟩ = some (.slice Aa La Ca) := hBXa.cell 1
      have lXa := hBXa.lt
      have fXa0 := hBXa.free 0
      have fXa1 := hBXa.free 1
      have HBXa := Lib.hid hBXa
      have cXb0 : w1.cell? ⟨Xb, 0, none⟩ = some (.int .i64 Na) := hBXb.cell 0
      have cXb1 : w1.cell? ⟨Xb, 1, none⟩ = some (.slice Ab Lb Cb) := hBXb.cell 1
      have lXb := hBXb.lt
      have fXb0 := hBXb.free 0
      have fXb1 := hBXb.free 1
      have HBXb := Lib.hid hBXb
      have HS1 := Lib.hid hs1
      clear hs1 hBXa hBXb
      go_wp2
      go_ret
      exact ⟨rfl, HS1.out⟩
  · have hf : r = false := by
      rw [← hr]
      unfold sm
      rw [decide_eq_false_iff_not]
      exact fun h => h1 h.1
    subst hf
    clear hr hla hlb ha hb
    go_enter Try.func49, Try.ntmps49
    go_upto_region 1 with fail
    refine wp_world fun w1 hw1 => ?_
    have hs1 : Same w w1 := by rw [hw1]; exact ((Frm.refl _ _).alloc _).alloc _
    have hBXa : Blk w1 (w.heap.size) 37 #[.int .i64 Na, .slice Aa La Ca] := by
      rw [hw1]
      have := ((Blk.new w 37 #[.int .i64 Na, .slice Aa La Ca]).alloc (.cells #[.int .i64 Nb, .slice Ab Lb Cb] 37))
      simpa using this
    have hBXb : Blk w1 (w.heap.size + 1) 37 #[.int .i64 Nb, .slice Ab Lb Cb] := by
      rw [hw1]
      have := (Blk.new (w.alloc (.cells #[.int .i64 Na, .slice Aa La Ca] 37)) 37 #[.int .i64 Nb, .slice Ab Lb Cb])
      simpa using this
    clear hw1
    obtain ⟨Xb, hXb⟩ : ∃ b, w.heap.size + 1 = b := ⟨_, rfl⟩
    rw [hXb] at hBXb ⊢
    have leXb : w.heap.size ≤ Xb := by omega
    have neXaXb : w.heap.size ≠ Xb := by omega
    clear hXb
    have cXa0 : w1.cell? ⟨w.heap.size, 0, none⟩ = some (.int .i64 Na) := hBXa.cell 0
    have cXa1 : w1.cell? ⟨w.heap.size, 1, none⟩ = some (.slice Aa La Ca) := hBXa.cell 1
    have lXa := hBXa.lt
    have fXa0 := hBXa.free 0
    have fXa1 := hBXa.free 1
    have HBXa := Lib.hid hBXa
    have cXb0 : w1.cell? ⟨Xb, 0, none⟩ = some (.int .i64 Nb) := hBXb.cell 0
    have cXb1 : w1.cell? ⟨Xb, 1, none⟩ = some (.slice Ab Lb Cb) := hBXb.cell 1
    have lXb := hBXb.lt
    have fXb0 := hBXb.free 0
    have fXb1 := hBXb.free 1
    have HBXb := Lib.hid hBXb
    have HS1 := Lib.hid hs1
    clear hs1 hBXa hBXb
    go_wp2
    go_ret
    exact ⟨rfl, HS1.out⟩
end Go.Proofs.Ytakepdkokjecoaa


/- Shape: the document's Depends, Support. -/
namespace Go.Proofs.Ytakepdkokjecoaa
open Go.RowKit Go.Tk

set_option maxRecDepth 100000 in
set_option maxHeartbeats 4000000 in
theorem depends5_any (n v : Nat) (Aa : Option Addr) (Ca : Nat) (wsa : List Nat) (w : World) (h : TbOk w ⟨n, Aa, Ca, wsa⟩) (hf : FormN n wsa) (hv : v < n) :
    Calls Try.prog 45 #[.agg #[.int .i64 n, .slice Aa wsa.length Ca], .int .i64 v] w fun e w' => e = .returned (.bool (depB n wsa v)) ∧ Same w w' := by
  have hn := hf.n16
  have H := Lib.hid h
  have HF := Lib.hid hf
  have HV := Lib.hid hv
  obtain ⟨d, hd⟩ : ∃ z, z = depB n wsa v := ⟨_, rfl⟩
  rw [← hd]
  have HD := Lib.hid (show (!decide (tab n (hfF v false wsa) = tab n (hfF v true wsa))) = d from hd.symm)
  clear h hf hd
  go_enter Try.func45, Try.ntmps45
  go_upto_region 1 with fail
  refine wp_world fun w1 hw1 => ?_
  have hs1 : Same w w1 := by rw [hw1]; exact (Frm.refl _ _).alloc _
  have hBXT : Blk w1 (w.heap.size) 37 #[.int .i64 n, .slice Aa wsa.length Ca] := by
    rw [hw1]
    have := (Blk.new w 37 #[.int .i64 n, .slice Aa wsa.length Ca])
    simpa using this
  clear hw1
  have cXT0 : w1.cell? ⟨w.heap.size, 0, none⟩ = some (.int .i64 n) := hBXT.cell 0
  have cXT1 : w1.cell? ⟨w.heap.size, 1, none⟩ = some (.slice Aa wsa.length Ca) := hBXT.cell 1
  have lXT := hBXT.lt
  have fXT0 := hBXT.free 0
  have fXT1 := hBXT.free 1
  have HBXT := Lib.hid hBXT
  have HS1 := Lib.hid hs1
  clear hs1 hBXT
  refine wp_phS (fun _ => False) [([0, 1, 3, 4], 2), ([], 5), ([], 6), ([7], 8)] (by kernel_rfl) (by kernel_rfl) ?_
  simp only [wpPh, pick, List.map_cons, List.map_nil, List.getD_cons_zero, List.getD_cons_succ]
  have hs : Same w1 w1.drew := (Frm.refl _ _).drew
  repeat (any_goals (first | go_big_quiet_step (fail) | quiet_step (fail)))
  refine wpQuiet_nil ?_
  refine effStep_plain rfl fun K hK => ?_
  go_simp
  refine (cof5_any n v false Aa Ca wsa _ (H.out.same (HS1.out.trans hs (fun _ _ h => h))) HF.out HV.out).mono ?_
  rintro e u ⟨A0, C0, rfl, hNT⟩
  have hs := hs.trans hNT.2.2 (fun _ _ h => h)
  have ho0 := hNT.1
  refine hK _ _ (Lat.mk_ (Frm.mono hs (fun _ _ h => h.elim))) ?_
  clear hK K hNT
  refine wpQuiet_nil ?_
  refine effStep_plain rfl fun K hK => ?_
  go_simp
  refine (cof5_any n v true Aa Ca wsa _ (H.out.same (HS1.out.trans hs (fun _ _ h => h))) HF.out HV.out).mono ?_
  rintro e u ⟨A1, C1, rfl, hNT⟩
  have hs := hs.trans hNT.2.2 (fun _ _ h => h)
  have ho0 := Own.frm ho0 hNT.2.2 (fun _ _ => id)
  have ho1 := hNT.1
  refine hK _ _ (Lat.mk_ (Frm.mono hs (fun _ _ h => h.elim))) ?_
  clear hK K hNT
  refine wpQuiet_nil ?_
  refine effStep_plain rfl fun K hK => ?_
  go_simp
  refine (tsame_any n A0 _ C0 _ n A1 _ C1 _ _ (ho0.sl ucell_len) (ho1.sl ucell_len) (by rw [tab_len]; have := nw_le hn; omega)).mono ?_
  rintro e u ⟨rfl, hsz⟩
  have hs := hs.trans hsz (fun _ _ h => h)
  refine hK _ _ (Lat.mk_ (Frm.mono hs (fun _ _ h => h.elim))) ?_
  have hdd := HD.out
  rw [show sm (n : Int) n (tab n (hfF v false wsa)) (tab n (hfF v true wsa)) = decide (tab n (hfF v false wsa) = tab n (hfF v true wsa)) by unfold sm; simp]
  generalize decide (tab n (hfF v false wsa) = tab n (hfF v true wsa)) = dd at *
  subst hdd
  have HSN := Lib.hid (HS1.out.trans hs (fun _ _ h => h))
  clear hK K hsz ho0 ho1 hs HD
  repeat (any_goals (first | go_big_quiet_step (fail) | quiet_step (fail)))
  refine wpQuiet_nil ?_
  go_wp2
  go_ret
  exact ⟨rfl, HSN.out⟩
set_option maxRecDepth 100000 in
set_option maxHeartbeats 4000000 in
theorem support5_any (n : Nat) (Aa : Option Addr) (Ca : Nat) (wsa : List Nat) (w : World) (h : TbOk w ⟨n, Aa, Ca, wsa⟩) (hf : FormN n wsa) :
    Calls Try.prog 34 #[.agg #[.int .i64 n, .slice Aa wsa.length Ca]] w fun e w' => e = .returned (.int .u64 (supN n wsa : Nat)) ∧ Same w w' := by
  have hn := hf.n16
  have H := Lib.hid h
  have HF := Lib.hid hf
  have hsu : supN n wsa = bsum (depB n wsa) n := by unfold supN; rw [if_pos (frm_nat.2 hf), Int.toNat_natCast]
  rw [hsu]
  obtain ⟨pf, hpf⟩ : ∃ p, bsum (depB n wsa) n = p := ⟨_, rfl⟩
  rw [hpf]
  have HPF := Lib.hid hpf
  clear h hf hsu hpf
  go_enter Try.func34, Try.ntmps34
  go_upto_region 1 with fail
  refine wp_world fun w1 hw1 => ?_
  have hs1 : Same w w1 := by rw [hw1]; exact (Frm.refl _ _).alloc _
  have hBXT : Blk w1 (w.heap.size) 37 #[.int .i64 n, .slice Aa wsa.length Ca] := by
    rw [hw1]
    have := (Blk.new w 37 #[.int .i64 n, .slice Aa wsa.length Ca])
    simpa using this
  clear hw1
  have cXT0 : w1.cell? ⟨w.heap.size, 0, none⟩ = some (.int .i64 n) := hBXT.cell 0
  have cXT1 : w1.cell? ⟨w.heap.size, 1, none⟩ = some (.slice Aa wsa.length Ca) := hBXT.cell 1
  have lXT := hBXT.lt
  have fXT0 := hBXT.free 0
  have fXT1 := hBXT.free 1
  have HBXT := Lib.hid hBXT
  have HS1 := Lib.hid hs1
  clear hs1 hBXT
  go_wp2
  go_loopw [3, 4] (fun s i wr => ∃ k : Nat, k ≤ n ∧ i = .int .i64 k ∧ s = .int .u64 (bsum (depB n wsa) k : Nat) ∧ Same w1 wr) (fun _ i _ => n - (intOf i).toNat)
  case atStart => exact ⟨0, by omega, rfl, rfl, Frm.refl _ _⟩
  case round =>
    obtain ⟨k, hk, rfl, rfl, hs⟩ := hrel
    have HBr := Lib.hid (HBXT.out.frm hs id)
    have HSr := Lib.hid (HS1.out.trans hs (fun _ _ h => h))
    have HS0 := Lib.hid hs
    have dX0 : wr.cell? ⟨w.heap.size, 0, none⟩ = some (.int .i64 n) := HBr.out.cell 0
    have dX1 : wr.cell? ⟨w.heap.size, 1, none⟩ = some (.slice Aa wsa.length Ca) := HBr.out.cell 1
    have dXl := HBr.out.lt
    clear cXT0 cXT1 fXT0 fXT1 lXT hs
    by_cases hlt : k < n
    · have hk1 : (k : Int) < n := by omega
      have hk0 : (0 : Int) ≤ k := by omega
      have hbl := bsum_lt (depB n wsa) k
      have hpk : 2 ^ k ≤ 2 ^ 15 := Nat.pow_le_pow_right (by omega) (by omega)
      have HST := Lib.hid (bsum_add (depB n wsa) k)
      have hsw : IntKind.u64.wrap ((2 : Int) ^ k) = ((2 ^ k : Nat) : Int) := by
        rw [pow_int]
        generalize 2 ^ k = p at hpk
        exact IntWalk.u64_in _ (by omega)
      have hmk : min k 64 = k := by omega
      have HDC := Lib.hid (depends5_any n k Aa Ca wsa wr (H.out.same HSr.out) HF.out hlt)
      obtain ⟨p, hp⟩ : ∃ z, z = 2 ^ k := ⟨_, rfl⟩
      rw [← hp] at hsw hpk hbl HST
      clear hp
      obtain ⟨bs, hbs⟩ : ∃ z, z = bsum (depB n wsa) k := ⟨_, rfl⟩
      rw [← hbs] at hbl HST ⊢
      clear hbs
      have hsum : IntKind.u64.wrap ((bs : Int) + (p : Int)) = ((bs + p : Nat) : Int) := by rw [IntWalk.u64_in _ (by omega)]; simp
      go_wp2_with (fail)
      refine HDC.out.mono ?_
      rintro e wz ⟨rfl, hs⟩
      obtain ⟨d, hd⟩ : ∃ z, z = depB n wsa k := ⟨_, rfl⟩
      rw [← hd] at HST ⊢
      have HSN := Lib.hid (HS0.out.trans hs (fun _ _ h => h))
      clear hs hd dX0 dX1 dXl HDC
      cases d
      · rw [if_neg (by decide), Nat.add_zero] at HST
        go_wp2
        go_roundw
        case rel => exact ⟨k + 1, by omega, by go_num, by rw [← HST.out], HSN.out⟩
        case measure => simp [intOf] <;> omega
      · rw [if_pos rfl] at HST
        go_wp2
        go_roundw
        case rel => exact ⟨k + 1, by omega, by go_num, by rw [← HST.out, Int.natCast_add], HSN.out⟩
        case measure => simp [intOf] <;> omega
    · obtain rfl : k = n := by omega
      rw [HPF.out]
      go_wp2
      go_ret
      exact ⟨rfl, HSr.out⟩
end Go.Proofs.Ytakepdkokjecoaa


/- Shape: the key of a table. -/
namespace Go.Proofs.Ytakepdkokjecoaa
open Go.RowKit Go.Tk

def u8cell (x : UInt8) : List Value := [.int .u8 (x.toNat : Int)]
theorem u8cell_len (x : UInt8) : (u8cell x).length = 1 := rfl
theorem info_u8 : (Try.prog.info? 5).map (fun i => (i.zero, i.size, i.bytes)) = some (some (.int .u8 0), 1, 1) := by kernel_rfl
def byteAt (x i : Nat) : UInt8 := UInt8.ofNat (x / 2 ^ (8 * i))
def wbytes (x : Nat) : List UInt8 := (List.range 8).map (byteAt x)
def kbytes (ws : List Nat) : List UInt8 := ws.flatMap wbytes
def kstr (ws : List Nat) : ByteArray := ⟨(kbytes ws).toArray⟩
theorem byteAt_nat (x i : Nat) : (byteAt x i).toNat = x / 2 ^ (8 * i) % 256 := by simp [byteAt]
theorem byteAt_int (x i : Nat) : (x : Int) / 2 ^ (8 * i) % 256 = ((byteAt x i).toNat : Int) := by
  rw [byteAt_nat, Int.natCast_emod, Int.natCast_ediv, Int.natCast_pow]
  rfl
theorem wbytes_len (x : Nat) : (wbytes x).length = 8 := by simp [wbytes]
theorem wbytes_take (x : Nat) {j : Nat} (hj : j < 8) : (wbytes x).take (j + 1) = (wbytes x).take j ++ [byteAt x j] := by
  rw [List.take_add_one]
  simp [wbytes, hj]
theorem kbytes_len (ws : List Nat) : (kbytes ws).length = 8 * ws.length := by
  induction ws with
  | nil => rfl
  | cons x ws ih => rw [kbytes, List.flatMap_cons, List.length_append, wbytes_len]; rw [kbytes] at ih; rw [ih, List.length_cons]; omega
theorem kbytes_take {ws : List Nat} {k x : Nat} (h : ws[k]? = some x) : kbytes (ws.take (k + 1)) = kbytes (ws.take k) ++ wbytes x := by
  rw [List.take_add_one, h, kbytes, List.flatMap_append]
  simp [kbytes]
theorem byte_sum {x : Nat} (hx : x < 18446744073709551616) : x = x / 2 ^ (8 * 0) % 256 + 256 * (x / 2 ^ (8 * 1) % 256) + 65536 * (x / 2 ^ (8 * 2) % 256) + 16777216 * (x / 2 ^ (8 * 3) % 256) + 4294967296 * (x / 2 ^ (8 * 4) % 256) + 1099511627776 * (x / 2 ^ (8 * 5) % 256) + 281474976710656 * (x / 2 ^ (8 * 6) % 256) + 72057594037927936 * (x / 2 ^ (8 * 7) % 256) := by
  simp only [Nat.reduceMul, Nat.reducePow]
  omega
theorem wbytes_inj {x y : Nat} (hx : x < 18446744073709551616) (hy : y < 18446744073709551616) (h : wbytes x = wbytes y) : x = y := by
  have key : ∀ i, i < 8 → x / 2 ^ (8 * i) % 256 = y / 2 ^ (8 * i) % 256 := fun i hi => by
    have h1 := congrArg (fun l : List UInt8 => l[i]?) h
    simp only [wbytes, List.getElem?_map, List.getElem?_range hi, Option.map_some, Option.some.injEq] at h1
    rw [← byteAt_nat, ← byteAt_nat, h1]
  rw [byte_sum hx, byte_sum hy, key 0 (by omega), key 1 (by omega), key 2 (by omega), key 3 (by omega), key 4 (by omega), key 5 (by omega), key 6 (by omega), key 7 (by omega)]
theorem kbytes_inj : ∀ {xs ys : List Nat}, Small xs → Small ys → kbytes xs = kbytes ys → xs = ys
  | [], [], _, _, _ => rfl
  | [], y :: ys, _, _, h => by have := congrArg List.length h; rw [kbytes_len, kbytes_len] at this; simp at this
  | x :: xs, [], _, _, h => by have := congrArg List.length h; rw [kbytes_len, kbytes_len] at this; simp at this
  | x :: xs, y :: ys, hx, hy, h => by
    have h1 : wbytes x ++ kbytes xs = wbytes y ++ kbytes ys := h
    obtain ⟨h2, h3⟩ := List.append_inj h1 (by rw [wbytes_len, wbytes_len])
    rw [wbytes_inj (hx x List.mem_cons_self) (hy y List.mem_cons_self) h2, kbytes_inj (fun z hz => hx z (List.mem_cons_of_mem _ hz)) (fun z hz => hy z (List.mem_cons_of_mem _ hz)) h3]
theorem kstr_inj {xs ys : List Nat} (hx : Small xs) (hy : Small ys) (h : kstr xs = kstr ys) : xs = ys := by
  refine kbytes_inj hx hy ?_
  have := congrArg (fun b : ByteArray => b.data.toList) h
  simpa [kstr] using this
set_option maxRecDepth 100000 in
set_option maxHeartbeats 8000000 in
theorem key_any (N : Int) (A : Option Addr) (C : Nat) (ws : List Nat) (w : World) (h : TbOk w ⟨N, A, C, ws⟩) (h0 : 0 < ws.length) (h1 : ws.length ≤ 1024) :
    Calls Try.prog 39 #[.agg #[.int .i64 N, .slice A ws.length C]] w fun e w' => e = .returned (.string (kstr ws)) ∧ Same w w' := by
  have H := Lib.hid h
  clear h
  go_enter Try.func39, Try.ntmps39
  go_upto_region 1 with fail
  refine wp_world fun w1 hw1 => ?_
  have hs1 : Same w w1 := by rw [hw1]; exact (Frm.refl _ _).alloc _
  have hBX : Blk w1 w.heap.size 37 #[.int .i64 N, .slice A ws.length C] := by rw [hw1]; exact Blk.new _ _ _
  have hws : w.heap.size ≤ w.heap.size := Nat.le_refl _
  obtain ⟨X, hX⟩ : ∃ b, w.heap.size = b := ⟨_, rfl⟩
  rw [hX] at hBX ⊢
  have cX1 : w1.cell? ⟨X, 1, none⟩ = some (.slice A ws.length C) := hBX.cell 1
  have lX := hBX.lt
  have HS1 := Lib.hid hs1
  clear hw1 hX hs1 hBX hws
  go_wp2
  clear cX1 lX
  go_loopw [3, 10] (fun b i wi => ∃ (k : Nat) (B : Option Addr) (D : Nat), k ≤ ws.length ∧ i = .int .i64 k ∧ b = .slice B (8 * k) D ∧ Own wi 5 1 u8cell B (8 * k) D (kbytes (ws.take k)) ∧ Fresh w.heap.size B ∧ Same w wi) (fun _ i _ => ws.length - (intOf i).toNat)
  case atStart => exact ⟨0, none, 0, by omega, rfl, rfl, Own.nil _ _ _ _, fresh_none _, HS1.out⟩
  case round =>
    obtain ⟨k, B, D, hk, rfl, rfl, ho, hfB, hs⟩ := hrel
    clear HS1
    by_cases hlt : k < ws.length
    · obtain ⟨x, hx⟩ : ∃ x, ws[k]? = some x := ⟨_, List.getElem?_eq_getElem hlt⟩
      obtain ⟨bw, ow, hA, hbw, hc⟩ := WL.at1 (Sl.same H.out.wl hs) hx
      subst hA
      have hx64 := Small.at1 H.out.small hx
      have hk0 : (0 : Int) ≤ k := by omega
      have hk1 : (k : Int) < ws.length := by omega
      have HX := Lib.hid hx
      have HO := Lib.hid ho
      have HFB := Lib.hid hfB
      have HS := Lib.hid hs
      clear hx ho hfB hs
      go_wp2
      obtain ⟨wo, rfl⟩ : ∃ z, z = wr := ⟨_, rfl⟩
      clear hc hbw
      go_loopw [3, 14] (fun b i wi => ∃ (j : Nat) (B : Option Addr) (D : Nat), j ≤ 8 ∧ i = .int .i64 j ∧ b = .slice B (8 * k + j) D ∧ Own wi 5 1 u8cell B (8 * k + j) D (kbytes (ws.take k) ++ (wbytes x).take j) ∧ Fresh w.heap.size B ∧ Same w wi) (fun _ i _ => 8 - (intOf i).toNat)
      case atStart => exact ⟨0, B, D, by omega, rfl, rfl, by simpa using HO.out, HFB.out, HS.out⟩
      case round =>
        clear HO HFB HS
        obtain ⟨j, B, D, hj, rfl, rfl, ho, hfB, hs⟩ := hrel
        by_cases hlj : j < 8
        · have hj0 : (0 : Int) ≤ j := by omega
          have hj1 : (j : Int) < 8 := by omega
          have hwr : IntKind.i64.wrap (8 * (j : Int)) = 8 * (j : Int) := IntWalk.i64_in _ (by omega)
          have HO := Lib.hid ho
          have HFB := Lib.hid hfB
          have HS := Lib.hid hs
          clear ho hfB hs
          go_upto_region 8 with fail
          refine wp_region_lit ?_
          refine wpList_read 6 ?_
          simp only [List.take_succ_cons, List.take_zero, List.drop_succ_cons, List.drop_zero]
          repeat (any_goals (first | go_big_quiet_step (fail) | quiet_step (fail)))
          refine wpQuiet_nil ?_
          rw [byteAt_int x j]
          refine wpList_plain rfl fun K hK => ?_
          go_simp
          refine hK _ _ ?_
          clear hK K
          refine list_world fun wc hwc => ?_
          have hsc : Same wr wc := by rw [hwc]; exact (Frm.refl _ _).alloc _
          have hNc := Blk.new wr 5 #[.int .u8 ((byteAt x j).toNat : Int)]
          rw [← hwc] at hNc
          clear hwc
          refine wpList_plain rfl fun K hK => ?_
          refine Own.grow (f := u8cell) (.tmp 17) (.tmp 23) _ rfl Try.underlying79 info_u8 rfl rfl (Own.frm HO.out hsc (fun _ _ => id)) u8cell_len [byteAt x j] (by simp) ⟨wr.heap.size, 0, none⟩ 1 rfl (fun j u hj => news_of_blk hNc j u hj) (by simp [u8cell, Value.oneCell']) (by simp [maxLen] <;> omega) (by simp <;> omega) ?_
          intro g D' wd hOd _ hgr hat
          refine hK _ _ ?_
          clear hK K
          have hsd : Same w wd := (HS.out.trans hsc (fun _ _ h => h)).grown hgr (fun b hb => .inr (HFB.out b (ownBlock_row.1 hb)))
          have hgF : Fresh w.heap.size (some ⟨g, 0, none⟩) := by
            rcases hat with ⟨h1, _⟩ | ⟨h1, _⟩
            · rw [← h1]; exact HFB.out
            · have := HS.out.size; have := hsc.size; exact fresh_some (by omega)
          have hod : Own wd 5 1 u8cell (some ⟨g, 0, none⟩) (8 * k + (j + 1)) D' (kbytes (ws.take k) ++ (wbytes x).take (j + 1)) := by
            rw [wbytes_take x hlj, ← List.append_assoc]
            exact hOd
          have HOD := Lib.hid hod
          have HSD := Lib.hid hsd
          have HGF := Lib.hid hgF
          clear hgr hOd hat hNc hsc hod hsd hgF HO HS HFB hwr
          go_wp2
          go_roundw
          case rel => exact ⟨j + 1, some ⟨g, 0, none⟩, D', by omega, by go_num, by go_num, HOD.out, HGF.out, HSD.out⟩
          case measure => simp [intOf] <;> omega
        · obtain rfl : j = 8 := by omega
          have hod : Own wr 5 1 u8cell B (8 * (k + 1)) D (kbytes (ws.take (k + 1))) := by
            rw [kbytes_take HX.out]
            rw [show (wbytes x).take 8 = wbytes x from List.take_of_length_le (by rw [wbytes_len]; exact Nat.le_refl _)] at ho
            exact ho
          have HOD := Lib.hid hod
          have HFB := Lib.hid hfB
          have HS := Lib.hid hs
          clear ho hfB hs hod
          go_wp2
          go_roundw
          case rel => exact ⟨k + 1, B, D, by omega, by go_num, by go_num, HOD.out, HFB.out, HS.out⟩
          case measure => simp [intOf] <;> omega
    · obtain rfl : k = ws.length := by omega
      rw [List.take_of_length_le (Nat.le_refl _)] at ho
      obtain ⟨g, hB, _⟩ := ho.form (by omega)
      subst hB
      have hcv : (convert 79 9 (.slice (some ⟨g, 0, none⟩) (8 * ws.length) D)).run Try.prog wr = .ok (.string (kstr ws)) wr := by
        have h2 := run_convert_bytes_back (P := Try.prog) wr 79 9 5 ⟨g, 0, none⟩ D (kbytes ws) Try.underlying79 Try.underlying5 Try.underlying9 (fun j hj => by
          obtain ⟨sb, h3, _, h4⟩ := Own.at1 (c := fun x : UInt8 => .int .u8 (x.toNat : Int)) ho (i := j) (x := (kbytes ws)[j]) (List.getElem?_eq_getElem hj)
          injection h3 with h3
          injection h3 with h3
          subst h3
          have hadd : (⟨g, 0, none⟩ : Addr).add j = ⟨g, j, none⟩ := by unfold Addr.add; split <;> simp_all
          rw [hadd]
          exact h4)
        rw [kbytes_len] at h2
        exact h2
      clear ho hfB
      go_wp2
      go_ret
      exact ⟨rfl, hs⟩
end Go.Proofs.Ytakepdkokjecoaa


/- Shape: sets of tables: what a map of tables holds; add. -/
namespace Go.Tk
open Go.RowKit Go.Maps
/-- a store into a map, as one operation -/
theorem Own.mapPut {H : Type} {P : Program} {o : Oper} {a : Act} {w : World} {K : Act → World → Prop} {Q : Exit → Act → World → Prop} (m x v : Operand) (t : TypeId) (ho : o.op = Op.mapUpdate t m x v) (k e : TypeId) (KY : Keyed P k) (ht : P.underlying t = some (.map k e)) (R : Value → Option (DataW H × List MemPlace)) (b n : Nat) (D : DataW H)
    (hm : a.eval m = .map (some b)) (hown : w.ownsMap P k R b n D) (hn : n < maxLen) (key val : Value) (kl : Lit) (hx : a.eval x = key) (hv : a.eval v = val) (hkey : keyOf P k key = some kl) (d : DataW H) (ps : List MemPlace) (hval : R val = some (d, ps))
    (hK : ∀ w', w'.ownsMap P k R b (n + 1) (D.put kl d) → w.grownBy w' (some b) → K (a.put o.dst undef) w') : o.wp P a w K Q := by
  obtain ⟨w', hrun, r1, r2⟩ := hown.update KY ht hn hkey hval
  unfold Oper.wp
  simp [execOp, ho, hm, hx, hv, hrun, Result.andThen]
  exact hK _ r1 r2
theorem ownsMap_frm {H : Type} {P : Program} {k : TypeId} {R : Value → Option (DataW H × List MemPlace)} {w w' : World} {b n : Nat} {D : DataW H} {S : Nat → Prop} (h : w.ownsMap P k R b n D) (hf : Frm S w w') (hS : ¬ S b) : w'.ownsMap P k R b n D := by
  have hlt := h.lt
  obtain ⟨es, clock, hb, rest⟩ := h
  exact ⟨es, clock, (hf.block b hlt hS).trans hb, rest⟩
theorem ranges_frm {H : Type} {P : Program} {k : TypeId} {R : Value → Option (DataW H × List MemPlace)} {w w' : World} {b r n : Nat} {D : DataW H} {left : Lit → Bool} {cnt : Nat} {S : Nat → Prop} (h : w.ranges P k R b r n D left cnt) (hf : Frm S w w') (hS : ¬ S b) (hr : ¬ S r) : w'.ranges P k R b r n D left cnt := by
  have h1 := h.owns.lt
  have h2 := h.lt
  obtain ⟨es, clock, since, seen, c0, hb, F, hs, hD, hrr, rest⟩ := h
  exact ⟨es, clock, since, seen, c0, (hf.block b h1 hS).trans hb, F, hs, hD, (hf.block r h2 hr).trans hrr, rest⟩
/-- cells stay while a map turns -/
theorem cell_map {H : Type} {P : Program} {k : TypeId} {R : Value → Option (DataW H × List MemPlace)} {w w' : World} {b n : Nat} {D : DataW H} (h : w.ownsMap P k R b n D) (hf : Frm (fun x => x = b) w w') {p : Addr} {v : Value} (hp : p.block < w.heap.size) (hc : w.cell? p = some v) : w'.cell? p = some v := by
  have hne : p.block ≠ b := fun he => by
    obtain ⟨es, clock, hb, _⟩ := h
    unfold World.cell? at hc
    rw [he, hb] at hc
    cases hc
  exact (hf.cell hp hne).trans hc
theorem Sl.turnMap {H : Type} {P : Program} {k : TypeId} {R : Value → Option (DataW H × List MemPlace)} {w w' : World} {b n : Nat} {D : DataW H} (h : w.ownsMap P k R b n D) (hf : Frm (fun x => x = b) w w') {m : Nat} {α : Type} {f : α → List Value} {A : Option Addr} {N : Nat} {xs : List α} (hlen : ∀ x, (f x).length = m) (hs : Sl w m f A N xs) : Sl w' m f A N xs := by
  refine ⟨hs.len, fun i x hi => ?_⟩
  obtain ⟨b0, off, h1, h2, h3⟩ := hs.get i x hi
  exact ⟨b0, off, h1, Nat.lt_of_lt_of_le h2 hf.size, fun j hj => by
    have hc := h3 j hj
    have hlt : j < (f x).length := by rw [hlen]; exact hj
    rw [List.getElem?_eq_getElem hlt] at hc ⊢
    exact cell_map h hf (p := ⟨b0, off + i * m + j, none⟩) h2 hc⟩
end Go.Tk
namespace Go.Proofs.Ytakepdkokjecoaa
open Go.RowKit Go.Tk Go.Maps

open Classical in
/-- a table in a map is held as it is -/
noncomputable def tabR (v : Value) : Option (DataW Value × List MemPlace) := if ∃ (N : Int) (A : Option Addr) (n C : Nat), v = .agg #[.int .i64 N, .slice A n C] then some (.held v, []) else none
theorem tabR_of (N : Int) (A : Option Addr) (n C : Nat) : tabR (.agg #[.int .i64 N, .slice A n C]) = some (.held (.agg #[.int .i64 N, .slice A n C]), []) := by
  unfold tabR
  rw [if_pos ⟨N, A, n, C, rfl⟩]
theorem tabR_inv {v : Value} {y : DataW Value × List MemPlace} (h : tabR v = some y) : ∃ c : Int × Option Addr × Nat × Nat, v = .agg #[.int .i64 c.1, .slice c.2.1 c.2.2.1 c.2.2.2] ∧ y = (.held v, []) := by
  unfold tabR at h
  split at h
  · rename_i hx
    obtain ⟨N, A, n, C, hv⟩ := hx
    exact ⟨(N, A, n, C), hv, (Option.some.inj h).symm⟩
  · cases h
def kl (ws : List Nat) : Lit := .string (kbytes ws)
theorem kl_key (ws : List Nat) : WideAt.IsKeyLit (kl ws) := trivial
theorem kl_inj {xs ys : List Nat} (hx : Small xs) (hy : Small ys) (h : kl xs = kl ys) : xs = ys := by
  unfold kl at h
  injection h with h
  exact kbytes_inj hx hy h
theorem key_of {ws : List Nat} (h1 : ws.length ≤ 1024) : keyOf Try.prog 9 (.string (kstr ws)) = some (kl ws) := by
  have hs : (kstr ws).size ≤ maxLen := by
    show (kbytes ws).toArray.size ≤ 9223372036854775807
    rw [List.size_toArray, kbytes_len]
    omega
  rw [WideMaps.keyOf_string_mk Try.underlying9 hs]
  simp [kstr, kl]
abbrev KS : Keyed Try.prog 9 := string_keyed Try.underlying9
/-- block b is a set of tables of N variables: those of which M holds -/
structure ST (lo : Nat) (w : World) (b n : Nat) (D : DataW Value) (N : Int) (M : List Nat → Prop) : Prop where
  own : w.ownsMap Try.prog 9 tabR b n D
  dom : ∀ k, Maps.has D k = true → ∃ ws, M ws ∧ k = kl ws
  cod : ∀ ws, M ws → Maps.has D (kl ws) = true
  val : ∀ ws, M ws → ∃ A C, (∀ z, D.atKey (kl ws) z = .held (.agg #[.int .i64 N, .slice A ws.length C])) ∧ WL w A ws.length ws ∧ Fresh lo A
  good : ∀ ws, M ws → Small ws ∧ 0 < ws.length ∧ ws.length ≤ 1024
theorem ST.same {lo : Nat} {w w' : World} {b n : Nat} {D : DataW Value} {N : Int} {M : List Nat → Prop} (h : ST lo w b n D N M) (hs : Same w w') : ST lo w' b n D N M :=
  ⟨ownsMap_frm h.own hs id, h.dom, h.cod, fun ws hw => by obtain ⟨A, C, h1, h2, h3⟩ := h.val ws hw; exact ⟨A, C, h1, Sl.same h2 hs, h3⟩, h.good⟩
theorem ST.iff {lo : Nat} {w : World} {b n : Nat} {D : DataW Value} {N : Int} {M M' : List Nat → Prop} (h : ST lo w b n D N M) (hm : ∀ ws, M ws ↔ M' ws) : ST lo w b n D N M' := by
  have : M = M' := funext fun ws => propext (hm ws)
  rw [← this]; exact h
theorem ST.made (lo : Nat) (w : World) (N : Int) : ST lo (w.alloc (.map #[] 0)) w.heap.size 0 (.map []) N (fun _ => False) :=
  ⟨World.ownsMap_made _ _ _ _, fun k hk => (by cases hk), fun ws h => h.elim, fun ws h => h.elim, fun ws h => h.elim⟩
theorem ST.put {lo : Nat} {w w' : World} {b n : Nat} {D : DataW Value} {N : Int} {M : List Nat → Prop} (h : ST lo w b n D N M) {ws : List Nat} {A : Option Addr} {C : Nat} (hw : WL w A ws.length ws) (hfr : Fresh lo A) (hg : Small ws ∧ 0 < ws.length ∧ ws.length ≤ 1024)
    (ho : w'.ownsMap Try.prog 9 tabR b (n + 1) (D.put (kl ws) (.held (.agg #[.int .i64 N, .slice A ws.length C])))) (hf : Frm (fun x => x = b) w w') : ST lo w' b (n + 1) (D.put (kl ws) (.held (.agg #[.int .i64 N, .slice A ws.length C]))) N (fun x => M x ∨ x = ws) := by
  have him : IsMap D := by
    obtain ⟨es, hD, _⟩ := h.own.entries KS
    exact ⟨es, hD⟩
  refine ⟨ho, fun k hk => ?_, fun x hx => ?_, fun x hx => ?_, fun x hx => ?_⟩
  · by_cases he : k = kl ws
    · exact ⟨ws, .inr rfl, he⟩
    · rw [has_put_other he] at hk
      obtain ⟨x, h1, h2⟩ := h.dom k hk
      exact ⟨x, .inl h1, h2⟩
  · by_cases he : kl x = kl ws
    · rw [he]; exact has_put_same him (kl_key ws) _
    · rw [has_put_other he]
      rcases hx with hx | rfl
      · exact h.cod x hx
      · exact absurd rfl he
  · have hxs : Small x := by
      rcases hx with hx | rfl
      · exact (h.good x hx).1
      · exact hg.1
    by_cases he : x = ws
    · subst he
      exact ⟨A, C, fun z => atKey_put_same him (kl_key x) _ z, Sl.turnMap h.own hf ucell_len hw, hfr⟩
    · rcases hx with hx | hx
      · obtain ⟨A1, C1, h1, h2, h3⟩ := h.val x hx
        exact ⟨A1, C1, fun z => by rw [atKey_put_other (fun hk => he (kl_inj hxs hg.1 hk))]; exact h1 z, Sl.turnMap h.own hf ucell_len h2, h3⟩
      · exact absurd hx he
  · rcases hx with hx | rfl
    · exact h.good x hx
    · exact hg
set_option maxRecDepth 100000 in
set_option maxHeartbeats 8000000 in
theorem add_any (lo b n : Nat) (D : DataW Value) (N : Int) (M : List Nat → Prop) (A : Option Addr) (C : Nat) (ws : List Nat) (w : World) (hst : ST lo w b n D N M) (hn : n < maxLen) (h : WL w A ws.length ws) (hfr : Fresh lo A) (hg : Small ws ∧ 0 < ws.length ∧ ws.length ≤ 1024) :
    Calls Try.prog 37 #[.map (some b), .agg #[.int .i64 N, .slice A ws.length C]] w fun e w' => e = .returned (.tuple #[]) ∧ Frm (fun x => x = b) w w' ∧ ∃ D', ST lo w' b (n + 1) D' N (fun x => M x ∨ x = ws) := by
  have HST := Lib.hid hst
  have H := Lib.hid h
  have hg1 := hg.2.1
  have hg2 := hg.2.2
  have hG := Lib.hid hg
  have HFR := Lib.hid hfr
  clear hst h hg hfr
  go_enter Try.func37, Try.ntmps37
  go_upto_region 1 with fail
  refine wp_world fun w1 hw1 => ?_
  have hs1 : Same w w1 := by rw [hw1]; exact (Frm.refl _ _).alloc _
  have hBX : Blk w1 w.heap.size 37 #[.int .i64 N, .slice A ws.length C] := by rw [hw1]; exact Blk.new _ _ _
  have hbX : b < w.heap.size := HST.out.own.lt
  obtain ⟨X, hX⟩ : ∃ z, w.heap.size = z := ⟨_, rfl⟩
  rw [hX] at hBX hbX ⊢
  have cX0 : w1.cell? ⟨X, 0, none⟩ = some (.int .i64 N) := hBX.cell 0
  have cX1 : w1.cell? ⟨X, 1, none⟩ = some (.slice A ws.length C) := hBX.cell 1
  have lX := hBX.lt
  have HS1 := Lib.hid hs1
  clear hw1 hX hs1 hBX
  obtain ⟨S, hS⟩ : ∃ S : Nat → Prop, (fun x => x = b) = S := ⟨_, rfl⟩
  have hSX : ¬ S X := by rw [← hS]; exact fun h => by omega
  have HSS := Lib.hid hS
  clear hS
  refine wp_phS S [([0, 1, 3], 2), ([], 4)] (by kernel_rfl) (by kernel_rfl) ?_
  simp only [wpPh, pick, List.map_cons, List.map_nil, List.getD_cons_zero, List.getD_cons_succ]
  repeat (any_goals (first | go_big_quiet_step (fail) | quiet_step (fail)))
  refine wpQuiet_nil ?_
  obtain ⟨wd, hwd⟩ : ∃ z, z = w1.drew := ⟨_, rfl⟩
  have hsd : Same w1 wd := by rw [hwd]; exact (Frm.refl _ _).drew
  rw [← hwd]
  clear hwd
  refine effStep_plain rfl fun K hK => ?_
  go_simp
  have HSD := Lib.hid (HS1.out.trans hsd (fun _ _ h => h))
  refine (key_any N A C ws wd ⟨Sl.same H.out HSD.out, hG.out.1⟩ hg1 hg2).mono ?_
  rintro e w2 ⟨rfl, hs⟩
  have hf2 : Frm S w1 w2 := (Frm.refl S w1).trans (hsd.trans hs (fun _ _ h => h)) (fun _ _ h => h.elim)
  refine hK _ _ (Lat.mk_ hf2) ?_
  clear hK K
  refine wpQuiet_nil ?_
  have HS2 := Lib.hid (HSD.out.trans hs (fun _ _ h => h))
  have HW2 := Lib.hid (Sl.same H.out HS2.out)
  clear hs hsd
  refine wpList_plain rfl fun K hK => ?_
  refine Own.mapPut (.tmp 4) (.tmp 6) (.tmp 7) 59 rfl 9 37 KS Try.underlying59 tabR b n D rfl (ownsMap_frm HST.out.own HS2.out id) hn (.string (kstr ws)) (.agg #[.int .i64 N, .slice A ws.length C]) (kl ws) rfl rfl (key_of hg2) _ _ (tabR_of _ _ _ _) ?_
  intro w3 ho hgr
  have hf3 : Frm (fun x => x = b) w2 w3 := (Frm.refl (fun x => x = b) w2).grown hgr (fun g hg => .inl (Option.some.inj hg).symm)
  have hst := (HST.out.same HS2.out).put HW2.out HFR.out hG.out ho hf3
  have hfw : Frm (fun x => x = b) w w3 := ((Frm.refl (fun x => x = b) w).trans HS2.out (fun _ _ h => h.elim)).trans hf3 (fun _ _ h => h)
  refine hK _ _ ?_
  clear hK K ho hgr hf3
  have HF := Lib.hid hfw
  have HT := Lib.hid hst
  clear hfw hst
  go_wp2
  go_end0
  exact ⟨rfl, HF.out, _, HT.out⟩
end Go.Proofs.Ytakepdkokjecoaa


/- Shape: of, given. -/
namespace Go.Tk
open Go.RowKit Go.Maps
theorem cell_iter {w : World} {r : Nat} {m : Option Nat} {a b : _} {c : _} (h : w.heap[r]? = some (.mapIter m a b c)) {p : Addr} (hp : p.block = r) : w.cell? p = none := by
  unfold World.cell?
  rw [hp, h]
theorem Sl.turnIter {w w' : World} {r : Nat} (hn : ∀ p : Addr, p.block = r → w.cell? p = none) (hf : Frm (fun x => x = r) w w') {m : Nat} {α : Type} {f : α → List Value} {A : Option Addr} {N : Nat} {xs : List α} (hlen : ∀ x, (f x).length = m) (hs : Sl w m f A N xs) : Sl w' m f A N xs := by
  refine ⟨hs.len, fun i x hi => ?_⟩
  obtain ⟨b0, off, h1, h2, h3⟩ := hs.get i x hi
  refine ⟨b0, off, h1, Nat.lt_of_lt_of_le h2 hf.size, fun j hj => ?_⟩
  have hc := h3 j hj
  have hlt : j < (f x).length := by rw [hlen]; exact hj
  rw [List.getElem?_eq_getElem hlt] at hc ⊢
  refine (hf.cell (p := ⟨b0, off + i * m + j, none⟩) h2 (fun he => ?_)).trans hc
  rw [hn _ he] at hc
  cases hc
end Go.Tk
namespace Go.Proofs.Ytakepdkokjecoaa
open Go.RowKit Go.Tk Go.Maps

theorem Tb.cells_len (t : Tb) : (Tb.cells t).length = 2 := rfl
theorem ST.iter {lo : Nat} {w w' : World} {b n r : Nat} {D : DataW Value} {N : Int} {M : List Nat → Prop} (h : ST lo w b n D N M) (hn : ∀ p : Addr, p.block = r → w.cell? p = none) (hbr : b ≠ r) (hf : Frm (fun x => x = r) w w') : ST lo w' b n D N M :=
  ⟨ownsMap_frm h.own hf hbr, h.dom, h.cod, fun ws hw => by obtain ⟨A, C, h1, h2, h3⟩ := h.val ws hw; exact ⟨A, C, h1, Sl.turnIter hn hf ucell_len h2, h3⟩, h.good⟩
set_option maxRecDepth 100000 in
set_option maxHeartbeats 8000000 in
theorem sof_any (A : Option Addr) (n C : Nat) (xs : List Tb) (N : Int) (w : World) (hs : Sl w 2 Tb.cells A n xs) (hok : ∀ t ∈ xs, TbOk w t ∧ t.N = N ∧ 0 < t.ws.length ∧ t.ws.length ≤ 1024) (hn : n ≤ 1000000000000000000) :
    Calls Try.prog 27 #[.slice A n C] w fun e w' => ∃ b D, e = .returned (.map (some b)) ∧ Same w w' ∧ w.heap.size ≤ b ∧ ST 0 w' b n D N (fun ws => ∃ t ∈ xs, ws = t.ws) := by
  have H := Lib.hid hs
  have HOK := Lib.hid hok
  have HL := Lib.hid hs.len
  clear hs hok
  have hmm := @run_makeMap Try.prog
  go_enter Try.func27, Try.ntmps27
  go_upto_region 2 with fail
  refine wp_world fun w1 hw1 => ?_
  have hs1 : Same w w1 := by rw [hw1]; exact (Frm.refl _ _).alloc _
  have hst := ST.made 0 w N
  rw [← hw1] at hst
  have hbw : w.heap.size ≤ w.heap.size := Nat.le_refl _
  obtain ⟨b, hb⟩ : ∃ z, z = w.heap.size := ⟨_, rfl⟩
  have hbw : w.heap.size ≤ b := Nat.le_of_eq hb.symm
  rw [← hb] at hst ⊢
  have HS1 := Lib.hid hs1
  have HST := Lib.hid hst
  clear hw1 hb hs1 hst hmm
  go_wp2
  go_loopw [9] (fun i wi => ∃ (k : Nat) (D : DataW Value), k ≤ n ∧ i = .int .i64 k ∧ Same w wi ∧ ST 0 wi b k D N (fun ws => ∃ t ∈ xs.take k, ws = t.ws)) (fun i _ => n - (intOf i).toNat)
  case atStart => exact ⟨0, _, by omega, rfl, HS1.out, HST.out.iff (fun ws => by simp)⟩
  case round =>
    clear HS1 HST
    obtain ⟨k, D, hk, rfl, hs, hst⟩ := hrel
    by_cases hlt : k < n
    · obtain ⟨t, ht⟩ : ∃ t, xs[k]? = some t := ⟨_, List.getElem?_eq_getElem (by rw [← HL.out]; exact hlt)⟩
      obtain ⟨bl, o, hA, hbl, hc⟩ := (Sl.same H.out hs).get k t ht
      have c0 : wr.cell? ⟨bl, o + k * 2, none⟩ = some (.int .i64 t.N) := hc 0 (by omega)
      have c1 : wr.cell? ⟨bl, o + k * 2 + 1, none⟩ = some (.slice t.A t.ws.length t.C) := hc 1 (by omega)
      obtain ⟨hto, htN, ht0, ht1⟩ := HOK.out t (List.mem_of_getElem? ht)
      subst hA
      have hk0 : (0 : Int) ≤ k := by omega
      have hk1 : (k : Int) < n := by omega
      have HST := Lib.hid hst
      have HS := Lib.hid hs
      have HT := Lib.hid ht
      have HTO := Lib.hid (hto.same hs)
      clear hc hst hs ht hto
      obtain ⟨tN, tA, tC, tw⟩ := t
      simp only at c0 c1 htN ht0 ht1
      subst htN
      go_upto_region 5 with fail
      refine wp_world fun w2 hw2 => ?_
      have hs2 : Same wr w2 := by rw [hw2]; exact (Frm.refl _ _).alloc _
      have hBX : Blk w2 wr.heap.size 37 #[.int .i64 tN, .slice tA tw.length tC] := by rw [hw2]; exact Blk.new _ _ _
      clear c0 c1 hbl hw2
      obtain ⟨X, hX⟩ : ∃ z, z = wr.heap.size := ⟨_, rfl⟩
      rw [← hX] at hBX ⊢
      have cX0 : w2.cell? ⟨X, 0, none⟩ = some (.int .i64 tN) := hBX.cell 0
      have cX1 : w2.cell? ⟨X, 1, none⟩ = some (.slice tA tw.length tC) := hBX.cell 1
      have lX := hBX.lt
      replace HS := Lib.hid (HS.out.trans hs2 (fun _ _ h => h))
      replace HST := Lib.hid (HST.out.same hs2)
      replace HTO := Lib.hid (HTO.out.same hs2)
      clear hX hBX hs2
      go_wp2_with (fail)
      refine (add_any 0 b k D tN _ tA tC tw w2 HST.out (by simp [maxLen] <;> omega) HTO.out.wl (fun _ _ => Nat.zero_le _) ⟨HTO.out.small, ht0, ht1⟩).mono ?_
      rintro e w3 ⟨rfl, hf, D', hst⟩
      have hsw : Same w w3 := HS.out.trans hf (fun i hi (h : i = b) => by omega)
      have hst2 := hst.iff (M' := fun ws => ∃ t ∈ xs.take (k + 1), ws = t.ws) (fun ws => by
        rw [List.take_add_one, HT.out]
        constructor
        · rintro (⟨t, h1, h2⟩ | rfl)
          · exact ⟨t, List.mem_append_left _ h1, h2⟩
          · exact ⟨⟨tN, tA, tC, ws⟩, List.mem_append_right _ (by simp), rfl⟩
        · rintro ⟨t, h1, h2⟩
          rcases List.mem_append.1 h1 with h1 | h1
          · exact .inl ⟨t, h1, h2⟩
          · simp at h1
            subst h1
            exact .inr h2)
      have HS3 := Lib.hid hsw
      have HT3 := Lib.hid hst2
      clear hf hst hsw hst2 cX0 cX1 lX
      go_wp2
      go_roundw
      case rel => exact ⟨k + 1, D', by omega, by go_num, HS3.out, HT3.out⟩
      case measure => simp [intOf] <;> omega
    · obtain rfl : k = n := by omega
      rw [List.take_of_length_le (by rw [← HL.out]; exact Nat.le_refl _)] at hst
      have HST := Lib.hid hst
      clear hst
      go_wp2
      go_ret
      exact ⟨b, D, rfl, hs, hbw, HST.out⟩
/-- how many of a list -/
theorem count_one {α : Type} [DecidableEq α] {L : List α} (hn : L.Nodup) {x0 : α} (hx : x0 ∈ L) {p p' q : α → Bool} (h0 : p x0 = false) (h1 : p' x0 = true) (h2 : ∀ x ∈ L, x ≠ x0 → p' x = p x) : (L.filter fun x => p' x && q x).length = (L.filter fun x => p x && q x).length + (if q x0 then 1 else 0) := by
  induction L with
  | nil => cases hx
  | cons a L ih =>
    obtain ⟨ha, hn'⟩ := List.nodup_cons.1 hn
    by_cases he : a = x0
    · subst he
      have hrest : L.filter (fun x => p' x && q x) = L.filter (fun x => p x && q x) := List.filter_congr fun x hx => by
        rw [h2 x (List.mem_cons_of_mem _ hx) (fun e => ha (e ▸ hx))]
      rw [List.filter_cons, List.filter_cons, h0, h1, hrest]
      cases q a <;> simp
    · have hx' : x0 ∈ L := by
        rcases List.mem_cons.1 hx with h | h
        · exact absurd h.symm he
        · exact h
      have := ih hn' hx' (fun x hx => h2 x (List.mem_cons_of_mem _ hx))
      rw [List.filter_cons, List.filter_cons, h2 a List.mem_cons_self he]
      cases (p a && q a) <;> simp [this] <;> omega
def loT (nn v : Nat) (x : List Nat) : List Nat := tab nn (hfF v false x)
def hiT (nn v : Nat) (x : List Nat) : List Nat := tab nn (hfF v true x)
/-- how many depend on the variable -/
def cntL (nn v : Nat) (L : List (List Nat)) : Nat := (L.filter fun x => decide (loT nn v x ≠ hiT nn v x)).length
theorem ownsMap_size {w : World} {b n : Nat} {D : DataW Value} (h : w.ownsMap Try.prog 9 tabR b n D) : Maps.size D ≤ n := by
  obtain ⟨es, clock, hb, F, hs, rfl⟩ := h
  show (List.foldr DataW.insert [] _).length ≤ n
  rw [length_sorted]
  simpa using hs
theorem tab_good {nn : Nat} (h : nn ≤ 16) (F : Nat → Bool) : Small (tab nn F) ∧ 0 < (tab nn F).length ∧ (tab nn F).length ≤ 1024 := by
  refine ⟨fun x hx => tab_lt x hx, ?_, ?_⟩
  · rw [tab_len]
    unfold nw
    split
    · omega
    · exact Nat.two_pow_pos _
  · rw [tab_len]; exact nw_le h
theorem toList_inj {a b : ByteArray} (h : a.toList = b.toList) : a = b := by
  rw [ByteArray.toList_eq, ByteArray.toList_eq] at h
  cases a; cases b
  simp at h
  rw [h]
theorem cof_ok (nn v : Nat) (b : Bool) (A : Option Addr) (C : Nat) (ws : List Nat) (w : World) (hv : v < nn) (h : TbOk w ⟨(nn : Int), A, C, ws⟩) (hf : FormN nn ws) : Calls Try.prog 38 #[.agg #[.int .i64 nn, .slice A ws.length C], .int .i64 v, .bool b] w (RetTE w nn (tab nn (hfF v b ws)) 0) := by
  have h1 := Cofactor_any (nn : Int) A C ws (v : Int) b w h
  have h2 : ofE (nn : Int) (v : Int) ws = 0 := by
    unfold ofE
    rw [if_pos (frm_nat.2 hf), if_neg (by omega)]
  rw [h2] at h1
  exact h1
theorem left_iff {left : Lit → Bool} {ws x : List Nat} (hs : Small x) (hw : Small ws) : (left (kl x) && !(kl x).sameKey (kl ws)) = false ↔ (left (kl x) = false ∨ x = ws) := by
  by_cases he : x = ws
  · subst he
    rw [WideAt.sameKey_self (kl_key x)]
    simp
  · have : (kl x).sameKey (kl ws) = false := sameKey_ne (fun h => he (kl_inj hs hw h))
    rw [this]
    simp [he]
set_option maxRecDepth 100000 in
set_option maxHeartbeats 16000000 in
theorem given_any (lo0 b n nn v : Nat) (D : DataW Value) (L : List (List Nat)) (w : World) (hst : ST lo0 w b n D (nn : Int) (fun ws => ws ∈ L)) (hnd : L.Nodup) (hf : ∀ ws ∈ L, FormN nn ws) (hv : v < nn) (hn16 : nn ≤ 16) (hn : n ≤ 1000000000000000000) (hLl : L.length ≤ 1000000000000000000) :
    Calls Try.prog 28 #[.map (some b), .int .i64 v] w fun e w' => ∃ b' n' D', e = .returned (.tuple #[.map (some b'), .int .i64 (cntL nn v L : Nat)]) ∧ Same w w' ∧ w.heap.size ≤ b' ∧ n' ≤ 2 * n ∧ ST w.heap.size w' b' n' D' (nn : Int) (fun y => ∃ x ∈ L, y = loT nn v x ∨ y = hiT nn v x) := by
  have HST := Lib.hid hst
  have HF := Lib.hid hf
  have HND := Lib.hid hnd
  clear hst hf hnd
  have hmm := @run_makeMap Try.prog
  go_enter Try.func28, Try.ntmps28
  go_upto_region 2 with fail
  refine wp_world fun w1 hw1 => ?_
  have hs1 : Same w w1 := by rw [hw1]; exact (Frm.refl _ _).alloc _
  obtain ⟨lo1, hlo1⟩ : ∃ z, z = w.heap.size := ⟨_, rfl⟩
  have hsn := ST.made lo1 w (nn : Int)
  rw [← hw1] at hsn
  obtain ⟨bn, hb⟩ : ∃ z, z = w.heap.size := ⟨_, rfl⟩
  have hbw : w.heap.size ≤ bn := Nat.le_of_eq hb.symm
  have hbb : b < bn := by rw [hb]; exact HST.out.own.lt
  rw [← hb] at hsn ⊢
  have hbn1 : bn < w1.heap.size := hsn.own.lt
  rw [hlo1] at hsn
  clear hlo1
  have HS1 := Lib.hid hs1
  have HSN := Lib.hid hsn
  clear hw1 hb hs1 hsn hmm
  refine wp_region_lit ?_
  refine wpList_read 1 ?_
  simp only [List.take_succ_cons, List.take_zero, List.drop_succ_cons, List.drop_zero]
  repeat (any_goals (first | go_big_quiet_step (fail) | quiet_step (fail)))
  refine wpQuiet_nil ?_
  refine wpList_range_own w1 rfl (.tmp 17) 59 rfl 9 37 KS Try.underlying59 tabR b n D rfl (HST.out.same HS1.out).own ?_
  intro w2 hrg hgr hsz
  have hs2 : Same w1 w2 := (Frm.refl _ _).grown hgr (fun g hg => by cases hg)
  obtain ⟨R, hR⟩ : ∃ z, z = w1.heap.size := ⟨_, rfl⟩
  rw [← hR] at hrg ⊢
  have hbR : b < R := by omega
  have hbnR : bn < R := by omega
  have hwR : w.heap.size ≤ R := by omega
  have HRG := Lib.hid hrg
  have HS2 := Lib.hid (HS1.out.trans hs2 (fun _ _ h => h))
  replace HSN := Lib.hid (HSN.out.same hs2)
  have hsD := ownsMap_size HST.out.own
  clear hR hrg hgr hs2 hsz HS1 hbn1
  go_wp2
  go_frame
  go_loopw [7] (fun c wi => ∃ (left : Lit → Bool) (cnt : Nat) (D' : DataW Value) (m : Nat), c = .int .i64 ((L.filter (fun x => !left (kl x) && decide (loT nn v x ≠ hiT nn v x))).length : Nat) ∧ wi.ranges Try.prog 9 tabR b R n D left cnt ∧ ST w.heap.size wi bn m D' (nn : Int) (fun y => ∃ x ∈ L, left (kl x) = false ∧ (y = loT nn v x ∨ y = hiT nn v x)) ∧ m + 2 * cnt ≤ 2 * n ∧ Same w wi) (fun _ wi => wi.rangeLeft b R)
  case atStart =>
    refine ⟨Maps.has D, Maps.size D, _, 0, ?_, HRG.out, HSN.out.iff (fun y => ⟨fun h => h.elim, fun ⟨x, h1, h2, _⟩ => by rw [HST.out.cod x h1] at h2; cases h2⟩), by omega, HS2.out⟩
    rw [List.filter_eq_nil_iff.2 (fun x hx => by rw [HST.out.cod x hx]; simp)]
    rfl
  case round =>
    clear HRG HS2 HSN hsD
    obtain ⟨left, cnt, D', m, hc, hrg, hsn, hm, hs⟩ := hrel
    subst hc
    have HRG := Lib.hid hrg
    have HSN := Lib.hid hsn
    have HS := Lib.hid hs
    clear hrg hsn hs
    go_upto_region 3 with fail
    refine wp_region_lit ?_
    refine wpList_next_ranges wr rfl (.tmp 18) rfl 9 KS tabR Value.string (fun c : Int × Option Addr × Nat × Nat => .agg #[.int .i64 c.1, .slice c.2.1 c.2.2.1 c.2.2.2]) (fun key k hk => by obtain ⟨x, rfl, _⟩ := WideMaps.string_of_keyOf Try.underlying9 hk; exact ⟨x, rfl⟩) (fun v y hv => by obtain ⟨c, h1, _⟩ := tabR_inv hv; exact ⟨c, h1⟩) b R n D left cnt rfl HRG.out ?_ ?_
    · intro hc0 hl0
      have hcount : (L.filter (fun x => !left (kl x) && decide (loT nn v x ≠ hiT nn v x))).length = cntL nn v L := by
        unfold cntL
        congr 1
        exact List.filter_congr fun x _ => by rw [hl0]; simp
      rw [hcount]
      have HST2 := Lib.hid (HSN.out.iff (M' := fun y => ∃ x ∈ L, y = loT nn v x ∨ y = hiT nn v x) (fun y => ⟨fun ⟨x, h1, _, h3⟩ => ⟨x, h1, h3⟩, fun ⟨x, h1, h3⟩ => ⟨x, h1, hl0 _, h3⟩⟩))
      clear hcount hl0 hc0
      go_wp2
      go_ret2
      exact ⟨bn, m, D', rfl, HS.out, hbw, by omega, HST2.out⟩
    · intro x c k y w3 cnt1 hkey hlk hval hat hrg1 hlt hgr hsz hen
      have hhas := Maps.has_true_of_atKey hat
      obtain ⟨ws, hwL, rfl⟩ := HST.out.dom k hhas
      obtain ⟨A, C, hv1, hwl, _⟩ := HST.out.val ws hwL
      have hcc : c = ((nn : Int), A, ws.length, C) := by
        obtain ⟨c', h1, h2⟩ := tabR_inv hval
        have h3 := (hat .nil).symm.trans (hv1 .nil)
        rw [h2] at h3
        injection h3 with h3
        injection h3 with h3
        obtain ⟨c0, c1, c2, c3⟩ := c
        simp at h3
        obtain ⟨e0, e1, e2, e3⟩ := h3
        subst e0 e1 e2 e3
        rfl
      subst hcc
      have hf3 : Frm (fun x => x = R) wr w3 := (Frm.refl _ _).grown hgr (fun g hg => .inl (Option.some.inj hg).symm)
      have hnoc : ∀ p : Addr, p.block = R → wr.cell? p = none := by
        obtain ⟨es, clock, since, seen, c0, _, _, _, _, hrr, _⟩ := HRG.out
        exact fun p hp => cell_iter hrr hp
      have hs3 : Same w w3 := HS.out.trans hf3 (fun i hi (h : i = R) => by omega)
      have hsn3 := HSN.out.iter hnoc (by omega) hf3
      have hR3 : R < w3.heap.size := hrg1.lt
      obtain ⟨hg1, hg2, hg3⟩ := HST.out.good ws hwL
      have HG := Lib.hid hg1
      have HS3 := Lib.hid hs3
      have HSN3 := Lib.hid hsn3
      have HRG3 := Lib.hid hrg1
      have HW := Lib.hid (Sl.same hwl hs3)
      have HFM := Lib.hid (HF.out ws hwL)
      have HWL := Lib.hid hwL
      have HLK := Lib.hid hlk
      obtain ⟨old, hold⟩ : ∃ z, z = (L.filter (fun x => !left (kl x) && decide (loT nn v x ≠ hiT nn v x))).length := ⟨_, rfl⟩
      have hol : old ≤ L.length := by rw [hold]; exact List.length_filter_le _ _
      have HOLD := Lib.hid hold
      rw [← hold]
      clear hkey hlk hval hat hhas hv1 hwl hf3 hnoc hs3 hsn3 hrg1 hgr hsz hg1 hwL hold HS HSN
      have hwr1 : IntKind.i64.wrap ((old : Int) + 1) = ((old + 1 : Nat) : Int) := by rw [IntWalk.i64_in _ (by omega)]; rfl
      go_upto_region 5 with fail
      refine wp_world fun w4 hw => ?_
      have hs4 : Same w3 w4 := by rw [hw]; exact (Frm.refl _ _).alloc _
      have hB9 : Blk w4 w3.heap.size 37 #[.int .i64 nn, .slice A ws.length C] := by rw [hw]; exact Blk.new _ _ _
      obtain ⟨X9, hX9⟩ : ∃ z, z = w3.heap.size := ⟨_, rfl⟩
      rw [← hX9] at hB9 ⊢
      have hR9 : R < X9 := by omega
      have c90 : w4.cell? ⟨X9, 0, none⟩ = some (.int .i64 nn) := hB9.cell 0
      have c91 : w4.cell? ⟨X9, 1, none⟩ = some (.slice A ws.length C) := hB9.cell 1
      have l9 := hB9.lt
      have HB9 := Lib.hid hB9
      have HS4 := Lib.hid hs4
      clear hw hX9 hB9 hs4 hen
      go_wp2_with (fail)
      refine (cof_ok nn v false A C ws w4 hv ⟨Sl.same HW.out HS4.out, HG.out⟩ HFM.out).mono ?_
      rintro e w5 ⟨A1, C1, rfl, hNT⟩
      obtain ⟨lo, hlo⟩ : ∃ z, z = tab nn (hfF v false ws) := ⟨_, rfl⟩
      have HLO := Lib.hid (show lo = loT nn v ws from hlo)
      have hgl := tab_good hn16 (hfF v false ws)
      rw [← hlo] at hNT hgl ⊢
      obtain ⟨hgl1, hgl2, hgl3⟩ := hgl
      have HGL := Lib.hid hgl1
      have HO1 := Lib.hid hNT.1
      have HFL := Lib.hid (show Fresh w.heap.size A1 from fun x hx => Nat.le_trans (HS3.out.trans HS4.out (fun _ _ h => h)).size (hNT.2.1 x hx))
      replace HS4 := Lib.hid (HS4.out.trans hNT.2.2 (fun _ _ h => h))
      replace HB9 := Lib.hid (HB9.out.frm hNT.2.2 id)
      clear hNT hlo hgl1 c90 c91 l9
      go_upto_region 6 with fail
      refine wp_world fun w6 hw => ?_
      have hs6 : Same w5 w6 := by rw [hw]; exact (Frm.refl _ _).alloc _
      have hB10 : Blk w6 w5.heap.size 37 #[.int .i64 nn, .slice A1 lo.length C1] := by rw [hw]; exact Blk.new _ _ _
      obtain ⟨X10, hX10⟩ : ∃ z, z = w5.heap.size := ⟨_, rfl⟩
      rw [← hX10] at hB10 ⊢
      have hR10 : R < X10 := by have := HB9.out.lt; omega
      replace HO1 := Lib.hid (Own.frm HO1.out hs6 (fun _ _ => id))
      replace HS4 := Lib.hid (HS4.out.trans hs6 (fun _ _ h => h))
      replace HB9 := Lib.hid (HB9.out.frm hs6 id)
      have HB10 := Lib.hid hB10
      have c90 : w6.cell? ⟨X9, 0, none⟩ = some (.int .i64 nn) := HB9.out.cell 0
      have c91 : w6.cell? ⟨X9, 1, none⟩ = some (.slice A ws.length C) := HB9.out.cell 1
      have l9 := HB9.out.lt
      clear hw hX10 hB10 hs6
      go_wp2_with (fail)
      refine (cof_ok nn v true A C ws w6 hv ⟨Sl.same HW.out HS4.out, HG.out⟩ HFM.out).mono ?_
      rintro e w7 ⟨A2, C2, rfl, hNT⟩
      obtain ⟨hi, hhi⟩ : ∃ z, z = tab nn (hfF v true ws) := ⟨_, rfl⟩
      have HHI := Lib.hid (show hi = hiT nn v ws from hhi)
      have hgh := tab_good hn16 (hfF v true ws)
      rw [← hhi] at hNT hgh ⊢
      obtain ⟨hgh1, hgh2, hgh3⟩ := hgh
      have HGH := Lib.hid hgh1
      have HO2 := Lib.hid hNT.1
      have HFH := Lib.hid (show Fresh w.heap.size A2 from fun x hx => Nat.le_trans (HS3.out.trans HS4.out (fun _ _ h => h)).size (hNT.2.1 x hx))
      replace HO1 := Lib.hid (Own.frm HO1.out hNT.2.2 (fun _ _ => id))
      replace HS4 := Lib.hid (HS4.out.trans hNT.2.2 (fun _ _ h => h))
      replace HB10 := Lib.hid (HB10.out.frm hNT.2.2 id)
      clear hNT hhi hgh1 c90 c91 l9 HB9
      go_upto_region 7 with fail
      refine wp_world fun w8 hw => ?_
      have hs8 : Same w7 w8 := by rw [hw]; exact (Frm.refl _ _).alloc _
      have hB12 : Blk w8 w7.heap.size 37 #[.int .i64 nn, .slice A2 hi.length C2] := by rw [hw]; exact Blk.new _ _ _
      obtain ⟨X12, hX12⟩ : ∃ z, z = w7.heap.size := ⟨_, rfl⟩
      rw [← hX12] at hB12 ⊢
      have hR12 : R < X12 := by have := HB10.out.lt; omega
      replace HO1 := Lib.hid (Own.frm HO1.out hs8 (fun _ _ => id))
      replace HO2 := Lib.hid (Own.frm HO2.out hs8 (fun _ _ => id))
      replace HS4 := Lib.hid (HS4.out.trans hs8 (fun _ _ h => h))
      replace HB10 := Lib.hid (HB10.out.frm hs8 id)
      have HB12 := Lib.hid hB12
      have ca0 : w8.cell? ⟨X10, 0, none⟩ = some (.int .i64 nn) := HB10.out.cell 0
      have ca1 : w8.cell? ⟨X10, 1, none⟩ = some (.slice A1 lo.length C1) := HB10.out.cell 1
      have la := HB10.out.lt
      have cb0 : w8.cell? ⟨X12, 0, none⟩ = some (.int .i64 nn) := hB12.cell 0
      have cb1 : w8.cell? ⟨X12, 1, none⟩ = some (.slice A2 hi.length C2) := hB12.cell 1
      have lb := hB12.lt
      clear hw hX12 hB12 hs8
      refine wp_phS (fun _ => False) [([0, 2], 1), ([], 3), ([4], 5)] (by kernel_rfl) (by kernel_rfl) ?_
      simp only [wpPh, pick, List.map_cons, List.map_nil, List.getD_cons_zero, List.getD_cons_succ]
      repeat (any_goals (first | go_big_quiet_step (fail) | quiet_step (fail)))
      refine wpQuiet_nil ?_
      obtain ⟨wd, hwd⟩ : ∃ z, z = w8.drew := ⟨_, rfl⟩
      have hsd : Same w8 wd := by rw [hwd]; exact (Frm.refl _ _).drew
      rw [← hwd]
      clear hwd ca0 ca1 la cb0 cb1 lb
      refine effStep_plain rfl fun K hK => ?_
      go_simp
      refine (key_any (nn : Int) A1 C1 lo wd ⟨Sl.same (HO1.out.sl ucell_len) hsd, HGL.out⟩ hgl2 hgl3).mono ?_
      rintro e wk ⟨rfl, hs⟩
      have hsk := hsd.trans hs (fun _ _ h => h)
      refine hK _ _ (Lat.mk_ hsk) ?_
      clear hK K hs hsd
      refine wpQuiet_nil ?_
      refine effStep_plain rfl fun K hK => ?_
      go_simp
      refine (key_any (nn : Int) A2 C2 hi wk ⟨Sl.same (HO2.out.sl ucell_len) hsk, HGH.out⟩ hgh2 hgh3).mono ?_
      rintro e w9 ⟨rfl, hs⟩
      have hs9 := hsk.trans hs (fun _ _ h => h)
      refine hK _ _ (Lat.mk_ hs9) ?_
      clear hK K hs hsk
      repeat (any_goals (first | go_big_quiet_step (fail) | quiet_step (fail)))
      refine wpQuiet_nil ?_
      replace HSN3 := Lib.hid (HSN3.out.same (HS4.out.trans hs9 (fun _ _ h => h)))
      replace HRG3 := Lib.hid (ranges_frm HRG3.out (HS4.out.trans hs9 (fun _ _ h => h)) id id)
      replace HS3 := Lib.hid (HS3.out.trans (HS4.out.trans hs9 (fun _ _ h => h)) (fun _ _ h => h))
      replace HO1 := Lib.hid (Own.frm HO1.out hs9 (fun _ _ => id))
      replace HO2 := Lib.hid (Own.frm HO2.out hs9 (fun _ _ => id))
      have hB10 := HB10.out.frm hs9 id
      have hB12 := HB12.out.frm hs9 id
      have ca0 : w9.cell? ⟨X10, 0, none⟩ = some (.int .i64 nn) := hB10.cell 0
      have ca1 : w9.cell? ⟨X10, 1, none⟩ = some (.slice A1 lo.length C1) := hB10.cell 1
      have la := hB10.lt
      have cb0 : w9.cell? ⟨X12, 0, none⟩ = some (.int .i64 nn) := hB12.cell 0
      have cb1 : w9.cell? ⟨X12, 1, none⟩ = some (.slice A2 hi.length C2) := hB12.cell 1
      have lb := hB12.lt
      obtain ⟨S, hS⟩ : ∃ S : Nat → Prop, (fun x => x = bn) = S := ⟨_, rfl⟩
      have hS10 : ¬ S X10 := by rw [← hS]; exact fun h => by omega
      have hS12 : ¬ S X12 := by rw [← hS]; exact fun h => by omega
      have HSS := Lib.hid hS
      clear hS hB10 hB12 HB10 HB12 hs9 HS4 HW
      by_cases heq : lo = hi
      · subst heq
        go_upto_region 10 with fail
        refine wp_phS S [([0, 1, 2, 3, 4, 5], 6), ([], 7)] (by kernel_rfl) (by kernel_rfl) ?_
        simp only [wpPh, pick, List.map_cons, List.map_nil, List.getD_cons_zero, List.getD_cons_succ]
        repeat (any_goals (first | go_big_quiet_step (fail) | quiet_step (fail)))
        refine wpQuiet_nil ?_
        obtain ⟨wd, hwd⟩ : ∃ z, z = w9.drew := ⟨_, rfl⟩
        have hsd : Same w9 wd := by rw [hwd]; exact (Frm.refl _ _).drew
        rw [← hwd]
        clear hwd ca0 ca1 la cb0 cb1 lb
        have hst0 := HSN3.out.same hsd
        refine effStep_plain rfl fun K hK => ?_
        refine Own.mapPut (.tmp 44) (.tmp 45) (.tmp 48) 59 rfl 9 37 KS Try.underlying59 tabR bn m D' rfl hst0.own (by simp [maxLen] <;> omega) (.string (kstr lo)) (.agg #[.int .i64 nn, .slice A1 lo.length C1]) (kl lo) rfl rfl (key_of hgl3) _ _ (tabR_of _ _ _ _) ?_
        intro wa ho hgr
        have hfa : Frm (fun x => x = bn) wd wa := (Frm.refl _ _).grown hgr (fun g hg => .inl (Option.some.inj hg).symm)
        have hst1 := hst0.put (Sl.same (HO1.out.sl ucell_len) hsd) HFL.out ⟨HGL.out, hgl2, hgl3⟩ ho hfa
        have hfs : Frm (fun x => x = bn) w9 wa := ((Frm.refl (fun x => x = bn) w9).trans hsd (fun _ _ h => h.elim)).trans hfa (fun _ _ h => h)
        refine hK _ _ (Lat.mk_ (by rw [← HSS.out]; exact hfs)) ?_
        clear hK K ho hgr
        refine wpQuiet_nil ?_
        refine wpList_plain rfl fun K hK => ?_
        have hwl2 := Sl.turnMap hst0.own hfa ucell_len (Sl.same (HO2.out.sl ucell_len) hsd)
        refine Own.mapPut (.tmp 46) (.tmp 47) (.tmp 49) 59 rfl 9 37 KS Try.underlying59 tabR bn (m + 1) _ rfl hst1.own (by simp [maxLen] <;> omega) (.string (kstr lo)) (.agg #[.int .i64 nn, .slice A2 lo.length C2]) (kl lo) rfl rfl (key_of hgh3) _ _ (tabR_of _ _ _ _) ?_
        intro wb ho hgr
        have hfb : Frm (fun x => x = bn) wa wb := (Frm.refl _ _).grown hgr (fun g hg => .inl (Option.some.inj hg).symm)
        have hst2 := hst1.put hwl2 HFH.out ⟨HGH.out, hgh2, hgh3⟩ ho hfb
        refine hK _ _ ?_
        clear hK K ho hgr
        have hfw : Frm (fun x => x = bn) w9 wb := hfs.trans hfb (fun i hi h => h)
        have HRG5 := Lib.hid (ranges_frm HRG3.out hfw (fun (h : b = bn) => by omega) (fun (h : R = bn) => by omega))
        have HS5 := Lib.hid (HS3.out.trans hfw (fun i hi (h : i = bn) => by omega))
        have HST5 := Lib.hid (hst2.iff (M' := fun y => ∃ x ∈ L, (left (kl x) && !(kl x).sameKey (kl ws)) = false ∧ (y = loT nn v x ∨ y = hiT nn v x)) (fun y => by
          have e1 := HLO.out
          have e2 := HHI.out
          constructor
          · rintro ((⟨x, h1, h2, h3⟩ | h) | h)
            · exact ⟨x, h1, (left_iff (HST.out.good x h1).1 HG.out).2 (.inl h2), h3⟩
            · exact ⟨ws, HWL.out, (left_iff HG.out HG.out).2 (.inr rfl), .inl (h.trans e1)⟩
            · exact ⟨ws, HWL.out, (left_iff HG.out HG.out).2 (.inr rfl), .inr (h.trans e2)⟩
          · rintro ⟨x, h1, h2, h3⟩
            rcases (left_iff (HST.out.good x h1).1 HG.out).1 h2 with h4 | rfl
            · exact .inl (.inl ⟨x, h1, h4, h3⟩)
            · rcases h3 with h3 | h3
              · exact .inl (.inr (h3.trans e1.symm))
              · exact .inr (h3.trans e2.symm)))
        have hcount : (L.filter (fun x => !(left (kl x) && !(kl x).sameKey (kl ws)) && decide (loT nn v x ≠ hiT nn v x))).length = old := by
          have h1 := count_one HND.out HWL.out (p := fun x => !left (kl x)) (p' := fun x => !(left (kl x) && !(kl x).sameKey (kl ws))) (q := fun x => decide (loT nn v x ≠ hiT nn v x)) (by simp [HLK.out]) (by simp [(left_iff (left := left) HG.out HG.out).2 (.inr rfl)]) (fun x hx hne => by
            have : (kl x).sameKey (kl ws) = false := sameKey_ne (fun h => hne (kl_inj (HST.out.good x hx).1 HG.out h))
            simp [this])
          rw [h1, ← HOLD.out, ← HLO.out, ← HHI.out]
          simp 
        have HCNT := Lib.hid hcount
        clear hcount hfa hfb hfw hfs hst0 hst1 hst2 hwl2 hsd
        go_wp2
        go_frame
        go_roundw
        case rel => exact ⟨fun z => left z && !z.sameKey (kl ws), cnt1, _, m + 1 + 1, by rw [HCNT.out] <;> rfl, HRG5.out, HST5.out, by omega, HS5.out⟩
        case measure =>
          rw [HRG5.out.left_eq, HRG.out.left_eq]
          exact hlt
      · have hne : ((kstr lo).toList == (kstr hi).toList) = false := by
          rw [beq_eq_false_iff_ne]
          exact fun h => heq (kstr_inj HGL.out HGH.out (toList_inj h))
        go_upto_region 10 with fail
        refine wp_phS S [([0, 1, 2, 3, 4, 5], 6), ([], 7)] (by kernel_rfl) (by kernel_rfl) ?_
        simp only [wpPh, pick, List.map_cons, List.map_nil, List.getD_cons_zero, List.getD_cons_succ]
        repeat (any_goals (first | go_big_quiet_step (fail) | quiet_step (fail)))
        refine wpQuiet_nil ?_
        obtain ⟨wd, hwd⟩ : ∃ z, z = w9.drew := ⟨_, rfl⟩
        have hsd : Same w9 wd := by rw [hwd]; exact (Frm.refl _ _).drew
        rw [← hwd]
        clear hwd ca0 ca1 la cb0 cb1 lb
        have hst0 := HSN3.out.same hsd
        refine effStep_plain rfl fun K hK => ?_
        refine Own.mapPut (.tmp 44) (.tmp 45) (.tmp 48) 59 rfl 9 37 KS Try.underlying59 tabR bn m D' rfl hst0.own (by simp [maxLen] <;> omega) (.string (kstr lo)) (.agg #[.int .i64 nn, .slice A1 lo.length C1]) (kl lo) rfl rfl (key_of hgl3) _ _ (tabR_of _ _ _ _) ?_
        intro wa ho hgr
        have hfa : Frm (fun x => x = bn) wd wa := (Frm.refl _ _).grown hgr (fun g hg => .inl (Option.some.inj hg).symm)
        have hst1 := hst0.put (Sl.same (HO1.out.sl ucell_len) hsd) HFL.out ⟨HGL.out, hgl2, hgl3⟩ ho hfa
        have hfs : Frm (fun x => x = bn) w9 wa := ((Frm.refl (fun x => x = bn) w9).trans hsd (fun _ _ h => h.elim)).trans hfa (fun _ _ h => h)
        refine hK _ _ (Lat.mk_ (by rw [← HSS.out]; exact hfs)) ?_
        clear hK K ho hgr
        refine wpQuiet_nil ?_
        refine wpList_plain rfl fun K hK => ?_
        have hwl2 := Sl.turnMap hst0.own hfa ucell_len (Sl.same (HO2.out.sl ucell_len) hsd)
        refine Own.mapPut (.tmp 46) (.tmp 47) (.tmp 49) 59 rfl 9 37 KS Try.underlying59 tabR bn (m + 1) _ rfl hst1.own (by simp [maxLen] <;> omega) (.string (kstr hi)) (.agg #[.int .i64 nn, .slice A2 hi.length C2]) (kl hi) rfl rfl (key_of hgh3) _ _ (tabR_of _ _ _ _) ?_
        intro wb ho hgr
        have hfb : Frm (fun x => x = bn) wa wb := (Frm.refl _ _).grown hgr (fun g hg => .inl (Option.some.inj hg).symm)
        have hst2 := hst1.put hwl2 HFH.out ⟨HGH.out, hgh2, hgh3⟩ ho hfb
        refine hK _ _ ?_
        clear hK K ho hgr
        have hfw : Frm (fun x => x = bn) w9 wb := hfs.trans hfb (fun i hi h => h)
        have HRG5 := Lib.hid (ranges_frm HRG3.out hfw (fun (h : b = bn) => by omega) (fun (h : R = bn) => by omega))
        have HS5 := Lib.hid (HS3.out.trans hfw (fun i hi (h : i = bn) => by omega))
        have HST5 := Lib.hid (hst2.iff (M' := fun y => ∃ x ∈ L, (left (kl x) && !(kl x).sameKey (kl ws)) = false ∧ (y = loT nn v x ∨ y = hiT nn v x)) (fun y => by
          have e1 := HLO.out
          have e2 := HHI.out
          constructor
          · rintro ((⟨x, h1, h2, h3⟩ | h) | h)
            · exact ⟨x, h1, (left_iff (HST.out.good x h1).1 HG.out).2 (.inl h2), h3⟩
            · exact ⟨ws, HWL.out, (left_iff HG.out HG.out).2 (.inr rfl), .inl (h.trans e1)⟩
            · exact ⟨ws, HWL.out, (left_iff HG.out HG.out).2 (.inr rfl), .inr (h.trans e2)⟩
          · rintro ⟨x, h1, h2, h3⟩
            rcases (left_iff (HST.out.good x h1).1 HG.out).1 h2 with h4 | rfl
            · exact .inl (.inl ⟨x, h1, h4, h3⟩)
            · rcases h3 with h3 | h3
              · exact .inl (.inr (h3.trans e1.symm))
              · exact .inr (h3.trans e2.symm)))
        have hcount : (L.filter (fun x => !(left (kl x) && !(kl x).sameKey (kl ws)) && decide (loT nn v x ≠ hiT nn v x))).length = old + 1 := by
          have h1 := count_one HND.out HWL.out (p := fun x => !left (kl x)) (p' := fun x => !(left (kl x) && !(kl x).sameKey (kl ws))) (q := fun x => decide (loT nn v x ≠ hiT nn v x)) (by simp [HLK.out]) (by simp [(left_iff (left := left) HG.out HG.out).2 (.inr rfl)]) (fun x hx hne => by
            have : (kl x).sameKey (kl ws) = false := sameKey_ne (fun h => hne (kl_inj (HST.out.good x hx).1 HG.out h))
            simp [this])
          rw [h1, ← HOLD.out, ← HLO.out, ← HHI.out]
          simp [heq]
        have HCNT := Lib.hid hcount
        clear hcount hfa hfb hfw hfs hst0 hst1 hst2 hwl2 hsd
        go_wp2
        go_frame
        go_roundw
        case rel => exact ⟨fun z => left z && !z.sameKey (kl ws), cnt1, _, m + 1 + 1, by rw [HCNT.out] <;> rfl, HRG5.out, HST5.out, by omega, HS5.out⟩
        case measure =>
          rw [HRG5.out.left_eq, HRG.out.left_eq]
          exact hlt
end Go.Proofs.Ytakepdkokjecoaa


/- Permutations: Check and both of the program; place, DocCheck and worse of the reference. -/
namespace Go.Proofs.Ytakepdkokjecoaa
open Go.RowKit Go.Tk

theorem info_int : (Try.prog.info? 3).map (fun i => (i.zero, i.size, i.bytes)) = some (some (.int .i64 0), 1, 8) := by kernel_rfl

/-- which numbers stand among the first k -/
def seenL (xs : List Int) (k n : Nat) : List Bool := (List.range n).map fun j : Nat => decide ((j : Int) ∈ xs.take k)
theorem seenL_len (xs : List Int) (k n : Nat) : (seenL xs k n).length = n := by simp [seenL]
theorem seenL_get (xs : List Int) (k : Nat) {n j : Nat} (h : j < n) : (seenL xs k n)[j]? = some (decide ((j : Int) ∈ xs.take k)) := by simp [seenL, h]
theorem seenL_zero (xs : List Int) (n : Nat) : seenL xs 0 n = List.replicate n false := by
  apply List.ext_getElem?
  intro j
  rcases Nat.lt_or_ge j n with h | h
  · rw [seenL_get xs 0 h]; simp [h]
  · rw [List.getElem?_eq_none (by rw [seenL_len]; exact h), List.getElem?_eq_none (by simpa using h)]
theorem take_snoc {α : Type} {xs : List α} {k : Nat} {x : α} (h : xs[k]? = some x) : xs.take (k + 1) = xs.take k ++ [x] := by
  have hl := lt_of_get h
  rw [List.getElem?_eq_getElem hl] at h
  injection h with h
  rw [List.take_succ_eq_append_getElem hl, h]
theorem seenL_set {xs : List Int} {k n : Nat} {x : Nat} (h : xs[k]? = some (x : Int)) (hx : x < n) : (seenL xs k n).set x true = seenL xs (k + 1) n := by
  apply List.ext_getElem?
  intro j
  rcases Nat.lt_or_ge j n with hj | hj
  · rw [seenL_get xs (k + 1) hj, List.getElem?_set, seenL_len, seenL_get xs k hj, take_snoc h]
    split
    · rename_i he; subst he; simp
    · rename_i hne
      congr 1
      have : ¬ ((j : Int) = (x : Int)) := by omega
      simp [this]
  · rw [List.getElem?_eq_none (by simp [seenL_len, hj]), List.getElem?_eq_none (by rw [seenL_len]; exact hj)]
/-- the first k things are in order -/
def Good (xs : List Int) (k : Nat) : Prop := (∀ x, x ∈ xs.take k → 0 ≤ x ∧ x < xs.length) ∧ (xs.take k).Nodup
theorem Good.next {xs : List Int} {k : Nat} {x : Int} (h : Good xs k) (hx : xs[k]? = some x) (h0 : 0 ≤ x) (h1 : x < xs.length) (hn : x ∉ xs.take k) : Good xs (k + 1) := by
  unfold Good
  rw [take_snoc hx]
  refine ⟨fun y hy => ?_, ?_⟩
  · rcases List.mem_append.1 hy with hy | hy
    · exact h.1 y hy
    · simp at hy; subst hy; exact ⟨h0, h1⟩
  · rw [List.nodup_append]
    exact ⟨h.2, by simp, fun a ha b hb => by simp at hb; subst hb; rintro rfl; exact hn ha⟩
theorem not_perm_range {xs : List Int} {k : Nat} {x : Int} (hx : xs[k]? = some x) (h : x < 0 ∨ (xs.length : Int) ≤ x) : chk xs = 4 := by
  unfold chk
  rw [if_neg]
  rintro ⟨h1, _⟩
  have := h1 x (List.mem_of_getElem? hx)
  omega
theorem not_perm_dup {xs : List Int} {k : Nat} {x : Int} (hx : xs[k]? = some x) (h : x ∈ xs.take k) : chk xs = 4 := by
  unfold chk
  rw [if_neg]
  rintro ⟨_, h2⟩
  have h3 : (xs.take (k + 1)).Nodup := h2.sublist (List.take_sublist _ _)
  rw [take_snoc hx, List.nodup_append] at h3
  exact h3.2.2 x h x (by simp) rfl
theorem good_all {xs : List Int} (h : Good xs xs.length) : IsPerm xs := by
  unfold Good at h
  rw [List.take_length] at h
  exact h

set_option maxHeartbeats 1000000 in
theorem check_any (A : Option Addr) (n C : Nat) (xs : List Int) (w : World) (h : IL w A n xs) (hr : n * 8 ≤ 140737488351232) :
    Calls Try.prog 26 #[.slice A n C] w fun e w' => e = .returned (.int .i64 (chk xs)) ∧ Same w w' := by
  obtain rfl := h.len
  have hmk := fun w => run_make_n (P := Try.prog) Try.underlying53 info_bool .i64 .i64 xs.length (show 1 * xs.length ≤ 281474976710656 by omega) (show xs.length ≤ 9223372036854775807 by omega) w
  have hs1 : ∀ cs, Same w (w.alloc (.cells cs 4)) := fun cs => (Frm.refl _ _).alloc _
  have hO := Own.ofMade (m := 1) w 4 (fun b : Bool => [.bool b]) (fun _ => rfl) (by decide) false xs.length (show xs.length ≤ 9223372036854775807 by omega) rfl
  rw [← seenL_zero xs] at hO
  have H := Lib.hid h
  have HO := Lib.hid hO
  clear h hO
  go_enter Try.func26, Try.ntmps26
  go_wp2
  go_loopw [11] (fun i wr => ∃ k : Nat, k ≤ xs.length ∧ i = .int .i64 k ∧ Good xs k ∧ Same w wr ∧ Row1 wr 4 (fun b : Bool => .bool b) (some ⟨w.heap.size, 0, none⟩) xs.length xs.length (seenL xs k xs.length)) (fun i _ => xs.length - (intOf i).toNat)
  case atStart => exact ⟨0, by omega, rfl, ⟨by simp, by simp⟩, hs1 _, by simpa using HO.out⟩
  case round =>
    obtain ⟨k, hk, rfl, hg, hs, ho⟩ := hrel
    clear hmk hs1 HO
    by_cases hlt : k < xs.length
    · obtain ⟨x, hx⟩ : ∃ x, xs[k]? = some x := ⟨_, List.getElem?_eq_getElem hlt⟩
      obtain ⟨b, off, rfl, hb, hc⟩ := (H.out.same hs).at1 hx
      have hi0 : (0 : Int) ≤ k := by omega
      have hi1 : (k : Int) < xs.length := by omega
      have HG := Lib.hid hg
      have HX := Lib.hid hx
      have HS := Lib.hid hs
      have HR := Lib.hid ho
      clear hg hx hs ho
      by_cases h0 : x < 0
      · go_wp2
        go_ret
        exact ⟨ret_int (not_perm_range HX.out (.inl h0)).symm, HS.out⟩
      · by_cases h1 : x ≥ xs.length
        · go_wp2
          go_ret
          exact ⟨ret_int (not_perm_range HX.out (.inr h1)).symm, HS.out⟩
        · obtain ⟨y, rfl⟩ := Int.eq_ofNat_of_zero_le (show 0 ≤ x by omega)
          have hyl : y < xs.length := by omega
          have hg := seenL_get xs k hyl
          obtain ⟨sb, hsb, hsl, hsc⟩ := HR.out.at1 hg
          injection hsb with hsb
          injection hsb with hsb
          subst hsb
          have hfr := Own.free HR.out y
          clear hg
          by_cases hd : (y : Int) ∈ xs.take k
          · have hd' : decide ((y : Int) ∈ xs.take k) = true := by simpa using hd
            rw [hd'] at hsc
            have HD := Lib.hid hd
            clear hd hd'
            go_wp2
            go_ret
            exact ⟨ret_int (not_perm_dup HX.out HD.out).symm, HS.out⟩
          · have hd' : decide ((y : Int) ∈ xs.take k) = false := by simpa using hd
            rw [hd'] at hsc
            have HD := Lib.hid hd
            clear hd hd'
            have hst := Own.put1 HR.out (i := y) (by rw [seenL_len]; exact hyl) true
            rw [seenL_set HX.out hyl] at hst
            have HST := Lib.hid hst
            clear hst
            go_wp2
            go_roundw
            case rel => exact ⟨k + 1, by omega, by go_num, HG.out.next HX.out (by omega) (by omega) HD.out, HS.out.setNew _ _ (Nat.le_refl _), HST.out⟩
            case measure => simp [intOf] <;> omega
    · obtain rfl : k = xs.length := by omega
      have HG := Lib.hid (good_all hg)
      clear hg ho
      by_cases h64 : 64 < xs.length
      · have h64' : (xs.length : Int) > 64 := by omega
        go_wp2
        go_ret
        exact ⟨ret_int (by unfold chk; rw [if_pos HG.out, if_pos h64]), hs⟩
      · have h64' : ¬ (xs.length : Int) > 64 := by omega
        go_wp2
        go_ret
        exact ⟨ret_int (by unfold chk; rw [if_pos HG.out, if_neg h64]), hs⟩
end Go.Proofs.Ytakepdkokjecoaa


/- Permutations: lists that are answered; place, slices.Index, DocCheck, worse, slices.Clone. -/
namespace Go.Tk
open Go.RowKit
theorem Frm.same_app {w0 w wa wb : World} {A : Option Addr} {N C : Nat} (h : Frm (fun _ => False) w0 w) (ha : Frm (fun _ => False) w wa) (hg : wa.grownBy wb (Value.slice A N C).ownBlock) (hA : Fresh w0.heap.size A) : Frm (fun _ => False) w0 wb :=
  (h.trans ha (fun _ _ h => h)).grown hg (fun g hg => .inr (hA g (ownBlock_row.1 hg)))
theorem Same.app {w0 w wa wb : World} {A : Option Addr} {N C : Nat} (h : Same w0 w) (ha : Same w wa) (hg : wa.grownBy wb (Value.slice A N C).ownBlock) (hA : Fresh w0.heap.size A) : Same w0 wb := Frm.same_app h ha hg hA
theorem fresh_app {w0 w wa : World} {A : Option Addr} {N C g : Nat} (h : Same w0 w) (ha : Same w wa) (hA : Fresh w0.heap.size A) (hat : (Value.slice A N C).ownBlock = some g ∨ g = wa.heap.size) : Fresh w0.heap.size (some ⟨g, 0, none⟩) := by
  refine fresh_some ?_
  have := h.size
  have := ha.size
  rcases hat with h | h
  · exact hA g (ownBlock_row.1 h)
  · omega
theorem IL.src {w : World} {A : Option Addr} {n : Nat} {xs : List Int} (h : IL w A n xs) (hne : xs ≠ []) : ∃ ad, A = some ad ∧ ∀ j u, (xs.flatMap icell)[j]? = some u → w.cell? (ad.add j) = some u := by
  have h0 : 0 < xs.length := List.length_pos_iff.2 hne
  obtain ⟨b, off, rfl, _, _⟩ := h.at1 (List.getElem?_eq_getElem h0)
  refine ⟨_, rfl, fun j u hj => ?_⟩
  have hfl : ∀ l : List Int, l.flatMap icell = l.map (fun x => Value.int .i64 x) := by
    intro l
    induction l with
    | nil => rfl
    | cons x l ih => rw [List.flatMap_cons, ih]; rfl
  rw [hfl, List.getElem?_map] at hj
  cases hx : xs[j]? with
  | none => rw [hx] at hj; cases hj
  | some x =>
    rw [hx] at hj
    simp at hj
    subst hj
    obtain ⟨b', off', h1, _, h3⟩ := h.at1 hx
    injection h1 with h1
    injection h1 with h1 h2
    subst h1 h2
    have : (⟨b, off, none⟩ : Addr).add j = ⟨b, off + j, none⟩ := by unfold Addr.add; split <;> simp_all
    rw [this]
    exact h3
theorem IL.nil {w : World} {n : Nat} {xs : List Int} (h : IL w none n xs) : xs = [] := by
  cases xs with
  | nil => rfl
  | cons x xs =>
    obtain ⟨b, off, h1, _⟩ := h.at1 (i := 0) (x := x) rfl
    cases h1
end Go.Tk
namespace Go.Proofs.Ytakepdkokjecoaa
open Go.RowKit Go.Tk

/-- a list of the call's own -/
def NewL (w : World) (ys : List Int) (A : Option Addr) (C : Nat) (w' : World) : Prop := OwnI w' 3 A ys.length C ys ∧ Fresh w.heap.size A ∧ Same w w'
def RetL (w : World) (ys : List Int) (e : Ending) (w' : World) : Prop := ∃ A C, e = .returned (.slice A ys.length C) ∧ NewL w ys A C w'
def RetE (w : World) (ys : List Int) (err : Int) (e : Ending) (w' : World) : Prop := ∃ A C, e = .returned (.tuple #[.slice A ys.length C, .int .i64 err]) ∧ NewL w ys A C w'
theorem NewL.nil (w : World) : NewL w [] none 0 w := ⟨Own.nil _ _ _ _, fresh_none _, Frm.refl _ _⟩
theorem NewL.nil' {w w' : World} (h : Same w w') : NewL w [] none 0 w' := ⟨Own.nil _ _ _ _, fresh_none _, h⟩

/-- 0 .. k-1, then noughts -/
def idL (n k : Nat) : List Int := (List.range n).map fun j : Nat => if j < k then (j : Int) else 0
theorem idL_len (n k : Nat) : (idL n k).length = n := by simp [idL]
theorem idL_zero (n : Nat) : idL n 0 = List.replicate n 0 := by
  apply List.ext_getElem?
  intro j
  rcases Nat.lt_or_ge j n with h | h
  · simp [idL, h]
  · rw [List.getElem?_eq_none (by rw [idL_len]; exact h), List.getElem?_eq_none (by simpa using h)]
theorem idL_full (n : Nat) : idL n n = rng n := by
  apply List.ext_getElem?
  intro j
  rcases Nat.lt_or_ge j n with h | h
  · rw [rng_get h]; simp [idL, h]
  · rw [List.getElem?_eq_none (by rw [idL_len]; exact h), List.getElem?_eq_none (by rw [rng_len]; exact h)]
theorem idL_set {n k : Nat} (_h : k < n) : (idL n k).set k (k : Int) = idL n (k + 1) := by
  apply List.ext_getElem?
  intro j
  rcases Nat.lt_or_ge j n with hj | hj
  · rw [List.getElem?_set, idL_len]
    simp only [idL, List.getElem?_map, List.getElem?_range hj, Option.map_some]
    split
    · rename_i he; subst he; simp
    · rename_i he
      congr 1
      by_cases h : j < k
      · rw [if_pos h, if_pos (by omega)]
      · rw [if_neg h, if_neg (by omega)]
  · rw [List.getElem?_eq_none (by simp [idL_len, hj]), List.getElem?_eq_none (by rw [idL_len]; exact hj)]

end Go.Proofs.Ytakepdkokjecoaa


/- Shape: check, Profile, Size, Level. -/
namespace Go.Proofs.Ytakepdkokjecoaa
open Go.RowKit Go.Tk Go.Maps

set_option maxHeartbeats 2000000 in
theorem scheck_any (AL : Option Addr) (n C : Nat) (ts : List Tb) (w : World) (h : Sl w 2 Tb.cells AL n ts) (hn1 : n ≤ 1000000000000000000) (hok : ∀ t ∈ ts, TbOk w t) :
    Calls Try.prog 25 #[.slice AL n C] w fun e w' => e = .returned (.bool (fm ts)) ∧ Same w w' := by
  have hn := h.len
  have H := Lib.hid h
  have HOK := Lib.hid hok
  obtain ⟨r, hr⟩ : ∃ r, fm ts = r := ⟨_, rfl⟩
  rw [hr]
  have HR := Lib.hid hr
  have HN := Lib.hid hn
  clear h hok hr hn
  go_enter Try.func25, Try.ntmps25
  go_wp2
  go_loopw [7] (fun i wr => ∃ k : Nat, k ≤ n ∧ i = .int .i64 k ∧ (∀ j t, ts[j]? = some t → j < k → t.frm = true ∧ t.N = (ts.getD 0 ⟨0, none, 0, []⟩).N) ∧ Same w wr) (fun i _ => n - (intOf i).toNat)
  case atStart => exact ⟨0, by omega, rfl, fun j t _ h => by omega, Frm.refl _ _⟩
  case round =>
    obtain ⟨k, hk, rfl, hall, hs⟩ := hrel
    have HALL := Lib.hid hall
    have HS := Lib.hid hs
    by_cases hlt : k < n
    · have hi1 : (k : Int) < n := by omega
      have hi0 : (0 : Int) ≤ k := by omega
      have hn0 : (0 : Int) < n := by omega
      obtain ⟨t, ht⟩ : ∃ t, ts[k]? = some t := ⟨_, List.getElem?_eq_getElem (by rw [← HN.out]; exact hlt)⟩
      obtain ⟨t0, ht0⟩ : ∃ t, ts[0]? = some t := ⟨_, List.getElem?_eq_getElem (by rw [← HN.out]; omega)⟩
      have hd0 : ts.getD 0 ⟨0, none, 0, []⟩ = t0 := by rw [List.getD_eq_getElem?_getD, ht0]; rfl
      obtain ⟨g, o, hA, hg, hc⟩ := (Sl.same H.out hs).get k t ht
      have hc0 : wr.cell? ⟨g, o + k * 2, none⟩ = some (.int .i64 t.N) := hc 0 (by omega)
      have hc1 : wr.cell? ⟨g, o + k * 2 + 1, none⟩ = some (.slice t.A t.ws.length t.C) := hc 1 (by omega)
      obtain ⟨g', o', hA', _, hz⟩ := (Sl.same H.out hs).get 0 t0 ht0
      rw [hA] at hA'
      injection hA' with hA'
      injection hA' with hA1 hA2
      subst hA1 hA2
      have hz0 : wr.cell? ⟨g, o, none⟩ = some (.int .i64 t0.N) := by simpa [Tb.cells] using hz 0 (by omega)
      subst hA
      clear hc hz
      have htok := HOK.out t (List.mem_of_getElem? ht)
      have hne : g ≠ wr.heap.size := by omega
      have HT := Lib.hid ht
      have HD0 := Lib.hid hd0
      clear ht ht0 hd0 hall hs
      obtain ⟨tN, tA, tC, tws⟩ := t
      obtain ⟨zN, zA, zC, zws⟩ := t0
      simp only at hc0 hc1 hz0
      have HTOK := Lib.hid htok
      clear htok
      have hbx : ∃ b, (Tb.mk tN tA tC tws).frm = b := ⟨_, rfl⟩
      obtain ⟨bb, hbb⟩ := hbx
      go_upto_region 4 with fail
      refine wp_world fun wa hwa => ?_
      have hsa : Same wr wa := by rw [hwa]; exact (Frm.refl _ _).alloc _
      have hB := Blk.new wr 37 #[.int .i64 tN, .slice tA tws.length tC]
      rw [← hwa] at hB
      have hb0 : wa.cell? ⟨wr.heap.size, 0, none⟩ = some (.int .i64 tN) := hB.cell 0
      have hb1 : wa.cell? ⟨wr.heap.size, 1, none⟩ = some (.slice tA tws.length tC) := hB.cell 1
      have hbl := hB.lt
      have hza : wa.cell? ⟨g, o, none⟩ = some (.int .i64 zN) := (hsa.cell (p := ⟨g, o, none⟩) hg id).trans hz0
      have hga : g < wa.heap.size := by omega
      have hfc : ∀ w', Same wa w' → Calls Try.prog 36 #[.agg #[.int .i64 tN, .slice tA tws.length tC]] w' fun e w'' => e = .returned (.bool bb) ∧ Same w' w'' := fun w' hs' => by
        have := HTOK.out.form ((HS.out.trans hsa (fun _ _ h => h)).trans hs' (fun _ _ h => h))
        rw [hbb] at this
        exact this
      have HFC := Lib.hid hfc
      have HSA := Lib.hid (HS.out.trans hsa (fun _ _ h => h))
      have HBB := Lib.hid hbb
      clear hwa hsa hB hc0 hc1 hz0 hg hfc HTOK hbb
      cases bb with
      | false =>
        have hf : r = false := by
          rw [← HR.out]
          unfold fm
          rw [List.all_eq_false]
          exact ⟨_, List.mem_of_getElem? HT.out, by simp [HBB.out]⟩
        subst hf
        refine wp_quiet (by kernel_rfl) (by kernel_rfl) ?_
        repeat (any_goals (first | go_big_quiet_step ((go_at_call 36; exact quiet_call (HFC.out _ (more_same _ _)))) | quiet_step ((go_at_call 36; exact quiet_call (HFC.out _ (more_same _ _))))))
        refine wpQuiet_nil ?_
        rintro _ ⟨q, rfl⟩
        go_wp2
        go_ret
        exact ⟨rfl, HSA.out.trans (more_same _ q) (fun _ _ h => h)⟩
      | true =>
        by_cases hNN : tN = zN
        · subst hNN
          refine wp_quiet (by kernel_rfl) (by kernel_rfl) ?_
          repeat (any_goals (first | go_big_quiet_step ((go_at_call 36; exact quiet_call (HFC.out _ (more_same _ _)))) | quiet_step ((go_at_call 36; exact quiet_call (HFC.out _ (more_same _ _))))))
          refine wpQuiet_nil ?_
          rintro _ ⟨q, rfl⟩
          go_wp2
          go_roundw
          case rel => exact ⟨k + 1, by omega, by go_num, fun j t hj hjk => by
            by_cases hjk2 : j < k
            · exact HALL.out j t hj hjk2
            · obtain rfl : j = k := by omega
              obtain rfl := Option.some.inj (hj.symm.trans HT.out)
              exact ⟨HBB.out, by rw [HD0.out]⟩, HSA.out.trans (more_same _ q) (fun _ _ h => h)⟩
          case measure => simp [intOf] <;> omega
        · have hne2 : (tN != zN) = true := by simpa using hNN
          have hf : r = false := by
            rw [← HR.out]
            unfold fm
            rw [List.all_eq_false]
            exact ⟨_, List.mem_of_getElem? HT.out, by rw [HD0.out]; simp [hNN]⟩
          subst hf
          clear hNN
          refine wp_quiet (by kernel_rfl) (by kernel_rfl) ?_
          repeat (any_goals (first | go_big_quiet_step ((go_at_call 36; exact quiet_call (HFC.out _ (more_same _ _)))) | quiet_step ((go_at_call 36; exact quiet_call (HFC.out _ (more_same _ _))))))
          refine wpQuiet_nil ?_
          rintro _ ⟨q, rfl⟩
          go_wp2
          go_ret
          exact ⟨rfl, HSA.out.trans (more_same _ q) (fun _ _ h => h)⟩
    · obtain rfl : k = n := by omega
      have hf : r = true := by
        rw [← HR.out]
        unfold fm
        rw [List.all_eq_true]
        intro t ht
        obtain ⟨j, hj⟩ := List.getElem?_of_mem ht
        have := HALL.out j t hj (by rw [HN.out]; exact lt_of_get hj)
        simp [this]
      subst hf
      clear hall hs HALL
      go_wp2
      go_ret
      exact ⟨rfl, HS.out⟩

/-- each once -/
def uniq : List (List Nat) → List (List Nat)
  | [] => []
  | x :: xs => if x ∈ uniq xs then uniq xs else x :: uniq xs
theorem mem_uniq {y : List Nat} : ∀ {xs : List (List Nat)}, y ∈ uniq xs ↔ y ∈ xs
  | [] => Iff.rfl
  | x :: xs => by
    have ih := mem_uniq (y := y) (xs := xs)
    unfold uniq
    split
    · rename_i hx
      rw [ih, List.mem_cons]
      constructor
      · exact .inr
      · rintro (rfl | h)
        · exact mem_uniq.1 hx
        · exact h
    · rw [List.mem_cons, List.mem_cons, ih]
theorem uniq_nodup : ∀ xs : List (List Nat), (uniq xs).Nodup
  | [] => List.nodup_nil
  | x :: xs => by
    unfold uniq
    split
    · exact uniq_nodup xs
    · rename_i hx
      exact List.nodup_cons.2 ⟨hx, uniq_nodup xs⟩
theorem uniq_len : ∀ xs : List (List Nat), (uniq xs).length ≤ xs.length
  | [] => Nat.le_refl _
  | x :: xs => by
    have := uniq_len xs
    unfold uniq
    split
    · rw [List.length_cons]; omega
    · rw [List.length_cons, List.length_cons]; omega
def stepS (nn v : Nat) (L : List (List Nat)) : List (List Nat) := uniq (L.map (loT nn v) ++ L.map (hiT nn v))
theorem stepS_mem {nn v : Nat} {L : List (List Nat)} {y : List Nat} : y ∈ stepS nn v L ↔ ∃ x ∈ L, y = loT nn v x ∨ y = hiT nn v x := by
  unfold stepS
  rw [mem_uniq, List.mem_append, List.mem_map, List.mem_map]
  constructor
  · rintro (⟨x, h, rfl⟩ | ⟨x, h, rfl⟩)
    · exact ⟨x, h, .inl rfl⟩
    · exact ⟨x, h, .inr rfl⟩
  · rintro ⟨x, h, rfl | rfl⟩
    · exact .inl ⟨x, h, rfl⟩
    · exact .inr ⟨x, h, rfl⟩
theorem stepS_len (nn v : Nat) (L : List (List Nat)) : (stepS nn v L).length ≤ 2 * L.length := by
  have := uniq_len (L.map (loT nn v) ++ L.map (hiT nn v))
  rw [List.length_append, List.length_map, List.length_map] at this
  unfold stepS
  omega
def setAt (nn : Nat) (L : List (List Nat)) (vs : List Nat) : List (List Nat) := vs.foldl (fun L v => stepS nn v L) L
theorem setAt_snoc (nn : Nat) (L : List (List Nat)) (vs : List Nat) (v : Nat) : setAt nn L (vs ++ [v]) = stepS nn v (setAt nn L vs) := by simp [setAt]
theorem setAt_len (nn : Nat) : ∀ (vs : List Nat) (L : List (List Nat)), (setAt nn L vs).length ≤ 2 ^ vs.length * L.length
  | [], L => by simp [setAt]
  | v :: vs, L => by
    have h := setAt_len nn vs (stepS nn v L)
    have h2 := stepS_len nn v L
    have h3 : 2 ^ vs.length * (stepS nn v L).length ≤ 2 ^ vs.length * (2 * L.length) := Nat.mul_le_mul_left _ h2
    rw [List.length_cons, Nat.pow_succ, Nat.mul_assoc]
    exact Nat.le_trans h h3
theorem setAt_nodup {nn : Nat} : ∀ (vs : List Nat) {L : List (List Nat)}, L.Nodup → (setAt nn L vs).Nodup
  | [], _, h => h
  | _ :: vs, _, _ => setAt_nodup vs (uniq_nodup _)
theorem setAt_form {nn : Nat} (h16 : nn ≤ 16) : ∀ (vs : List Nat) {L : List (List Nat)}, (∀ x ∈ L, FormN nn x) → ∀ x ∈ setAt nn L vs, FormN nn x
  | [], _, h => h
  | _ :: vs, _, h => setAt_form h16 vs fun x hx => by
    obtain ⟨y, _, rfl | rfl⟩ := stepS_mem.1 hx
    · exact tab_form h16
    · exact tab_form h16
/-- the levels' numbers; a set stays while a row of other cells grows -/
theorem ST.grownI {lo : Nat} {w w' : World} {b n : Nat} {D : DataW Value} {N : Int} {M : List Nat → Prop} {A : Option Addr} {k C : Nat} {ys : List Int} (h : ST lo w b n D N M) (ho : OwnI w 3 A k C ys) (hl : ∀ x, rowOf A x → x < lo) (hg : w.grownBy w' (Value.slice A k C).ownBlock) : ST lo w' b n D N M := by
  refine ⟨h.own.kept hg (fun he => ?_), h.dom, h.cod, fun ws hw => ?_, h.good⟩
  · have hr := ownBlock_row.1 he.symm
    rcases ho.own.2 with ⟨h0, _⟩ | ⟨g, cap, cur, h1, _, h2, _⟩
    · injection h0 with h0
      subst h0
      obtain ⟨a, ha, _⟩ := hr
      cases ha
    · injection h1 with h1
      subst h1
      obtain ⟨a, ha, hb⟩ := hr
      injection ha with ha
      subst ha
      obtain ⟨es, clock, h3, _⟩ := h.own
      simp only at hb
      rw [← hb, h2] at h3
      cases h3
  · obtain ⟨A1, C1, h1, h2, h3⟩ := h.val ws hw
    refine ⟨A1, C1, h1, ⟨h2.len, fun i x hi => ?_⟩, h3⟩
    obtain ⟨b0, off, e1, e2, e3⟩ := h2.get i x hi
    refine ⟨b0, off, e1, Nat.lt_of_lt_of_le e2 hg.size, fun j hj => ?_⟩
    rw [← e3 j hj]
    have hb : w'.heap[b0]? = w.heap[b0]? := hg.block b0 e2 (fun he => by
      have h4 := hl b0 (ownBlock_row.1 he.symm)
      have h5 := h3 b0 ⟨_, e1, rfl⟩
      omega)
    unfold World.cell?
    rw [hb]
def proL (nn : Nat) (L : List (List Nat)) (vs : List Nat) (k : Nat) : List Int := (List.range k).map fun i => ((cntL nn (vs.getD i 0) (setAt nn L (vs.take i)) : Nat) : Int)
theorem proL_succ (nn : Nat) (L : List (List Nat)) (vs : List Nat) (k : Nat) : proL nn L vs (k + 1) = proL nn L vs k ++ [((cntL nn (vs.getD k 0) (setAt nn L (vs.take k)) : Nat) : Int)] := by simp [proL, List.range_succ]
theorem proL_len (nn : Nat) (L : List (List Nat)) (vs : List Nat) (k : Nat) : (proL nn L vs k).length = k := by simp [proL]
def tN0 (xs : List Tb) : Int := (xs.getD 0 ⟨0, none, 0, []⟩).N
def tSet (xs : List Tb) : List (List Nat) := uniq (xs.map Tb.ws)
def prE (xs : List Tb) (os : List Int) : Int := if fm xs then (if (0 < xs.length ∧ (os.length : Int) ≠ tN0 xs) ∨ chk os = 4 then 4 else if 16 < os.length then 6 else 0) else 5
def prL (xs : List Tb) (os : List Int) : List Int := if prE xs os = 0 then proL os.length (tSet xs) (os.map Int.toNat) os.length else []
theorem fm_all {xs : List Tb} (h : fm xs = true) : ∀ t ∈ xs, frm t.N t.ws = true ∧ t.N = tN0 xs := fun t ht => by
  have := (List.all_eq_true.1 h) t ht
  simp only [Bool.and_eq_true, beq_iff_eq] at this
  exact this
theorem tSet_form {xs : List Tb} {nn : Nat} (h : fm xs = true) (hn : xs ≠ [] → tN0 xs = nn) : ∀ ws ∈ tSet xs, FormN nn ws := fun ws hw => by
  have := mem_uniq.1 hw
  obtain ⟨t, ht, rfl⟩ := List.mem_map.1 this
  obtain ⟨h1, h2⟩ := fm_all h t ht
  rw [h2, hn (by rintro rfl; cases ht)] at h1
  exact frm_nat.1 h1
theorem form_len {nn : Nat} {ws : List Nat} (h : FormN nn ws) (h16 : nn ≤ 16) : 0 < ws.length ∧ ws.length ≤ 1024 := by
  have h1 := h.len
  have := nw_le h16
  have h2 : 0 < nw nn := by
    unfold nw
    split
    · omega
    · exact Nat.two_pow_pos _
  omega
theorem tSet_len (xs : List Tb) : (tSet xs).length ≤ xs.length := by
  have := uniq_len (xs.map Tb.ws)
  rw [List.length_map] at this
  exact this
set_option maxRecDepth 100000 in
set_option maxHeartbeats 16000000 in
theorem profile_any (AL : Option Addr) (n C : Nat) (xs : List Tb) (Ao : Option Addr) (Lo Co : Nat) (os : List Int) (w : World) (h : Sl w 2 Tb.cells AL n xs) (hok : ∀ t ∈ xs, TbOk w t) (hn : n ≤ 8796093022210) (ho : IL w Ao Lo os) (hLo : Lo * 8 ≤ 140737488351232) :
    Calls Try.prog 11 #[.slice AL n C, .slice Ao Lo Co] w (RetE w (prL xs os) (prE xs os)) := by
  obtain rfl := ho.len
  have H := Lib.hid h
  have HOK := Lib.hid hok
  have HO := Lib.hid ho
  have hxl := h.len
  have HXL := Lib.hid hxl
  clear h hok ho hxl
  obtain ⟨r, hr⟩ : ∃ r, fm xs = r := ⟨_, rfl⟩
  go_enter Try.func11, Try.ntmps11
  go_wp2_with (fail)
  refine (scheck_any AL n C xs w H.out (by omega) HOK.out).mono ?_
  rintro e w1 ⟨rfl, hs⟩
  rw [hr]
  have HS := Lib.hid hs
  clear hs
  cases r with
  | false =>
    have HPE := Lib.hid (show prE xs os = 5 by unfold prE; rw [hr]; rfl)
    have HPL := Lib.hid (show prL xs os = [] by unfold prL; rw [HPE.out]; rfl)
    clear hr
    go_wp2
    go_ret2
    exact ⟨none, 0, by rw [HPL.out, HPE.out]; rfl, by rw [HPL.out]; exact NewL.nil' HS.out⟩
  | true =>
    have HFM := Lib.hid hr
    clear hr
    by_cases hn0 : n = 0
    · have hx0 : xs = [] := List.eq_nil_of_length_eq_zero (by rw [← HXL.out]; exact hn0)
      have hnp : ¬ (0 : Int) < n := by omega
      have HCO := Lib.hid (show chk os ≠ 4 → ¬ ((0 < xs.length ∧ (os.length : Int) ≠ tN0 xs) ∨ chk os = 4) from fun h4 h => by
        rcases h with ⟨h, _⟩ | h
        · rw [← HXL.out] at h; omega
        · exact h4 h)
      have HNE := Lib.hid (show xs ≠ [] → tN0 xs = (os.length : Nat) from fun h => absurd hx0 h)
      clear hx0 hn0
      go_wp2_with (fail)
      refine (check_any Ao os.length Co os w1 (Sl.same HO.out HS.out) hLo).mono ?_
      rintro e w2 ⟨rfl, hs⟩
      replace HS := Lib.hid (HS.out.trans hs (fun _ _ h => h))
      clear hs
      by_cases hc4 : chk os = 4
      · have HPE := Lib.hid (show prE xs os = 4 by unfold prE; rw [HFM.out, if_pos rfl, if_pos (.inr hc4)])
        have HPL := Lib.hid (show prL xs os = [] by unfold prL; rw [HPE.out]; rfl)
        rw [hc4]
        go_wp2
        go_ret2
        exact ⟨none, 0, by rw [HPL.out, HPE.out]; rfl, by rw [HPL.out]; exact NewL.nil' HS.out⟩
      · have hc4' : (chk os == 4) = false := by simpa using hc4
        have hper : IsPerm os := by
          by_cases hp : IsPerm os
          · exact hp
          · exact absurd (by unfold chk; rw [if_neg hp]) hc4
        have HPM := Lib.hid hper
        have hcond := HCO.out hc4
        have HCOND := Lib.hid hcond
        obtain ⟨ck, hck⟩ : ∃ z, z = chk os := ⟨_, rfl⟩
        rw [← hck] at hc4' ⊢
        clear hc4 hper hck hcond
        by_cases h16 : 16 < os.length
        · have HPE := Lib.hid (show prE xs os = 6 by unfold prE; rw [HFM.out, if_pos rfl, if_neg HCOND.out, if_pos h16])
          have HPL := Lib.hid (show prL xs os = [] by unfold prL; rw [HPE.out]; rfl)
          have h16' : (16 : Int) < os.length := by omega
          go_wp2
          go_ret2
          exact ⟨none, 0, by rw [HPL.out, HPE.out]; rfl, by rw [HPL.out]; exact NewL.nil' HS.out⟩
        · have HPE := Lib.hid (show prE xs os = 0 by unfold prE; rw [HFM.out, if_pos rfl, if_neg HCOND.out, if_neg h16])
          have HPL := Lib.hid (show prL xs os = proL os.length (tSet xs) (os.map Int.toNat) os.length by unfold prL; rw [HPE.out, if_pos rfl])
          have h16' : ¬ (16 : Int) < os.length := by omega
          have hFN : ∀ ws ∈ tSet xs, FormN os.length ws := tSet_form HFM.out HNE.out
          have HFN := Lib.hid hFN
          have hoks : ∀ t ∈ xs, TbOk w2 t ∧ t.N = (os.length : Int) ∧ 0 < t.ws.length ∧ t.ws.length ≤ 1024 := fun t ht => by
            obtain ⟨h1, h2⟩ := fm_all HFM.out t ht
            have hne : xs ≠ [] := by rintro rfl; cases ht
            have h3 := form_len (hFN t.ws (mem_uniq.2 (List.mem_map.2 ⟨t, ht, rfl⟩))) (by omega)
            exact ⟨(HOK.out t ht).same HS.out, h2.trans (HNE.out hne), h3.1, h3.2⟩
          have HOS := Lib.hid hoks
          clear hFN hoks
          go_wp2_with (fail)
          refine (sof_any _ n C xs (os.length : Int) w2 (Sl.same H.out HS.out) HOS.out (by omega)).mono ?_
          rintro e w3 ⟨b, D, rfl, hs, hbw, hst⟩
          replace HS := Lib.hid (HS.out.trans hs (fun _ _ h => h))
          have HST := Lib.hid (hst.iff (M' := fun ws => ws ∈ tSet xs) (fun ws => by
            unfold tSet
            rw [mem_uniq, List.mem_map]
            exact ⟨fun ⟨t, h1, h2⟩ => ⟨t, h1, h2.symm⟩, fun ⟨t, h1, h2⟩ => ⟨t, h1, h2.symm⟩⟩))
          obtain ⟨vs, hvs⟩ : ∃ z, z = os.map Int.toNat := ⟨_, rfl⟩
          have HVS := Lib.hid hvs
          rw [← hvs] at HPL
          obtain ⟨L0, hL0⟩ : ∃ z, z = tSet xs := ⟨_, rfl⟩
          have hL0n : L0.length ≤ n := by rw [hL0, HXL.out]; exact tSet_len xs
          have hL0d : L0.Nodup := by rw [hL0]; exact uniq_nodup _
          rw [← hL0] at HST HPL HFN
          have HL0D := Lib.hid hL0d
          clear hs hbw hst hvs hL0 hL0d HOS
          go_wp2
          clear hc4' h16'
          go_loopw [6, 7, 39] (fun l s i wi => ∃ (k : Nat) (A : Option Addr) (D0 b m lo : Nat) (D : DataW Value), k ≤ os.length ∧ i = .int .i64 k ∧ s = .map (some b) ∧ l = .slice A k D0 ∧ OwnI wi 3 A k D0 (proL os.length L0 vs k) ∧ Fresh w.heap.size A ∧ Same w wi ∧ ST lo wi b m D (os.length : Int) (fun ws => ws ∈ setAt os.length L0 (vs.take k)) ∧ m ≤ 2 ^ k * n) (fun _ _ i _ => os.length - (intOf i).toNat)
          case atStart => exact ⟨0, none, 0, b, n, 0, D, by omega, rfl, rfl, rfl, Own.nil _ _ _ _, fresh_none _, HS.out, by simpa [setAt] using HST.out, by simp⟩
          case round =>
            clear HS HST
            obtain ⟨k, A, D0, b, m, lo, D, hk, rfl, rfl, rfl, hown, hfr, hs, hst, hm⟩ := hrel
            have HMM := Lib.hid hm
            clear hm
            by_cases hlt : k < os.length
            · obtain ⟨v, hv, hvn⟩ := IsPerm.at HPM.out hlt
              obtain ⟨bo, oo, hA, hbo, hc⟩ := (Sl.same HO.out hs).at1 hv
              subst hA
              have hvk : vs[k]? = some v := by rw [HVS.out, List.getElem?_map, hv]; rfl
              have hvd : vs.getD k 0 = v := by rw [List.getD_eq_getElem?_getD, hvk]; rfl
              have htk : vs.take (k + 1) = vs.take k ++ [v] := by rw [List.take_add_one, hvk]; rfl
              have hk0 : (0 : Int) ≤ k := by omega
              have hk1 : (k : Int) < os.length := by omega
              have hk16 : k ≤ 16 := by omega
              have hb1 : 65536 * n ≤ 1000000000000000000 := by omega
              have hnn16 : os.length ≤ 16 := by omega
              have hvl : (vs.take k).length = k := by rw [List.length_take, HVS.out, List.length_map]; omega
              have hp2 : 2 ^ k * n ≤ 65536 * n := Nat.mul_le_mul_right n (Nat.pow_le_pow_right (Nat.le_succ 1) hk16)
              have hlen : (setAt os.length L0 (vs.take k)).length ≤ 2 ^ k * n := by
                have h1 := setAt_len os.length (vs.take k) L0
                rw [hvl] at h1
                exact Nat.le_trans h1 (Nat.mul_le_mul_left _ hL0n)
              have HG := Lib.hid (given_any lo b m os.length v D (setAt os.length L0 (vs.take k)) wr hst (setAt_nodup _ HL0D.out) (setAt_form hnn16 _ HFN.out) hvn hnn16 (Nat.le_trans HMM.out (Nat.le_trans hp2 hb1)) (Nat.le_trans hlen (Nat.le_trans hp2 hb1)))
              have hm2 : 2 * (2 ^ k * n) = 2 ^ (k + 1) * n := by rw [Nat.pow_succ, Nat.mul_comm (2 ^ k) 2, Nat.mul_assoc]
              have HM := Lib.hid (show ∀ z, z ≤ 2 * m → z ≤ 2 ^ (k + 1) * n from fun z hz => hm2 ▸ Nat.le_trans hz (Nat.mul_le_mul_left 2 HMM.out))
              have HRW := Lib.hid (show ∀ x, rowOf A x → x < wr.heap.size from fun x ⟨a, ha, hx⟩ => by rw [← hx]; exact hown.block a ha)
              have HOW := Lib.hid hown
              have HFR := Lib.hid hfr
              have HS := Lib.hid hs
              have HVD := Lib.hid hvd
              have HTK := Lib.hid htk
              clear hv hvk hvd htk hp2 hlen hm2 HMM hvl hb1 hown hfr hs hst
              go_wp2_with (fail)
              refine HG.out.mono ?_
              rintro e w4 ⟨b', n', D', rfl, hs, _, hn', hst'⟩
              replace HS := Lib.hid (HS.out.trans hs (fun _ _ h => h))
              replace HOW := Lib.hid (Own.frm HOW.out hs (fun _ _ => id))
              have HST := Lib.hid (hst'.iff (M' := fun ws => ws ∈ setAt os.length L0 (vs.take (k + 1))) (fun ws => by rw [HTK.out, setAt_snoc, stepS_mem]))
              replace HM := Lib.hid (HM.out n' hn')
              obtain ⟨ct, hct⟩ : ∃ z, z = cntL os.length v (setAt os.length L0 (vs.take k)) := ⟨_, rfl⟩
              have HCT := Lib.hid hct
              rw [← hct]
              clear hs hn' hst' hct HG hc hbo
              go_upto_region 13 with fail
              refine wp_region_lit ?_
              refine wpList_read 2 ?_
              simp only [List.take_succ_cons, List.take_zero, List.drop_succ_cons, List.drop_zero]
              repeat (any_goals (first | go_big_quiet_step (fail) | quiet_step (fail)))
              refine wpQuiet_nil ?_
              refine wpList_plain rfl fun K hK => ?_
              go_simp
              refine hK _ _ ?_
              clear hK K
              refine list_world fun wc hwc => ?_
              have hsc : Same w4 wc := by rw [hwc]; exact (Frm.refl _ _).alloc _
              have hNc := Blk.new w4 3 #[.int .i64 (ct : Int)]
              rw [← hwc] at hNc
              clear hwc
              refine wpList_plain rfl fun K hK => ?_
              refine Own.grow (f := icell) (.tmp 49) (.tmp 51) _ rfl Try.underlying23 info_int rfl rfl (Own.frm HOW.out hsc (fun _ _ => id)) icell_len [(ct : Int)] (by simp) ⟨w4.heap.size, 0, none⟩ 1 rfl (fun j u hj => news_of_blk hNc j u hj) (by simp [icell, Value.oneCell']) (by simp [maxLen] <;> omega) (by simp <;> omega) ?_
              intro g C' wd hOd _ hgr hat
              refine hK _ _ ?_
              clear hK K
              have hsd : Same w wd := (HS.out.trans hsc (fun _ _ h => h)).grown hgr (fun b hb => .inr (HFR.out b (ownBlock_row.1 hb)))
              have hgF : Fresh w.heap.size (some ⟨g, 0, none⟩) := by
                rcases hat with ⟨h1, _⟩ | ⟨h1, _⟩
                · rw [← h1]; exact HFR.out
                · have := HS.out.size; have := hsc.size; exact fresh_some (by omega)
              have hst5 : Same w4 wd → True := fun _ => trivial
              have hod : OwnI wd 3 (some ⟨g, 0, none⟩) (k + 1) C' (proL os.length L0 vs (k + 1)) := by
                rw [proL_succ, HVD.out, ← HCT.out]
                exact hOd
              have hst6 := (HST.out.same hsc).grownI (Own.frm HOW.out hsc (fun _ _ => id)) HRW.out hgr
              have HOD := Lib.hid hod
              have HSD := Lib.hid hsd
              have HGF := Lib.hid hgF
              have HT6 := Lib.hid hst6
              clear hgr hOd hat hNc hsc hod hsd hgF hst5 hst6 HOW HS HFR HST
              go_wp2
              go_roundw
              case rel => exact ⟨k + 1, some ⟨g, 0, none⟩, C', b', n', wr.heap.size, D', by omega, by go_num, rfl, rfl, HOD.out, HGF.out, HSD.out, HT6.out, HM.out⟩
              case measure => simp [intOf] <;> omega
            · obtain rfl : k = os.length := by omega
              have HOW := Lib.hid hown
              have HFR := Lib.hid hfr
              have HS := Lib.hid hs
              clear hown hfr hs hst HMM
              go_wp2
              go_ret2
              exact ⟨A, D0, by rw [HPL.out, HPE.out, proL_len]; rfl, by rw [HPL.out, NewL, proL_len]; exact ⟨HOW.out, HFR.out, HS.out⟩⟩
    · obtain ⟨t0, ht0⟩ : ∃ t, xs[0]? = some t := ⟨_, List.getElem?_eq_getElem (by rw [← HXL.out]; omega)⟩
      have hd0 : tN0 xs = t0.N := by unfold tN0; rw [List.getD_eq_getElem?_getD, ht0]; rfl
      obtain ⟨bl, o, hA, hbl, hc⟩ := (Sl.same H.out HS.out).get 0 t0 ht0
      have c0 : w1.cell? ⟨bl, o, none⟩ = some (.int .i64 t0.N) := by simpa [Tb.cells] using hc 0 (by omega)
      subst hA
      have hnp : (0 : Int) < n := by omega
      have HD0 := Lib.hid hd0
      obtain ⟨N0, hN0⟩ : ∃ z, z = t0.N := ⟨_, rfl⟩
      rw [← hN0] at c0 HD0
      clear hc ht0 hd0 hN0
      by_cases hNe : N0 = (os.length : Int)
      · subst hNe
        have HCO := Lib.hid (show chk os ≠ 4 → ¬ ((0 < xs.length ∧ (os.length : Int) ≠ tN0 xs) ∨ chk os = 4) from fun h4 h => by
          rcases h with ⟨_, h⟩ | h
          · exact h HD0.out.symm
          · exact h4 h)
        have HNE := Lib.hid (show xs ≠ [] → tN0 xs = (os.length : Nat) from fun _ => HD0.out)
        go_wp2_with (fail)
        refine (check_any Ao os.length Co os w1 (Sl.same HO.out HS.out) hLo).mono ?_
        rintro e w2 ⟨rfl, hs⟩
        replace HS := Lib.hid (HS.out.trans hs (fun _ _ h => h))
        clear hs
        by_cases hc4 : chk os = 4
        · have HPE := Lib.hid (show prE xs os = 4 by unfold prE; rw [HFM.out, if_pos rfl, if_pos (.inr hc4)])
          have HPL := Lib.hid (show prL xs os = [] by unfold prL; rw [HPE.out]; rfl)
          rw [hc4]
          go_wp2
          go_ret2
          exact ⟨none, 0, by rw [HPL.out, HPE.out]; rfl, by rw [HPL.out]; exact NewL.nil' HS.out⟩
        · have hc4' : (chk os == 4) = false := by simpa using hc4
          have hper : IsPerm os := by
            by_cases hp : IsPerm os
            · exact hp
            · exact absurd (by unfold chk; rw [if_neg hp]) hc4
          have HPM := Lib.hid hper
          have hcond := HCO.out hc4
          have HCOND := Lib.hid hcond
          obtain ⟨ck, hck⟩ : ∃ z, z = chk os := ⟨_, rfl⟩
          rw [← hck] at hc4' ⊢
          clear hc4 hper hck hcond
          by_cases h16 : 16 < os.length
          · have HPE := Lib.hid (show prE xs os = 6 by unfold prE; rw [HFM.out, if_pos rfl, if_neg HCOND.out, if_pos h16])
            have HPL := Lib.hid (show prL xs os = [] by unfold prL; rw [HPE.out]; rfl)
            have h16' : (16 : Int) < os.length := by omega
            go_wp2
            go_ret2
            exact ⟨none, 0, by rw [HPL.out, HPE.out]; rfl, by rw [HPL.out]; exact NewL.nil' HS.out⟩
          · have HPE := Lib.hid (show prE xs os = 0 by unfold prE; rw [HFM.out, if_pos rfl, if_neg HCOND.out, if_neg h16])
            have HPL := Lib.hid (show prL xs os = proL os.length (tSet xs) (os.map Int.toNat) os.length by unfold prL; rw [HPE.out, if_pos rfl])
            have h16' : ¬ (16 : Int) < os.length := by omega
            have hFN : ∀ ws ∈ tSet xs, FormN os.length ws := tSet_form HFM.out HNE.out
            have HFN := Lib.hid hFN
            have hoks : ∀ t ∈ xs, TbOk w2 t ∧ t.N = (os.length : Int) ∧ 0 < t.ws.length ∧ t.ws.length ≤ 1024 := fun t ht => by
              obtain ⟨h1, h2⟩ := fm_all HFM.out t ht
              have hne : xs ≠ [] := by rintro rfl; cases ht
              have h3 := form_len (hFN t.ws (mem_uniq.2 (List.mem_map.2 ⟨t, ht, rfl⟩))) (by omega)
              exact ⟨(HOK.out t ht).same HS.out, h2.trans (HNE.out hne), h3.1, h3.2⟩
            have HOS := Lib.hid hoks
            clear hFN hoks
            go_wp2_with (fail)
            refine (sof_any _ n C xs (os.length : Int) w2 (Sl.same H.out HS.out) HOS.out (by omega)).mono ?_
            rintro e w3 ⟨b, D, rfl, hs, hbw, hst⟩
            replace HS := Lib.hid (HS.out.trans hs (fun _ _ h => h))
            have HST := Lib.hid (hst.iff (M' := fun ws => ws ∈ tSet xs) (fun ws => by
              unfold tSet
              rw [mem_uniq, List.mem_map]
              exact ⟨fun ⟨t, h1, h2⟩ => ⟨t, h1, h2.symm⟩, fun ⟨t, h1, h2⟩ => ⟨t, h1, h2.symm⟩⟩))
            obtain ⟨vs, hvs⟩ : ∃ z, z = os.map Int.toNat := ⟨_, rfl⟩
            have HVS := Lib.hid hvs
            rw [← hvs] at HPL
            obtain ⟨L0, hL0⟩ : ∃ z, z = tSet xs := ⟨_, rfl⟩
            have hL0n : L0.length ≤ n := by rw [hL0, HXL.out]; exact tSet_len xs
            have hL0d : L0.Nodup := by rw [hL0]; exact uniq_nodup _
            rw [← hL0] at HST HPL HFN
            have HL0D := Lib.hid hL0d
            clear hs hbw hst hvs hL0 hL0d HOS
            go_wp2
            clear hc4' h16'
            go_loopw [6, 7, 39] (fun l s i wi => ∃ (k : Nat) (A : Option Addr) (D0 b m lo : Nat) (D : DataW Value), k ≤ os.length ∧ i = .int .i64 k ∧ s = .map (some b) ∧ l = .slice A k D0 ∧ OwnI wi 3 A k D0 (proL os.length L0 vs k) ∧ Fresh w.heap.size A ∧ Same w wi ∧ ST lo wi b m D (os.length : Int) (fun ws => ws ∈ setAt os.length L0 (vs.take k)) ∧ m ≤ 2 ^ k * n) (fun _ _ i _ => os.length - (intOf i).toNat)
            case atStart => exact ⟨0, none, 0, b, n, 0, D, by omega, rfl, rfl, rfl, Own.nil _ _ _ _, fresh_none _, HS.out, by simpa [setAt] using HST.out, by simp⟩
            case round =>
              clear HS HST
              obtain ⟨k, A, D0, b, m, lo, D, hk, rfl, rfl, rfl, hown, hfr, hs, hst, hm⟩ := hrel
              have HMM := Lib.hid hm
              clear hm
              by_cases hlt : k < os.length
              · obtain ⟨v, hv, hvn⟩ := IsPerm.at HPM.out hlt
                obtain ⟨bo, oo, hA, hbo, hc⟩ := (Sl.same HO.out hs).at1 hv
                subst hA
                have hvk : vs[k]? = some v := by rw [HVS.out, List.getElem?_map, hv]; rfl
                have hvd : vs.getD k 0 = v := by rw [List.getD_eq_getElem?_getD, hvk]; rfl
                have htk : vs.take (k + 1) = vs.take k ++ [v] := by rw [List.take_add_one, hvk]; rfl
                have hk0 : (0 : Int) ≤ k := by omega
                have hk1 : (k : Int) < os.length := by omega
                have hk16 : k ≤ 16 := by omega
                have hb1 : 65536 * n ≤ 1000000000000000000 := by omega
                have hnn16 : os.length ≤ 16 := by omega
                have hvl : (vs.take k).length = k := by rw [List.length_take, HVS.out, List.length_map]; omega
                have hp2 : 2 ^ k * n ≤ 65536 * n := Nat.mul_le_mul_right n (Nat.pow_le_pow_right (Nat.le_succ 1) hk16)
                have hlen : (setAt os.length L0 (vs.take k)).length ≤ 2 ^ k * n := by
                  have h1 := setAt_len os.length (vs.take k) L0
                  rw [hvl] at h1
                  exact Nat.le_trans h1 (Nat.mul_le_mul_left _ hL0n)
                have HG := Lib.hid (given_any lo b m os.length v D (setAt os.length L0 (vs.take k)) wr hst (setAt_nodup _ HL0D.out) (setAt_form hnn16 _ HFN.out) hvn hnn16 (Nat.le_trans HMM.out (Nat.le_trans hp2 hb1)) (Nat.le_trans hlen (Nat.le_trans hp2 hb1)))
                have hm2 : 2 * (2 ^ k * n) = 2 ^ (k + 1) * n := by rw [Nat.pow_succ, Nat.mul_comm (2 ^ k) 2, Nat.mul_assoc]
                have HM := Lib.hid (show ∀ z, z ≤ 2 * m → z ≤ 2 ^ (k + 1) * n from fun z hz => hm2 ▸ Nat.le_trans hz (Nat.mul_le_mul_left 2 HMM.out))
                have HRW := Lib.hid (show ∀ x, rowOf A x → x < wr.heap.size from fun x ⟨a, ha, hx⟩ => by rw [← hx]; exact hown.block a ha)
                have HOW := Lib.hid hown
                have HFR := Lib.hid hfr
                have HS := Lib.hid hs
                have HVD := Lib.hid hvd
                have HTK := Lib.hid htk
                clear hv hvk hvd htk hp2 hlen hm2 HMM hvl hb1 hown hfr hs hst
                go_wp2_with (fail)
                refine HG.out.mono ?_
                rintro e w4 ⟨b', n', D', rfl, hs, _, hn', hst'⟩
                replace HS := Lib.hid (HS.out.trans hs (fun _ _ h => h))
                replace HOW := Lib.hid (Own.frm HOW.out hs (fun _ _ => id))
                have HST := Lib.hid (hst'.iff (M' := fun ws => ws ∈ setAt os.length L0 (vs.take (k + 1))) (fun ws => by rw [HTK.out, setAt_snoc, stepS_mem]))
                replace HM := Lib.hid (HM.out n' hn')
                obtain ⟨ct, hct⟩ : ∃ z, z = cntL os.length v (setAt os.length L0 (vs.take k)) := ⟨_, rfl⟩
                have HCT := Lib.hid hct
                rw [← hct]
                clear hs hn' hst' hct HG hc hbo
                go_upto_region 13 with fail
                refine wp_region_lit ?_
                refine wpList_read 2 ?_
                simp only [List.take_succ_cons, List.take_zero, List.drop_succ_cons, List.drop_zero]
                repeat (any_goals (first | go_big_quiet_step (fail) | quiet_step (fail)))
                refine wpQuiet_nil ?_
                refine wpList_plain rfl fun K hK => ?_
                go_simp
                refine hK _ _ ?_
                clear hK K
                refine list_world fun wc hwc => ?_
                have hsc : Same w4 wc := by rw [hwc]; exact (Frm.refl _ _).alloc _
                have hNc := Blk.new w4 3 #[.int .i64 (ct : Int)]
                rw [← hwc] at hNc
                clear hwc
                refine wpList_plain rfl fun K hK => ?_
                refine Own.grow (f := icell) (.tmp 49) (.tmp 51) _ rfl Try.underlying23 info_int rfl rfl (Own.frm HOW.out hsc (fun _ _ => id)) icell_len [(ct : Int)] (by simp) ⟨w4.heap.size, 0, none⟩ 1 rfl (fun j u hj => news_of_blk hNc j u hj) (by simp [icell, Value.oneCell']) (by simp [maxLen] <;> omega) (by simp <;> omega) ?_
                intro g C' wd hOd _ hgr hat
                refine hK _ _ ?_
                clear hK K
                have hsd : Same w wd := (HS.out.trans hsc (fun _ _ h => h)).grown hgr (fun b hb => .inr (HFR.out b (ownBlock_row.1 hb)))
                have hgF : Fresh w.heap.size (some ⟨g, 0, none⟩) := by
                  rcases hat with ⟨h1, _⟩ | ⟨h1, _⟩
                  · rw [← h1]; exact HFR.out
                  · have := HS.out.size; have := hsc.size; exact fresh_some (by omega)
                have hst5 : Same w4 wd → True := fun _ => trivial
                have hod : OwnI wd 3 (some ⟨g, 0, none⟩) (k + 1) C' (proL os.length L0 vs (k + 1)) := by
                  rw [proL_succ, HVD.out, ← HCT.out]
                  exact hOd
                have hst6 := (HST.out.same hsc).grownI (Own.frm HOW.out hsc (fun _ _ => id)) HRW.out hgr
                have HOD := Lib.hid hod
                have HSD := Lib.hid hsd
                have HGF := Lib.hid hgF
                have HT6 := Lib.hid hst6
                clear hgr hOd hat hNc hsc hod hsd hgF hst5 hst6 HOW HS HFR HST
                go_wp2
                go_roundw
                case rel => exact ⟨k + 1, some ⟨g, 0, none⟩, C', b', n', wr.heap.size, D', by omega, by go_num, rfl, rfl, HOD.out, HGF.out, HSD.out, HT6.out, HM.out⟩
                case measure => simp [intOf] <;> omega
              · obtain rfl : k = os.length := by omega
                have HOW := Lib.hid hown
                have HFR := Lib.hid hfr
                have HS := Lib.hid hs
                clear hown hfr hs hst HMM
                go_wp2
                go_ret2
                exact ⟨A, D0, by rw [HPL.out, HPE.out, proL_len]; rfl, by rw [HPL.out, NewL, proL_len]; exact ⟨HOW.out, HFR.out, HS.out⟩⟩
      · have hNe' : ((os.length : Int) != N0) = true := by simpa using fun h => hNe h.symm
        have HPE := Lib.hid (show prE xs os = 4 by
          unfold prE
          rw [HFM.out, if_pos rfl, if_pos (.inl ⟨by rw [← HXL.out]; omega, by rw [HD0.out]; exact fun h => hNe h.symm⟩)])
        have HPL := Lib.hid (show prL xs os = [] by unfold prL; rw [HPE.out]; rfl)
        clear hNe
        go_wp2
        go_ret2
        exact ⟨none, 0, by rw [HPL.out, HPE.out]; rfl, by rw [HPL.out]; exact NewL.nil' HS.out⟩
end Go.Proofs.Ytakepdkokjecoaa


/- Shape: Size, Level. -/
namespace Go.Proofs.Ytakepdkokjecoaa
open Go.RowKit Go.Tk Go.Maps

theorem cnt_le (nn v : Nat) (L : List (List Nat)) : cntL nn v L ≤ L.length := List.length_filter_le _ _
theorem sum_snoc {ys : List Int} {k : Nat} {x : Int} (h : ys[k]? = some x) : (ys.take (k + 1)).sum = (ys.take k).sum + x := by
  rw [List.take_add_one, h, List.sum_append]
  simp
theorem proL_sum (nn : Nat) (L : List (List Nat)) (vs : List Nat) (n : Nat) (hL : L.length ≤ n) : ∀ k, 0 ≤ (proL nn L vs k).sum ∧ (proL nn L vs k).sum ≤ ((2 ^ k * n : Nat) : Int)
  | 0 => by simp [proL]
  | k + 1 => by
    obtain ⟨h1, h2⟩ := proL_sum nn L vs n hL k
    have h3 := setAt_len nn (vs.take k) L
    have h4 := cnt_le nn (vs.getD k 0) (setAt nn L (vs.take k))
    have h5 : 2 ^ (vs.take k).length * L.length ≤ 2 ^ k * n := Nat.mul_le_mul (Nat.pow_le_pow_right (Nat.le_succ 1) (by rw [List.length_take]; omega)) hL
    have h6 : 2 ^ (k + 1) * n = 2 ^ k * n + 2 ^ k * n := by rw [Nat.pow_succ, Nat.mul_assoc, Nat.mul_left_comm, Nat.two_mul]
    rw [proL_succ, List.sum_append, h6]
    simp only [List.sum_cons, List.sum_nil]
    generalize cntL nn (vs.getD k 0) (setAt nn L (vs.take k)) = c at *
    generalize 2 ^ k * n = z at *
    omega
theorem proL_take (nn : Nat) (L : List (List Nat)) (vs : List Nat) {j k : Nat} (h : j ≤ k) : (proL nn L vs k).take j = proL nn L vs j := by
  unfold proL
  rw [← List.map_take, List.take_range, Nat.min_eq_left h]
theorem prL_bound {xs : List Tb} {os : List Int} {n : Nat} (hn : xs.length = n) (hb : n ≤ 8796093022210) (k : Nat) (hk : k ≤ (prL xs os).length) : 0 ≤ ((prL xs os).take k).sum ∧ ((prL xs os).take k).sum ≤ 1000000000000000000 := by
  unfold prL at hk ⊢
  by_cases he : prE xs os = 0
  · rw [if_pos he] at hk ⊢
    rw [proL_len] at hk
    have h16 : os.length ≤ 16 := by
      by_cases h : 16 < os.length
      · exfalso
        unfold prE at he
        split at he
        · split at he
          · cases he
          · first | (cases he; done) | (rw [if_pos h] at he; cases he)
        · cases he
      · omega
    rw [proL_take _ _ _ hk]
    obtain ⟨h1, h2⟩ := proL_sum os.length (tSet xs) (os.map Int.toNat) n (by rw [← hn]; exact tSet_len xs) k
    have h3 : 2 ^ k * n ≤ 65536 * n := Nat.mul_le_mul_right n (Nat.pow_le_pow_right (Nat.le_succ 1) (by omega : k ≤ 16))
    generalize 2 ^ k * n = z at *
    omega
  · rw [if_neg he]
    simp
theorem prL_len (xs : List Tb) (os : List Int) : (prL xs os).length ≤ os.length := by
  unfold prL
  split
  · rw [proL_len]; exact Nat.le_refl _
  · simp
set_option maxRecDepth 100000 in
set_option maxHeartbeats 8000000 in
theorem size_any (AL : Option Addr) (n C : Nat) (xs : List Tb) (Ao : Option Addr) (Lo Co : Nat) (os : List Int) (w : World) (h : Sl w 2 Tb.cells AL n xs) (hok : ∀ t ∈ xs, TbOk w t) (hn : n ≤ 8796093022210) (ho : IL w Ao Lo os) (hLo : Lo * 8 ≤ 140737488351232) :
    Calls Try.prog 12 #[.slice AL n C, .slice Ao Lo Co] w fun e w' => e = .returned (.tuple #[.int .i64 (prL xs os).sum, .int .i64 (prE xs os)]) ∧ Same w w' := by
  have HP := Lib.hid (profile_any AL n C xs Ao Lo Co os w h hok hn ho hLo)
  have HB := Lib.hid (fun k hk => prL_bound (xs := xs) (os := os) (n := n) h.len.symm hn k hk)
  have hyl : (prL xs os).length ≤ Lo := by rw [ho.len]; exact prL_len xs os
  clear h hok ho
  obtain ⟨ys, hys⟩ : ∃ z, z = prL xs os := ⟨_, rfl⟩
  obtain ⟨er, her⟩ : ∃ z, z = prE xs os := ⟨_, rfl⟩
  rw [← hys, ← her] at HP ⊢
  rw [← hys] at HB hyl
  clear hys her
  go_enter Try.func12, Try.ntmps12
  go_wp2_with (fail)
  refine HP.out.mono ?_
  rintro e w1 ⟨A, D, rfl, hNT⟩
  have HO := Lib.hid (Own.il hNT.1)
  have HS := Lib.hid hNT.2.2
  clear hNT
  go_wp2
  go_loopw [8, 19] (fun s i wi => ∃ k : Nat, k ≤ ys.length ∧ i = .int .i64 k ∧ s = .int .i64 (ys.take k).sum ∧ wi = w1) (fun _ i _ => ys.length - (intOf i).toNat)
  case atStart => exact ⟨0, by omega, rfl, by simp, rfl⟩
  case round =>
    obtain ⟨k, hk, rfl, rfl, hwz⟩ := hrel
    subst hwz
    by_cases hlt : k < ys.length
    · obtain ⟨x, hx⟩ : ∃ x, ys[k]? = some x := ⟨_, List.getElem?_eq_getElem hlt⟩
      obtain ⟨b, o, hA, hb, hc⟩ := HO.out.at1 hx
      subst hA
      have h1 := HB.out k hk
      have h2 := HB.out (k + 1) hlt
      have h3 := sum_snoc hx
      have hwr : IntKind.i64.wrap ((ys.take k).sum + x) = (ys.take (k + 1)).sum := by rw [← h3]; exact IntWalk.i64_in _ (by omega)
      have hk0 : (0 : Int) ≤ k := by omega
      have hk1 : (k : Int) < ys.length := by omega
      clear h1 h2 h3 hx
      go_wp2
      go_roundw
      case rel => exact ⟨k + 1, by omega, by go_num, rfl, by trivial⟩
      case measure => simp [intOf] <;> omega
    · obtain rfl : k = ys.length := by omega
      rw [List.take_of_length_le (Nat.le_refl _)]
      go_wp2
      go_ret2
      exact ⟨rfl, HS.out⟩
end Go.Proofs.Ytakepdkokjecoaa


/- Shape: Level. -/
namespace Go.Proofs.Ytakepdkokjecoaa
open Go.RowKit Go.Tk Go.Maps

def lvN (xs : List Tb) : Nat := if xs.length = 0 then 16 else (tN0 xs).toNat
def lvE (xs : List Tb) (ab : Nat) (v : Int) : Int := if fm xs then (if v < 0 ∨ (lvN xs : Int) ≤ v ∨ ab / 2 ^ lvN xs ≠ 0 then 2 else if ab.testBit v.toNat then 4 else 0) else 5
def bitsL (nn ab : Nat) : List Nat := (List.range nn).filter (fun u => ab.testBit u)
def lvC (xs : List Tb) (ab : Nat) (v : Int) : Nat := if lvE xs ab v = 0 then cntL (lvN xs) v.toNat (setAt (lvN xs) (tSet xs) (bitsL (lvN xs) ab)) else 0
theorem bitsL_succ (k ab : Nat) : bitsL (k + 1) ab = bitsL k ab ++ (if ab.testBit k then [k] else []) := by
  unfold bitsL
  rw [List.range_succ, List.filter_append]
  congr 1
  cases h : ab.testBit k <;> simp [h]
theorem sbit_int {ab : Nat} (hab : ab < 18446744073709551616) (k : Nat) : (bits .and .u64 ((ab : Int) / 2 ^ k) 1 == 1) = ab.testBit k := by
  have h1 : (ab : Int) / 2 ^ k = ((ab / 2 ^ k : Nat) : Int) := by
    rw [Int.natCast_ediv, Int.natCast_pow]
    rfl
  have h2 := u64_and_nat (ab / 2 ^ k) 1 (Nat.lt_of_le_of_lt (Nat.div_le_self _ _) hab) (by decide)
  rw [h1, show (1 : Int) = ((1 : Nat) : Int) from rfl, h2, Nat.and_one_is_mod, Nat.testBit_eq_decide_div_mod_eq]
  by_cases hb : ab / 2 ^ k % 2 = 1
  · rw [hb]; rfl
  · rw [decide_eq_false hb, beq_eq_false_iff_ne]
    omega
theorem bits_len (k ab : Nat) : (bitsL k ab).length ≤ k := by
  unfold bitsL
  have := List.length_filter_le (fun u => ab.testBit u) (List.range k)
  simpa using this
set_option maxRecDepth 100000 in
set_option maxHeartbeats 16000000 in
theorem level_any (AL : Option Addr) (n C : Nat) (xs : List Tb) (ab : Nat) (v : Int) (w : World) (h : Sl w 2 Tb.cells AL n xs) (hok : ∀ t ∈ xs, TbOk w t) (hn : n ≤ 8796093022210) (hab : ab < 18446744073709551616) :
    Calls Try.prog 13 #[.slice AL n C, .int .u64 ab, .int .i64 v] w fun e w' => e = .returned (.tuple #[.int .i64 (lvC xs ab v : Nat), .int .i64 (lvE xs ab v)]) ∧ Same w w' := by
  have H := Lib.hid h
  have HOK := Lib.hid hok
  have HXL := Lib.hid h.len
  clear h hok
  obtain ⟨r, hr⟩ : ∃ r, fm xs = r := ⟨_, rfl⟩
  go_enter Try.func13, Try.ntmps13
  go_wp2_with (fail)
  refine (scheck_any AL n C xs w H.out (by omega) HOK.out).mono ?_
  rintro e w1 ⟨rfl, hs⟩
  rw [hr]
  have HS := Lib.hid hs
  clear hs
  cases r with
  | false =>
    have HE := Lib.hid (show lvE xs ab v = 5 by unfold lvE; rw [hr]; rfl)
    have HC := Lib.hid (show lvC xs ab v = 0 by unfold lvC; rw [HE.out]; rfl)
    clear hr
    go_wp2
    go_ret2
    exact ⟨by rw [HE.out, HC.out]; rfl, HS.out⟩
  | true =>
    have HFM := Lib.hid hr
    clear hr
    by_cases hn0 : n = 0
    · have hnp : ¬ (0 : Int) < n := by omega
      have HN0 := Lib.hid hn0
      clear hn0
      have hx0 : xs.length = 0 := by rw [← HXL.out]; exact HN0.out
      obtain ⟨nn, hnn⟩ : ∃ z : Nat, z = 16 := ⟨_, rfl⟩
      have HNN := Lib.hid (show lvN xs = nn by unfold lvN; rw [if_pos hx0, hnn])
      have hn16 : nn ≤ 16 := by omega
      have HND := Lib.hid (show xs ≠ [] → tN0 xs = (nn : Int) from fun h => absurd (List.eq_nil_of_length_eq_zero hx0) h)
      go_upto_region 6 with fail
      rw [show (Value.int IntKind.i64 16) = Value.int IntKind.i64 (nn : Int) by rw [hnn]; rfl]
      clear hnn hx0 hnp
      by_cases hv0 : v < 0
      · have HE := Lib.hid (show lvE xs ab v = 2 by unfold lvE; rw [HFM.out, if_pos rfl, if_pos (.inl hv0)])
        have HC := Lib.hid (show lvC xs ab v = 0 by unfold lvC; rw [HE.out]; rfl)
        go_wp2
        go_ret2
        exact ⟨by rw [HE.out, HC.out]; rfl, HS.out⟩
      · have hv0' : ¬ v < 0 := hv0
        obtain ⟨vn, rfl⟩ := Int.eq_ofNat_of_zero_le (show 0 ≤ v by omega)
        clear hv0 hv0'
        by_cases hvn : nn ≤ vn
        · have hvn' : (nn : Int) ≤ vn := by omega
          have HE := Lib.hid (show lvE xs ab (vn : Int) = 2 by unfold lvE; rw [HFM.out, if_pos rfl, if_pos (.inr (.inl (by rw [HNN.out]; exact hvn')))])
          have HC := Lib.hid (show lvC xs ab (vn : Int) = 0 by unfold lvC; rw [HE.out]; rfl)
          go_wp2
          go_ret2
          exact ⟨by rw [HE.out, HC.out]; rfl, HS.out⟩
        · have hvn' : (vn : Int) < nn := by omega
          have hvn0 : (0 : Int) ≤ vn := by omega
          have hnn0 : (0 : Int) ≤ nn := by omega
          by_cases hab0 : ab / 2 ^ nn = 0
          · have habi : (ab : Int) / 2 ^ nn = 0 := by
              have h1 : (ab : Int) / 2 ^ nn = ((ab / 2 ^ nn : Nat) : Int) := by
                rw [Int.natCast_ediv, Int.natCast_pow]
                rfl
              rw [h1, hab0]
              rfl
            have HABI := Lib.hid habi
            have HAB0 := Lib.hid hab0
            clear hab0
            go_upto_region 8 with fail
            have HV := Lib.hid hvn'
            by_cases hbt : ab.testBit vn = true
            · have hbi : (bits .and .u64 ((ab : Int) / 2 ^ vn) 1 == 1) = true := by rw [sbit_int hab]; exact hbt
              have HE := Lib.hid (show lvE xs ab (vn : Int) = 4 by unfold lvE; rw [HFM.out, if_pos rfl, HNN.out, if_neg (by rintro (h | h | h); omega; omega; exact h HAB0.out), Int.toNat_natCast, if_pos hbt])
              have HC := Lib.hid (show lvC xs ab (vn : Int) = 0 by unfold lvC; rw [HE.out]; rfl)
              clear hbt
              go_wp2
              go_ret2
              exact ⟨by rw [HE.out, HC.out]; rfl, HS.out⟩
            · have hbi : (bits .and .u64 ((ab : Int) / 2 ^ vn) 1 == 1) = false := by rw [sbit_int hab]; simpa using hbt
              have HE := Lib.hid (show lvE xs ab (vn : Int) = 0 by unfold lvE; rw [HFM.out, if_pos rfl, HNN.out, if_neg (by rintro (h | h | h); omega; omega; exact h HAB0.out), Int.toNat_natCast, if_neg hbt])
              have HC := Lib.hid (show lvC xs ab (vn : Int) = cntL nn vn (setAt nn (tSet xs) (bitsL nn ab)) by unfold lvC; rw [HE.out, if_pos rfl, HNN.out, Int.toNat_natCast])
              clear hbt
              have hFN : ∀ ws ∈ tSet xs, FormN nn ws := tSet_form HFM.out HND.out
              have HFN := Lib.hid hFN
              have hoks : ∀ t ∈ xs, TbOk w1 t ∧ t.N = (nn : Int) ∧ 0 < t.ws.length ∧ t.ws.length ≤ 1024 := fun t ht => by
                obtain ⟨h1, h2⟩ := fm_all HFM.out t ht
                have hne : xs ≠ [] := by rintro rfl; cases ht
                have h3 := form_len (hFN t.ws (mem_uniq.2 (List.mem_map.2 ⟨t, ht, rfl⟩))) hn16
                exact ⟨(HOK.out t ht).same HS.out, h2.trans (HND.out hne), h3.1, h3.2⟩
              have HOS := Lib.hid hoks
              clear hFN hoks
              go_wp2_with (fail)
              refine (sof_any _ n C xs (nn : Int) w1 (Sl.same H.out HS.out) HOS.out (by omega)).mono ?_
              rintro e w3 ⟨b, D, rfl, hs, hbw, hst⟩
              replace HS := Lib.hid (HS.out.trans hs (fun _ _ h => h))
              have HST := Lib.hid (hst.iff (M' := fun ws => ws ∈ tSet xs) (fun ws => by
                unfold tSet
                rw [mem_uniq, List.mem_map]
                exact ⟨fun ⟨t, h1, h2⟩ => ⟨t, h1, h2.symm⟩, fun ⟨t, h1, h2⟩ => ⟨t, h1, h2.symm⟩⟩))
              obtain ⟨L0, hL0⟩ : ∃ z, z = tSet xs := ⟨_, rfl⟩
              have hL0n : L0.length ≤ n := by rw [hL0, HXL.out]; exact tSet_len xs
              have hL0d : L0.Nodup := by rw [hL0]; exact uniq_nodup _
              rw [← hL0] at HST HC HFN
              have HL0D := Lib.hid hL0d
              have HL0N := Lib.hid hL0n
              clear hs hbw hst hL0 hL0d hL0n HOS hbi HABI
              go_wp2
              go_loopw [9, 44] (fun s i wi => ∃ (k b m lo : Nat) (D : DataW Value), k ≤ nn ∧ i = .int .i64 k ∧ s = .map (some b) ∧ Same w wi ∧ ST lo wi b m D (nn : Int) (fun ws => ws ∈ setAt nn L0 (bitsL k ab)) ∧ m ≤ 2 ^ k * n) (fun _ i _ => nn - (intOf i).toNat)
              case atStart => exact ⟨0, b, n, 0, D, by omega, rfl, rfl, HS.out, by simpa [setAt, bitsL] using HST.out, by simp⟩
              case round =>
                clear HS HST
                obtain ⟨k, b, m, lo, D, hk, rfl, rfl, hs, hst, hm⟩ := hrel
                have HMM := Lib.hid hm
                have HST := Lib.hid hst
                have HS := Lib.hid hs
                clear hm hst hs
                have hb1 : 65536 * n ≤ 1000000000000000000 := by omega
                have hk16 : k ≤ 16 := by omega
                have HHN := Lib.hid (show 2 ^ k * n ≤ 1000000000000000000 from Nat.le_trans (Nat.mul_le_mul_right n (Nat.pow_le_pow_right (Nat.le_succ 1) hk16)) hb1)
                have HHL := Lib.hid (show (setAt nn L0 (bitsL k ab)).length ≤ 1000000000000000000 from Nat.le_trans (setAt_len nn (bitsL k ab) L0) (Nat.le_trans (Nat.mul_le_mul (Nat.pow_le_pow_right (Nat.le_succ 1) (bits_len k ab)) HL0N.out) HHN.out))
                clear hb1
                by_cases hlt : k < nn
                · have hk0 : (0 : Int) ≤ k := by omega
                  have hk1 : (k : Int) < nn := by omega
                  by_cases hbk : ab.testBit k = true
                  · have hbi : (bits .and .u64 ((ab : Int) / 2 ^ k) 1 == 1) = true := by rw [sbit_int hab]; exact hbk
                    have HBS := Lib.hid (show bitsL (k + 1) ab = bitsL k ab ++ [k] by rw [bitsL_succ, if_pos hbk])
                    have HG := Lib.hid (given_any lo b m nn k D (setAt nn L0 (bitsL k ab)) wr HST.out (setAt_nodup _ HL0D.out) (setAt_form hn16 _ HFN.out) hlt hn16 (Nat.le_trans HMM.out HHN.out) HHL.out)
                    clear hbk
                    go_wp2_with (fail)
                    refine HG.out.mono ?_
                    rintro e w4 ⟨b', n', D', rfl, hs, _, hn', hst'⟩
                    have HS4 := Lib.hid (HS.out.trans hs (fun _ _ h => h))
                    have HST4 := Lib.hid (hst'.iff (M' := fun ws => ws ∈ setAt nn L0 (bitsL (k + 1) ab)) (fun ws => by rw [HBS.out, setAt_snoc, stepS_mem]))
                    have hm2 : 2 * (2 ^ k * n) = 2 ^ (k + 1) * n := by rw [Nat.pow_succ, Nat.mul_comm (2 ^ k) 2, Nat.mul_assoc]
                    have HM := Lib.hid (show n' ≤ 2 ^ (k + 1) * n from hm2 ▸ Nat.le_trans hn' (Nat.mul_le_mul_left 2 HMM.out))
                    clear hs hn' hst' hm2 HG hbi
                    go_wp2
                    go_roundw
                    case rel => exact ⟨k + 1, b', n', wr.heap.size, D', by omega, by go_num, rfl, HS4.out, HST4.out, HM.out⟩
                    case measure => simp [intOf] <;> omega
                  · have hbi : (bits .and .u64 ((ab : Int) / 2 ^ k) 1 == 1) = false := by rw [sbit_int hab]; simpa using hbk
                    have HBS := Lib.hid (show bitsL (k + 1) ab = bitsL k ab by rw [bitsL_succ, if_neg hbk, List.append_nil])
                    have HM := Lib.hid (show m ≤ 2 ^ (k + 1) * n from Nat.le_trans HMM.out (Nat.mul_le_mul_right n (Nat.pow_le_pow_right (Nat.le_succ 1) (Nat.le_succ k))))
                    clear hbk
                    go_wp2
                    go_roundw
                    case rel => exact ⟨k + 1, b, m, lo, D, by omega, by go_num, rfl, HS.out, by rw [HBS.out]; exact HST.out, HM.out⟩
                    case measure => simp [intOf] <;> omega
                · obtain rfl : k = nn := by omega
                  have HG := Lib.hid (given_any lo b m k vn D (setAt k L0 (bitsL k ab)) wr HST.out (setAt_nodup _ HL0D.out) (setAt_form hn16 _ HFN.out) (by omega) hn16 (Nat.le_trans HMM.out HHN.out) HHL.out)
                  go_wp2_with (fail)
                  refine HG.out.mono ?_
                  rintro e w4 ⟨b', n', D', rfl, hs, _, _, _⟩
                  have HS4 := Lib.hid (HS.out.trans hs (fun _ _ h => h))
                  clear hs HG
                  go_wp2
                  go_ret2
                  exact ⟨by rw [HE.out, HC.out]; rfl, HS4.out⟩
          · have habi : ((ab : Int) / 2 ^ nn != 0) = true := by
              have h1 : (ab : Int) / 2 ^ nn = ((ab / 2 ^ nn : Nat) : Int) := by
                rw [Int.natCast_ediv, Int.natCast_pow]
                rfl
              rw [h1]
              simp only [bne_iff_ne, ne_eq]
              omega
            have HE := Lib.hid (show lvE xs ab (vn : Int) = 2 by unfold lvE; rw [HFM.out, if_pos rfl, if_pos (.inr (.inr (by rw [HNN.out]; exact hab0)))])
            have HC := Lib.hid (show lvC xs ab (vn : Int) = 0 by unfold lvC; rw [HE.out]; rfl)
            go_wp2
            go_ret2
            exact ⟨by rw [HE.out, HC.out]; rfl, HS.out⟩
    · obtain ⟨t0, ht0⟩ : ∃ t, xs[0]? = some t := ⟨_, List.getElem?_eq_getElem (by rw [← HXL.out]; omega)⟩
      have hd0 : tN0 xs = t0.N := by unfold tN0; rw [List.getD_eq_getElem?_getD, ht0]; rfl
      obtain ⟨bl, o, hA, hbl, hc⟩ := (Sl.same H.out HS.out).get 0 t0 ht0
      have c0 : w1.cell? ⟨bl, o, none⟩ = some (.int .i64 t0.N) := by simpa [Tb.cells] using hc 0 (by omega)
      subst hA
      have hnp : (0 : Int) < n := by omega
      have hxn : xs.length ≠ 0 := by rw [← HXL.out]; exact hn0
      have hfr := (fm_all HFM.out t0 (List.mem_of_getElem? ht0)).1
      obtain ⟨nn, hnn, hfn⟩ := frm_true hfr
      have hn16 : nn ≤ 16 := hfn.n16
      have HNN := Lib.hid (show lvN xs = nn by unfold lvN; rw [if_neg hxn, hd0, hnn]; rfl)
      have HND := Lib.hid (show xs ≠ [] → tN0 xs = (nn : Int) from fun _ => hd0.trans hnn)
      rw [hnn] at c0
      clear hc ht0 hd0 hnn hfr hfn hxn hn0
      go_upto_region 6 with fail
      clear c0 hbl hnp
      by_cases hv0 : v < 0
      · have HE := Lib.hid (show lvE xs ab v = 2 by unfold lvE; rw [HFM.out, if_pos rfl, if_pos (.inl hv0)])
        have HC := Lib.hid (show lvC xs ab v = 0 by unfold lvC; rw [HE.out]; rfl)
        go_wp2
        go_ret2
        exact ⟨by rw [HE.out, HC.out]; rfl, HS.out⟩
      · have hv0' : ¬ v < 0 := hv0
        obtain ⟨vn, rfl⟩ := Int.eq_ofNat_of_zero_le (show 0 ≤ v by omega)
        clear hv0 hv0'
        by_cases hvn : nn ≤ vn
        · have hvn' : (nn : Int) ≤ vn := by omega
          have HE := Lib.hid (show lvE xs ab (vn : Int) = 2 by unfold lvE; rw [HFM.out, if_pos rfl, if_pos (.inr (.inl (by rw [HNN.out]; exact hvn')))])
          have HC := Lib.hid (show lvC xs ab (vn : Int) = 0 by unfold lvC; rw [HE.out]; rfl)
          go_wp2
          go_ret2
          exact ⟨by rw [HE.out, HC.out]; rfl, HS.out⟩
        · have hvn' : (vn : Int) < nn := by omega
          have hvn0 : (0 : Int) ≤ vn := by omega
          have hnn0 : (0 : Int) ≤ nn := by omega
          by_cases hab0 : ab / 2 ^ nn = 0
          · have habi : (ab : Int) / 2 ^ nn = 0 := by
              have h1 : (ab : Int) / 2 ^ nn = ((ab / 2 ^ nn : Nat) : Int) := by
                rw [Int.natCast_ediv, Int.natCast_pow]
                rfl
              rw [h1, hab0]
              rfl
            have HABI := Lib.hid habi
            have HAB0 := Lib.hid hab0
            clear hab0
            go_upto_region 8 with fail
            have HV := Lib.hid hvn'
            by_cases hbt : ab.testBit vn = true
            · have hbi : (bits .and .u64 ((ab : Int) / 2 ^ vn) 1 == 1) = true := by rw [sbit_int hab]; exact hbt
              have HE := Lib.hid (show lvE xs ab (vn : Int) = 4 by unfold lvE; rw [HFM.out, if_pos rfl, HNN.out, if_neg (by rintro (h | h | h); omega; omega; exact h HAB0.out), Int.toNat_natCast, if_pos hbt])
              have HC := Lib.hid (show lvC xs ab (vn : Int) = 0 by unfold lvC; rw [HE.out]; rfl)
              clear hbt
              go_wp2
              go_ret2
              exact ⟨by rw [HE.out, HC.out]; rfl, HS.out⟩
            · have hbi : (bits .and .u64 ((ab : Int) / 2 ^ vn) 1 == 1) = false := by rw [sbit_int hab]; simpa using hbt
              have HE := Lib.hid (show lvE xs ab (vn : Int) = 0 by unfold lvE; rw [HFM.out, if_pos rfl, HNN.out, if_neg (by rintro (h | h | h); omega; omega; exact h HAB0.out), Int.toNat_natCast, if_neg hbt])
              have HC := Lib.hid (show lvC xs ab (vn : Int) = cntL nn vn (setAt nn (tSet xs) (bitsL nn ab)) by unfold lvC; rw [HE.out, if_pos rfl, HNN.out, Int.toNat_natCast])
              clear hbt
              have hFN : ∀ ws ∈ tSet xs, FormN nn ws := tSet_form HFM.out HND.out
              have HFN := Lib.hid hFN
              have hoks : ∀ t ∈ xs, TbOk w1 t ∧ t.N = (nn : Int) ∧ 0 < t.ws.length ∧ t.ws.length ≤ 1024 := fun t ht => by
                obtain ⟨h1, h2⟩ := fm_all HFM.out t ht
                have hne : xs ≠ [] := by rintro rfl; cases ht
                have h3 := form_len (hFN t.ws (mem_uniq.2 (List.mem_map.2 ⟨t, ht, rfl⟩))) hn16
                exact ⟨(HOK.out t ht).same HS.out, h2.trans (HND.out hne), h3.1, h3.2⟩
              have HOS := Lib.hid hoks
              clear hFN hoks
              go_wp2_with (fail)
              refine (sof_any _ n C xs (nn : Int) w1 (Sl.same H.out HS.out) HOS.out (by omega)).mono ?_
              rintro e w3 ⟨b, D, rfl, hs, hbw, hst⟩
              replace HS := Lib.hid (HS.out.trans hs (fun _ _ h => h))
              have HST := Lib.hid (hst.iff (M' := fun ws => ws ∈ tSet xs) (fun ws => by
                unfold tSet
                rw [mem_uniq, List.mem_map]
                exact ⟨fun ⟨t, h1, h2⟩ => ⟨t, h1, h2.symm⟩, fun ⟨t, h1, h2⟩ => ⟨t, h1, h2.symm⟩⟩))
              obtain ⟨L0, hL0⟩ : ∃ z, z = tSet xs := ⟨_, rfl⟩
              have hL0n : L0.length ≤ n := by rw [hL0, HXL.out]; exact tSet_len xs
              have hL0d : L0.Nodup := by rw [hL0]; exact uniq_nodup _
              rw [← hL0] at HST HC HFN
              have HL0D := Lib.hid hL0d
              have HL0N := Lib.hid hL0n
              clear hs hbw hst hL0 hL0d hL0n HOS hbi HABI
              go_wp2
              go_loopw [9, 44] (fun s i wi => ∃ (k b m lo : Nat) (D : DataW Value), k ≤ nn ∧ i = .int .i64 k ∧ s = .map (some b) ∧ Same w wi ∧ ST lo wi b m D (nn : Int) (fun ws => ws ∈ setAt nn L0 (bitsL k ab)) ∧ m ≤ 2 ^ k * n) (fun _ i _ => nn - (intOf i).toNat)
              case atStart => exact ⟨0, b, n, 0, D, by omega, rfl, rfl, HS.out, by simpa [setAt, bitsL] using HST.out, by simp⟩
              case round =>
                clear HS HST
                obtain ⟨k, b, m, lo, D, hk, rfl, rfl, hs, hst, hm⟩ := hrel
                have HMM := Lib.hid hm
                have HST := Lib.hid hst
                have HS := Lib.hid hs
                clear hm hst hs
                have hb1 : 65536 * n ≤ 1000000000000000000 := by omega
                have hk16 : k ≤ 16 := by omega
                have HHN := Lib.hid (show 2 ^ k * n ≤ 1000000000000000000 from Nat.le_trans (Nat.mul_le_mul_right n (Nat.pow_le_pow_right (Nat.le_succ 1) hk16)) hb1)
                have HHL := Lib.hid (show (setAt nn L0 (bitsL k ab)).length ≤ 1000000000000000000 from Nat.le_trans (setAt_len nn (bitsL k ab) L0) (Nat.le_trans (Nat.mul_le_mul (Nat.pow_le_pow_right (Nat.le_succ 1) (bits_len k ab)) HL0N.out) HHN.out))
                clear hb1
                by_cases hlt : k < nn
                · have hk0 : (0 : Int) ≤ k := by omega
                  have hk1 : (k : Int) < nn := by omega
                  by_cases hbk : ab.testBit k = true
                  · have hbi : (bits .and .u64 ((ab : Int) / 2 ^ k) 1 == 1) = true := by rw [sbit_int hab]; exact hbk
                    have HBS := Lib.hid (show bitsL (k + 1) ab = bitsL k ab ++ [k] by rw [bitsL_succ, if_pos hbk])
                    have HG := Lib.hid (given_any lo b m nn k D (setAt nn L0 (bitsL k ab)) wr HST.out (setAt_nodup _ HL0D.out) (setAt_form hn16 _ HFN.out) hlt hn16 (Nat.le_trans HMM.out HHN.out) HHL.out)
                    clear hbk
                    go_wp2_with (fail)
                    refine HG.out.mono ?_
                    rintro e w4 ⟨b', n', D', rfl, hs, _, hn', hst'⟩
                    have HS4 := Lib.hid (HS.out.trans hs (fun _ _ h => h))
                    have HST4 := Lib.hid (hst'.iff (M' := fun ws => ws ∈ setAt nn L0 (bitsL (k + 1) ab)) (fun ws => by rw [HBS.out, setAt_snoc, stepS_mem]))
                    have hm2 : 2 * (2 ^ k * n) = 2 ^ (k + 1) * n := by rw [Nat.pow_succ, Nat.mul_comm (2 ^ k) 2, Nat.mul_assoc]
                    have HM := Lib.hid (show n' ≤ 2 ^ (k + 1) * n from hm2 ▸ Nat.le_trans hn' (Nat.mul_le_mul_left 2 HMM.out))
                    clear hs hn' hst' hm2 HG hbi
                    go_wp2
                    go_roundw
                    case rel => exact ⟨k + 1, b', n', wr.heap.size, D', by omega, by go_num, rfl, HS4.out, HST4.out, HM.out⟩
                    case measure => simp [intOf] <;> omega
                  · have hbi : (bits .and .u64 ((ab : Int) / 2 ^ k) 1 == 1) = false := by rw [sbit_int hab]; simpa using hbk
                    have HBS := Lib.hid (show bitsL (k + 1) ab = bitsL k ab by rw [bitsL_succ, if_neg hbk, List.append_nil])
                    have HM := Lib.hid (show m ≤ 2 ^ (k + 1) * n from Nat.le_trans HMM.out (Nat.mul_le_mul_right n (Nat.pow_le_pow_right (Nat.le_succ 1) (Nat.le_succ k))))
                    clear hbk
                    go_wp2
                    go_roundw
                    case rel => exact ⟨k + 1, b, m, lo, D, by omega, by go_num, rfl, HS.out, by rw [HBS.out]; exact HST.out, HM.out⟩
                    case measure => simp [intOf] <;> omega
                · obtain rfl : k = nn := by omega
                  have HG := Lib.hid (given_any lo b m k vn D (setAt k L0 (bitsL k ab)) wr HST.out (setAt_nodup _ HL0D.out) (setAt_form hn16 _ HFN.out) (by omega) hn16 (Nat.le_trans HMM.out HHN.out) HHL.out)
                  go_wp2_with (fail)
                  refine HG.out.mono ?_
                  rintro e w4 ⟨b', n', D', rfl, hs, _, _, _⟩
                  have HS4 := Lib.hid (HS.out.trans hs (fun _ _ h => h))
                  clear hs HG
                  go_wp2
                  go_ret2
                  exact ⟨by rw [HE.out, HC.out]; rfl, HS4.out⟩
          · have habi : ((ab : Int) / 2 ^ nn != 0) = true := by
              have h1 : (ab : Int) / 2 ^ nn = ((ab / 2 ^ nn : Nat) : Int) := by
                rw [Int.natCast_ediv, Int.natCast_pow]
                rfl
              rw [h1]
              simp only [bne_iff_ne, ne_eq]
              omega
            have HE := Lib.hid (show lvE xs ab (vn : Int) = 2 by unfold lvE; rw [HFM.out, if_pos rfl, if_pos (.inr (.inr (by rw [HNN.out]; exact hab0)))])
            have HC := Lib.hid (show lvC xs ab (vn : Int) = 0 by unfold lvC; rw [HE.out]; rfl)
            go_wp2
            go_ret2
            exact ⟨by rw [HE.out, HC.out]; rfl, HS.out⟩
end Go.Proofs.Ytakepdkokjecoaa


/- Truth tables: Support of the reference; TruthTells: the walk. -/
namespace Go.Proofs.Ytakepdkokjecoaa
open Go.RowKit Go.Tk

end Go.Proofs.Ytakepdkokjecoaa


/- Truth tables: TruthTells: the walk. -/
namespace Go.Proofs.Ytakepdkokjecoaa
open Go.RowKit Go.Tk

end Go.Proofs.Ytakepdkokjecoaa


/- Truth tables: not and two of the law. -/
namespace Go.Proofs.Ytakepdkokjecoaa
open Go.RowKit Go.Tk

end Go.Proofs.Ytakepdkokjecoaa


/- Truth tables: what TruthShannon asks, plain. -/
namespace Go.Tk

theorem cntB_countP (F : Nat → Bool) : ∀ m, cntB F m = (List.range m).countP F
  | 0 => rfl
  | m + 1 => by
    rw [cntB, cntB_countP F m, List.range_succ, List.countP_append, List.countP_singleton]
theorem cntB_perm {F : Nat → Bool} {M : Nat} {σ : Nat → Nat} (h : ∀ i, i < M → σ i < M) (inj : ∀ i j, i < M → j < M → σ i = σ j → i = j) : cntB (fun i => F (σ i)) M = cntB F M := by
  have hnd : ((List.range M).map σ).Nodup := by
    rw [List.nodup_iff_pairwise_ne, List.pairwise_map]
    refine (List.nodup_iff_pairwise_ne.1 (List.nodup_range (n := M))).imp_of_mem fun ha hb hne he => ?_
    exact hne (inj _ _ (List.mem_range.1 ha) (List.mem_range.1 hb) he)
  have hp := sub_perm ((List.range M).map σ) (List.range M) hnd (fun x hx => by
    obtain ⟨i, hi, rfl⟩ := List.mem_map.1 hx
    exact List.mem_range.2 (h i (List.mem_range.1 hi))) (by simp)
  rw [cntB_countP, cntB_countP, hp.countP_eq F, List.countP_map]
  rfl
theorem cntB_sum {a b c d : Nat → Bool} : ∀ {m}, (∀ i, i < m → (a i).toNat + (b i).toNat = (c i).toNat + (d i).toNat) → cntB a m + cntB b m = cntB c m + cntB d m
  | 0, _ => rfl
  | m + 1, h => by
    have ih := cntB_sum (m := m) fun i hi => h i (by omega)
    have h1 := h m (by omega)
    have e : ∀ F : Nat → Bool, cntB F (m + 1) = cntB F m + (F m).toNat := fun F => by rw [cntB]; cases F m <;> rfl
    rw [e, e, e, e]
    omega
theorem wth_self (i v : Nat) : wth i v (i.testBit v) = i := (wth_of fun j => by
  by_cases h : j = v
  · subst h; simp
  · simp [h]).symm
theorem wth_twice (i v : Nat) (b c : Bool) : wth (wth i v b) v c = wth i v c := wth_of fun j => by
  rw [wth_bit, wth_bit]
  by_cases h : j = v <;> simp [h]
theorem wth_comm {i u v : Nat} {b c : Bool} (h : u ≠ v) : wth (wth i u b) v c = wth (wth i v c) u b := wth_of fun j => by
  rw [wth_bit, wth_bit, wth_bit]
  by_cases h1 : j = v
  · subst h1
    simp [Ne.symm h]
  · simp [h1]
theorem mask_sub {F G : Nat → Bool} {n V : Nat} (hn : n ≤ 64) (h : ∀ u, u < n → F u = true → G u = true ∧ u ≠ V) :
    bsum F n &&& (18446744073709551615 - (bsum G n &&& (18446744073709551615 - 2 ^ V % 18446744073709551616))) = 0 := by
  have hG : bsum G n < 18446744073709551616 := Nat.lt_of_lt_of_le (bsum_lt G n) (show 2 ^ n ≤ 2 ^ 64 from Nat.pow_le_pow_right (by omega) hn)
  have hp : 2 ^ V % 18446744073709551616 < 18446744073709551616 := Nat.mod_lt _ (by omega)
  have hx : bsum G n &&& (18446744073709551615 - 2 ^ V % 18446744073709551616) < 18446744073709551616 := Nat.lt_of_le_of_lt Nat.and_le_left hG
  apply Nat.eq_of_testBit_eq
  intro j
  rw [Nat.testBit_and, bsum_bit, Nat.zero_testBit]
  by_cases hj : j < n
  · cases hF : F j with
    | false => simp
    | true =>
      obtain ⟨h1, h2⟩ := h j hj hF
      have hj64 : j < 64 := by omega
      rw [not64_bit hx hj64, Nat.testBit_and, bsum_bit, not64_bit hp hj64, show (18446744073709551616 : Nat) = 2 ^ 64 by decide, Nat.testBit_mod_two_pow, Nat.testBit_two_pow]
      simp [hj, h1, Ne.symm h2]
  · simp [hj]
end Go.Tk
namespace Go.Proofs.Ytakepdkokjecoaa
open Go.RowKit Go.Tk

theorem depB_eq {n : Nat} {ws : List Nat} {u : Nat} (h : depB n ws u = false) {i : Nat} (hi : i < 2 ^ n) : vb ws (wth i u false) = vb ws (wth i u true) := by
  by_cases hne : vb ws (wth i u false) = vb ws (wth i u true)
  · exact hne
  · have := depB_true (n := n) (ws := ws) (v := u) hi hne
    rw [h] at this
    cases this
theorem dep_cof {n V u : Nat} {b : Bool} {ws : List Nat} (hV : V < n) (hu : u < n) (h : depB n (tab n (hfF V b ws)) u = true) : depB n ws u = true ∧ u ≠ V := by
  by_cases huV : u = V
  · subst huV
    rw [depB_false] at h
    · cases h
    · intro i hi
      unfold hfF
      rw [vb_tab (wth_lt hi hu), vb_tab (wth_lt hi hu), wth_twice, wth_twice]
  · refine ⟨?_, huV⟩
    cases hd : depB n ws u with
    | true => rfl
    | false =>
      rw [depB_false] at h
      · cases h
      · intro i hi
        show vb (tab n (hfF V b ws)) (wth i u false) = vb (tab n (hfF V b ws)) (wth i u true)
        rw [vb_tab (wth_lt hi hu), vb_tab (wth_lt hi hu)]
        unfold hfF
        rw [wth_comm huV, wth_comm huV]
        exact depB_eq hd (wth_lt hi hV)
theorem dep_ex {n V u : Nat} {ws : List Nat} (hV : V < n) (hu : u < n) (h : depB n (tab n (exF V ws)) u = true) : depB n ws u = true ∧ u ≠ V := by
  by_cases huV : u = V
  · subst huV
    rw [depB_false] at h
    · cases h
    · intro i hi
      show vb (tab n (exF u ws)) (wth i u false) = vb (tab n (exF u ws)) (wth i u true)
      rw [vb_tab (wth_lt hi hu), vb_tab (wth_lt hi hu)]
      unfold exF hfF
      rw [wth_twice, wth_twice, wth_twice, wth_twice]
  · refine ⟨?_, huV⟩
    cases hd : depB n ws u with
    | true => rfl
    | false =>
      rw [depB_false] at h
      · cases h
      · intro i hi
        show vb (tab n (exF V ws)) (wth i u false) = vb (tab n (exF V ws)) (wth i u true)
        rw [vb_tab (wth_lt hi hu), vb_tab (wth_lt hi hu)]
        unfold exF hfF
        rw [wth_comm (b := false) (c := false) huV, wth_comm (b := false) (c := true) huV, wth_comm (b := true) (c := false) huV, wth_comm (b := true) (c := true) huV, depB_eq hd (wth_lt (b := false) hi hV), depB_eq hd (wth_lt (b := true) hi hV)]
theorem shan_ite {n V : Nat} {ws : List Nat} (hf : FormN n ws) (hb : Small ws) : tab n (iteF (tab n (varF V)) (tab n (hfF V true ws)) (tab n (hfF V false ws))) = ws := by
  refine Eq.trans (tab_congr fun i hi => ?_) (tab_vb hf hb)
  unfold iteF
  rw [vb_tab hi, vb_tab hi, vb_tab hi]
  unfold varF hfF
  conv => rhs; rw [← wth_self i V]
  cases i.testBit V <;> rfl
theorem shan_or {n V : Nat} {ws : List Nat} : tab n (binF 14 (tab n (hfF V true ws)) (tab n (hfF V false ws))) = tab n (exF V ws) := tab_congr fun i hi => by
  unfold binF exF
  rw [vb_tab hi, vb_tab hi]
  cases hfF V true ws i <;> cases hfF V false ws i <;> decide
theorem shan_cnt {n V : Nat} {ws : List Nat} (hV : V < n) : cntB (vb (tab n (hfF V true ws))) (2 ^ n) + cntB (vb (tab n (hfF V false ws))) (2 ^ n) = 2 * cntB (vb ws) (2 ^ n) := by
  have hσ : cntB (fun i => vb ws (wth i V (!i.testBit V))) (2 ^ n) = cntB (vb ws) (2 ^ n) := cntB_perm (σ := fun i => wth i V (!i.testBit V)) (fun i hi => wth_lt hi hV) (fun i j _ _ h => by
    have h' : wth i V (!i.testBit V) = wth j V (!j.testBit V) := h
    apply Nat.eq_of_testBit_eq
    intro t
    have ht := congrArg (fun x => x.testBit t) h'
    have hv := congrArg (fun x => x.testBit V) h'
    simp only [wth_bit, if_true] at ht hv
    by_cases htV : t = V
    · subst htV
      simpa using hv
    · simpa [htV] using ht)
  rw [cntB_congr (F := vb (tab n (hfF V true ws))) (fun j hj => vb_tab hj), cntB_congr (F := vb (tab n (hfF V false ws))) (fun j hj => vb_tab hj)]
  have := cntB_sum (a := hfF V true ws) (b := hfF V false ws) (c := vb ws) (d := fun i => vb ws (wth i V (!i.testBit V))) (m := 2 ^ n) fun i _ => by
    unfold hfF
    conv => rhs; rw [← wth_self i V]
    rw [wth_bit, if_pos rfl, wth_twice]
    cases i.testBit V
    · simp only [Bool.not_false]; omega
    · simp only [Bool.not_true]
  omega
end Go.Proofs.Ytakepdkokjecoaa


/- Shape: the order of the variables above does not matter (plain). -/
namespace Go.Proofs.Ytakepdkokjecoaa
open Go.RowKit Go.Tk Go.Maps

def hT (nn v : Nat) (b : Bool) (x : List Nat) : List Nat := tab nn (hfF v b x)
theorem stepS_hT {nn v : Nat} {L : List (List Nat)} {y : List Nat} : y ∈ stepS nn v L ↔ ∃ x ∈ L, ∃ b, y = hT nn v b x := by
  rw [stepS_mem]
  constructor
  · rintro ⟨x, h, rfl | rfl⟩
    · exact ⟨x, h, false, rfl⟩
    · exact ⟨x, h, true, rfl⟩
  · rintro ⟨x, h, b, rfl⟩
    cases b
    · exact ⟨x, h, .inl rfl⟩
    · exact ⟨x, h, .inr rfl⟩
theorem hT_comm {nn u v : Nat} (hu : u < nn) (hv : v < nn) (hne : u ≠ v) (b c : Bool) (x : List Nat) : hT nn u b (hT nn v c x) = hT nn v c (hT nn u b x) := by
  unfold hT
  refine tab_congr fun i hi => ?_
  show vb (tab nn (hfF v c x)) (wth i u b) = vb (tab nn (hfF u b x)) (wth i v c)
  rw [vb_tab (wth_lt hi hu), vb_tab (wth_lt hi hv)]
  show vb x (wth (wth i u b) v c) = vb x (wth (wth i v c) u b)
  rw [wth_comm hne]
def MemEq (L K : List (List Nat)) : Prop := ∀ y, y ∈ L ↔ y ∈ K
theorem stepS_mono {nn v : Nat} {L K : List (List Nat)} (h : MemEq L K) : MemEq (stepS nn v L) (stepS nn v K) := fun y => by
  rw [stepS_hT, stepS_hT]
  exact ⟨fun ⟨x, h1, h2⟩ => ⟨x, (h x).1 h1, h2⟩, fun ⟨x, h1, h2⟩ => ⟨x, (h x).2 h1, h2⟩⟩
theorem stepS_swap {nn u v : Nat} (hu : u < nn) (hv : v < nn) (L : List (List Nat)) : MemEq (stepS nn u (stepS nn v L)) (stepS nn v (stepS nn u L)) := by
  by_cases hne : u = v
  · subst hne; exact fun y => Iff.rfl
  · intro y
    rw [stepS_hT, stepS_hT]
    constructor
    · rintro ⟨x, h1, b, rfl⟩
      obtain ⟨z, h2, c, rfl⟩ := stepS_hT.1 h1
      exact ⟨hT nn u b z, stepS_hT.2 ⟨z, h2, b, rfl⟩, c, hT_comm hu hv hne b c z⟩
    · rintro ⟨x, h1, b, rfl⟩
      obtain ⟨z, h2, c, rfl⟩ := stepS_hT.1 h1
      exact ⟨hT nn v b z, stepS_hT.2 ⟨z, h2, b, rfl⟩, c, (hT_comm hu hv hne c b z).symm⟩
theorem setAt_cons (nn v : Nat) (L : List (List Nat)) (vs : List Nat) : setAt nn L (v :: vs) = setAt nn (stepS nn v L) vs := by simp only [setAt, List.foldl_cons]
theorem setAt_mono {nn : Nat} : ∀ (vs : List Nat) {L K : List (List Nat)}, MemEq L K → MemEq (setAt nn L vs) (setAt nn K vs)
  | [], _, _, h => h
  | v :: vs, L, K, h => by
    rw [setAt_cons, setAt_cons]
    exact setAt_mono vs (stepS_mono h)
theorem setAt_perm {nn : Nat} {vs us : List Nat} (h : vs.Perm us) : (∀ v ∈ vs, v < nn) → ∀ L, MemEq (setAt nn L vs) (setAt nn L us) := by
  induction h with
  | nil => exact fun _ _ _ => Iff.rfl
  | cons v _ ih =>
    intro hv L
    rw [setAt_cons, setAt_cons]
    exact ih (fun x hx => hv x (List.mem_cons_of_mem _ hx)) (stepS nn v L)
  | swap a b l =>
    intro hv L
    rw [setAt_cons, setAt_cons, setAt_cons, setAt_cons]
    exact setAt_mono l (stepS_swap (hv a (by simp)) (hv b (by simp)) L)
  | trans h1 _ ih1 ih2 =>
    intro hv L y
    exact (ih1 hv L y).trans (ih2 (fun v hx => hv v (h1.mem_iff.2 hx)) L y)
theorem cntL_eq {nn v : Nat} {L K : List (List Nat)} (hL : L.Nodup) (hK : K.Nodup) (h : MemEq L K) : cntL nn v L = cntL nn v K := by
  unfold cntL
  exact (((List.perm_ext_iff_of_nodup hL hK).2 h).filter _).length_eq
theorem cnt_perm {nn v : Nat} {L : List (List Nat)} (hL : L.Nodup) {vs us : List Nat} (hvs : vs.Nodup) (hus : us.Nodup) (h : ∀ x, x ∈ vs ↔ x ∈ us) (hv : ∀ x ∈ vs, x < nn) : cntL nn v (setAt nn L vs) = cntL nn v (setAt nn L us) :=
  cntL_eq (setAt_nodup _ hL) (setAt_nodup _ hL) (setAt_perm ((List.perm_ext_iff_of_nodup hvs hus).2 h) hv L)
/-- the variables above, as bits -/
def abv (vs : List Nat) : Nat := vs.foldl (fun a v => a ||| 2 ^ v) 0
theorem abv_snoc (vs : List Nat) (v : Nat) : abv (vs ++ [v]) = abv vs ||| 2 ^ v := by simp [abv]
theorem or_foldl_bit (u : Nat) : ∀ (vs : List Nat) (a : Nat), (vs.foldl (fun a v => a ||| 2 ^ v) a).testBit u = (a.testBit u || decide (u ∈ vs))
  | [], a => by simp
  | v :: vs, a => by
    rw [List.foldl_cons, or_foldl_bit u vs, Nat.testBit_or, Nat.testBit_two_pow]
    by_cases h : u = v
    · subst h; simp
    · have : ¬ v = u := fun h' => h h'.symm
      simp [h, this]
theorem abv_bit (vs : List Nat) (u : Nat) : (abv vs).testBit u = decide (u ∈ vs) := by
  unfold abv
  rw [or_foldl_bit]
  simp
theorem abv_lt {vs : List Nat} {nn : Nat} (h : ∀ v ∈ vs, v < nn) : abv vs < 2 ^ nn := Nat.lt_pow_two_of_testBit _ fun i hi => by
  rw [abv_bit, decide_eq_false_iff_not]
  intro hm
  have := h i hm
  omega
theorem bitsL_mem {nn ab u : Nat} : u ∈ bitsL nn ab ↔ u < nn ∧ ab.testBit u = true := by
  unfold bitsL
  rw [List.mem_filter, List.mem_range]
theorem bitsL_nodup (nn ab : Nat) : (bitsL nn ab).Nodup := List.nodup_range.filter _
theorem cnt_abv {nn v : Nat} {L : List (List Nat)} (hL : L.Nodup) {vs : List Nat} (hvs : vs.Nodup) (hv : ∀ x ∈ vs, x < nn) : cntL nn v (setAt nn L (bitsL nn (abv vs))) = cntL nn v (setAt nn L vs) :=
  cnt_perm hL (bitsL_nodup _ _) hvs (fun x => by rw [bitsL_mem, abv_bit, decide_eq_true_eq]; exact ⟨fun h => h.2, fun h => ⟨hv x h, h⟩⟩) (fun x hx => (bitsL_mem.1 hx).1)
/-- what Level answers under an order's beginning -/
theorem level_of {xs : List Tb} {os : List Int} {l : Nat} {v : Nat} (he : prE xs os = 0) (hne : xs ≠ []) (hper : IsPerm os) (hv : os[l]? = some (v : Int)) :
    lvE xs (abv ((os.map Int.toNat).take l)) v = 0 ∧ lvC xs (abv ((os.map Int.toNat).take l)) v = cntL os.length v (setAt os.length (tSet xs) ((os.map Int.toNat).take l)) := by
  have hfm : fm xs = true := by
    cases h : fm xs with
    | true => rfl
    | false => unfold prE at he; rw [h] at he; cases he
  have hN : tN0 xs = (os.length : Int) := by
    unfold prE at he
    rw [hfm, if_pos rfl] at he
    by_cases hc : (0 < xs.length ∧ (os.length : Int) ≠ tN0 xs) ∨ chk os = 4
    · rw [if_pos hc] at he; cases he
    · by_cases hh : (os.length : Int) = tN0 xs
      · exact hh.symm
      · exact absurd (.inl ⟨List.length_pos_iff.2 hne, hh⟩) hc
  have hlv : lvN xs = os.length := by
    unfold lvN
    rw [if_neg (by rw [List.length_eq_zero_iff]; exact hne), hN]
    rfl
  have hnd : (os.map Int.toNat).Nodup := by
    rw [List.nodup_iff_pairwise_ne, List.pairwise_map]
    refine List.Pairwise.imp_of_mem ?_ hper.2
    intro a b ha hb hab h
    have h1 := hper.1 a ha
    have h2 := hper.1 b hb
    omega
  have hlt : ∀ x ∈ (os.map Int.toNat).take l, x < os.length := fun x hx => by
    obtain ⟨y, hy, rfl⟩ := List.mem_map.1 (List.mem_of_mem_take hx)
    have := hper.1 y hy
    omega
  have hvl := lt_of_get hv
  have hvn := hper.1 _ (List.mem_of_getElem? hv)
  have hvk : (os.map Int.toNat)[l]? = some v := by rw [List.getElem?_map, hv]; rfl
  have hnot : v ∉ (os.map Int.toNat).take l := fun hm => by
    obtain ⟨j, hj⟩ := List.getElem?_of_mem hm
    have hjl : j < l := by
      have := lt_of_get hj
      rw [List.length_take] at this
      omega
    rw [List.getElem?_take_of_lt hjl] at hj
    have := (List.getElem?_inj (lt_of_get hj) hnd).1 (hj.trans hvk.symm)
    omega
  have hE : lvE xs (abv ((os.map Int.toNat).take l)) v = 0 := by
    unfold lvE
    rw [hfm, if_pos rfl, hlv, if_neg, Int.toNat_natCast, abv_bit, if_neg (by simpa using hnot)]
    rintro (h | h | h)
    · omega
    · omega
    · exact h (Nat.div_eq_of_lt (abv_lt hlt))
  refine ⟨hE, ?_⟩
  unfold lvC
  rw [if_pos hE, hlv, Int.toNat_natCast]
  exact cnt_abv (uniq_nodup _) (hnd.sublist (List.take_sublist _ _)) hlt
end Go.Proofs.Ytakepdkokjecoaa


/- Shape: Pairs. -/
namespace Go.Proofs.Ytakepdkokjecoaa
open Go.RowKit Go.Tk Go.Maps

def andB (s v : Nat) : Nat := s &&& (18446744073709551615 - 2 ^ v)
def pstep (v : Nat) (a : Nat) (t : Tb) : Nat := if (supN t.N t.ws).testBit v then a ||| andB (supN t.N t.ws) v else a
def prV (ts : List Tb) (v : Nat) : Nat := ts.foldl (pstep v) 0
theorem prV_snoc (ts : List Tb) (t : Tb) (v : Nat) : prV (ts ++ [t]) v = pstep v (prV ts v) t := by simp [prV]
def mixR (nn : Nat) (ts : List Tb) (t : Tb) (k : Nat) : List Nat := (List.range nn).map fun u => if u < k then prV (ts ++ [t]) u else prV ts u
def prRow (nn : Nat) (ts : List Tb) : List Nat := (List.range nn).map (prV ts)
theorem mixR_len (nn : Nat) (ts : List Tb) (t : Tb) (k : Nat) : (mixR nn ts t k).length = nn := by simp [mixR]
theorem prRow_len (nn : Nat) (ts : List Tb) : (prRow nn ts).length = nn := by simp [prRow]
theorem mixR_zero (nn : Nat) (ts : List Tb) (t : Tb) : mixR nn ts t 0 = prRow nn ts := by simp [mixR, prRow]
theorem mixR_all (nn : Nat) (ts : List Tb) (t : Tb) : mixR nn ts t nn = prRow nn (ts ++ [t]) := by
  unfold mixR prRow
  exact List.map_congr_left fun u hu => if_pos (List.mem_range.1 hu)
theorem prRow_nil (nn : Nat) : prRow nn [] = List.replicate nn 0 := by
  apply List.ext_getElem?
  intro i
  rcases Nat.lt_or_ge i nn with h | h
  · simp [prRow, prV, h]
  · rw [List.getElem?_eq_none (by rw [prRow_len]; exact h), List.getElem?_eq_none (by simpa using h)]
theorem mixR_get {nn : Nat} {ts : List Tb} {t : Tb} {k : Nat} (h : k < nn) : (mixR nn ts t k)[k]? = some (prV ts k) := by simp [mixR, h]
theorem mixR_set {nn : Nat} {ts : List Tb} {t : Tb} {k : Nat} (h : k < nn) : (mixR nn ts t k).set k (prV (ts ++ [t]) k) = mixR nn ts t (k + 1) := by
  apply List.ext_getElem?
  intro i
  rcases Nat.lt_or_ge i nn with hi | hi
  · rw [List.getElem?_set, mixR_len]
    simp only [mixR, List.getElem?_map, List.getElem?_range hi, Option.map_some]
    by_cases he : k = i
    · subst he; simp [h]
    · rw [if_neg he]
      congr 1
      by_cases h1 : i < k
      · rw [if_pos h1, if_pos (by omega)]
      · rw [if_neg h1, if_neg (by omega)]
  · rw [List.getElem?_eq_none (by simp [mixR_len, hi]), List.getElem?_eq_none (by rw [mixR_len]; exact hi)]
theorem mixR_skip {nn : Nat} {ts : List Tb} {t : Tb} {k : Nat} (h : (supN t.N t.ws).testBit k = false) : mixR nn ts t k = mixR nn ts t (k + 1) := by
  unfold mixR
  refine List.map_congr_left fun u _ => ?_
  by_cases h1 : u < k
  · rw [if_pos h1, if_pos (by omega)]
  · rw [if_neg h1]
    by_cases h2 : u < k + 1
    · obtain rfl : u = k := by omega
      rw [if_pos h2, prV_snoc, pstep, h]
      rfl
    · rw [if_neg h2]
theorem supN_lt (N : Int) (ws : List Nat) : supN N ws < 65536 := by
  unfold supN
  split
  · rename_i h
    have := frm_16 h
    exact Nat.lt_of_lt_of_le (bsum_lt _ _) (Nat.pow_le_pow_right (n := 2) (by omega) this)
  · omega
theorem andB_lt {s : Nat} (h : s < 65536) (v : Nat) : andB s v < 65536 := Nat.lt_of_le_of_lt Nat.and_le_left h
theorem pstep_lt {v a : Nat} (t : Tb) (h : a < 65536) : pstep v a t < 65536 := by
  unfold pstep
  split
  · exact Nat.or_lt_two_pow (n := 16) h (andB_lt (supN_lt _ _) v)
  · exact h
theorem prV_lt (v : Nat) : ∀ (ts : List Tb) (a : Nat), a < 65536 → ts.foldl (pstep v) a < 65536
  | [], _, h => h
  | t :: ts, _, h => prV_lt v ts _ (pstep_lt t h)
theorem andB_int {a s v : Nat} (ha : a < 65536) (hs : s < 65536) (hv : v < 16) : bits .or .u64 (a : Int) (bits .andNot .u64 (s : Int) (IntKind.u64.wrap (2 ^ v))) = ((a ||| andB s v : Nat) : Int) := by
  have h1 : (2 : Nat) ^ v ≤ 2 ^ 16 := Nat.pow_le_pow_right (by omega) (by omega)
  have h2 : (2 : Int) ^ v = ((2 ^ v : Nat) : Int) := by rw [Int.natCast_pow]; rfl
  have h3 := andB_lt hs v
  unfold andB at *
  rw [h2]
  generalize 2 ^ v = pw at *
  rw [IntWalk.u64_in _ (by omega), u64_andNot_nat s pw (by omega) (by omega)]
  exact u64_or_nat a _ (by omega) (by omega)
def paE (xs : List Tb) : Int := if fm xs then 0 else 5
def paR (xs : List Tb) : List Nat := if fm xs = true ∧ xs ≠ [] then prRow (tN0 xs).toNat xs else []
set_option maxRecDepth 100000 in
set_option maxHeartbeats 16000000 in
theorem pairs_any (AL : Option Addr) (n C : Nat) (xs : List Tb) (w : World) (h : Sl w 2 Tb.cells AL n xs) (hok : ∀ t ∈ xs, TbOk w t) (hn : n ≤ 8796093022210) :
    Calls Try.prog 17 #[.slice AL n C] w fun e w' => ∃ A D, e = .returned (.tuple #[.slice A (paR xs).length D, .int .i64 (paE xs)]) ∧ NewT w (paR xs) A D w' := by
  have H := Lib.hid h
  have HOK := Lib.hid hok
  have HXL := Lib.hid h.len
  clear h hok
  obtain ⟨r, hr⟩ : ∃ r, fm xs = r := ⟨_, rfl⟩
  go_enter Try.func17, Try.ntmps17
  go_wp2_with (fail)
  refine (scheck_any AL n C xs w H.out (by omega) HOK.out).mono ?_
  rintro e w1 ⟨rfl, hs⟩
  rw [hr]
  have HS := Lib.hid hs
  clear hs
  cases r with
  | false =>
    have HE := Lib.hid (show paE xs = 5 by unfold paE; rw [hr]; rfl)
    have HR := Lib.hid (show paR xs = [] by unfold paR; rw [if_neg (by rw [hr]; simp)])
    clear hr
    go_wp2
    go_ret2
    exact ⟨none, 0, by rw [HE.out, HR.out]; rfl, by rw [HR.out]; exact NewT.nil HS.out⟩
  | true =>
    have HFM := Lib.hid hr
    have HE := Lib.hid (show paE xs = 0 by unfold paE; rw [hr]; rfl)
    clear hr
    by_cases hn0 : n = 0
    · have hx0 : xs = [] := List.eq_nil_of_length_eq_zero (by rw [← HXL.out]; exact hn0)
      have hnz : ((n : Int) == 0) = true := by rw [hn0]; rfl
      have HR := Lib.hid (show paR xs = [] by unfold paR; rw [if_neg (by simp [hx0])])
      clear hx0 hn0
      go_wp2
      go_ret2
      exact ⟨none, 0, by rw [HE.out, HR.out]; rfl, by rw [HR.out]; exact NewT.nil HS.out⟩
    · have hnz : ((n : Int) == 0) = false := by rw [beq_eq_false_iff_ne]; omega
      have hnp : (0 : Int) < n := by omega
      obtain ⟨t0, ht0⟩ : ∃ t, xs[0]? = some t := ⟨_, List.getElem?_eq_getElem (by rw [← HXL.out]; omega)⟩
      have hd0 : tN0 xs = t0.N := by unfold tN0; rw [List.getD_eq_getElem?_getD, ht0]; rfl
      obtain ⟨bl, o, hA, hbl, hc⟩ := (Sl.same H.out HS.out).get 0 t0 ht0
      have c0 : w1.cell? ⟨bl, o, none⟩ = some (.int .i64 t0.N) := by simpa [Tb.cells] using hc 0 (by omega)
      subst hA
      have hfr := (fm_all HFM.out t0 (List.mem_of_getElem? ht0)).1
      obtain ⟨nn, hnn, hfn⟩ := frm_true hfr
      have hn16 : nn ≤ 16 := hfn.n16
      have HR := Lib.hid (show paR xs = prRow nn xs by
        unfold paR
        rw [if_pos ⟨HFM.out, by rintro rfl; cases ht0⟩, hd0, hnn]
        rfl)
      rw [hnn] at c0
      have hmk := fun w => run_make_n (P := Try.prog) Try.underlying35 info_u64 .i64 .i64 nn (show 8 * nn ≤ 281474976710656 by omega) (show nn ≤ 9223372036854775807 by omega) w
      clear hc ht0 hd0 hnn hfr hfn hn0
      go_upto_region 6 with fail
      refine wp_world fun w2 hw => ?_
      have hs2 : Same w1 w2 := by rw [hw]; exact (Frm.refl _ _).alloc _
      have hO := Own.ofMade (m := 1) w1 30 ucell (fun _ => rfl) (by decide) 0 nn (show nn ≤ 9223372036854775807 by omega) rfl
      have hw2 : w2 = w1.alloc (.cells (madeCells (ucell 0).toArray (nn * 1)) 30) := by rw [hw]; simp [ucell]
      rw [← hw2] at hO
      have hgw : w.heap.size ≤ w1.heap.size := HS.out.size
      obtain ⟨G, hG⟩ : ∃ z, z = w1.heap.size := ⟨_, rfl⟩
      rw [← hG] at hO hgw ⊢
      have HS2 := Lib.hid (HS.out.trans hs2 (fun _ _ h => h))
      have HO := Lib.hid hO
      clear hw hw2 hG hs2 hO hmk c0 hbl HS
      go_wp2
      go_loopw [23] (fun i wi => ∃ k : Nat, k ≤ n ∧ i = .int .i64 k ∧ Same w wi ∧ OwnW wi (some ⟨G, 0, none⟩) nn nn (prRow nn (xs.take k))) (fun i _ => n - (intOf i).toNat)
      case atStart => exact ⟨0, by omega, rfl, HS2.out, by rw [List.take_zero, prRow_nil]; exact HO.out⟩
      case round =>
        obtain ⟨k, hk, rfl, hs, ho⟩ := hrel
        clear HS2 HO
        by_cases hlt : k < n
        · obtain ⟨t, ht⟩ : ∃ t, xs[k]? = some t := ⟨_, List.getElem?_eq_getElem (by rw [← HXL.out]; exact hlt)⟩
          obtain ⟨b', o', hA', hbl, hc⟩ := (Sl.same H.out hs).get k t ht
          injection hA' with hA'
          injection hA' with hA1 hA2
          subst hA1 hA2
          have c0 : wr.cell? ⟨bl, o + k * 2, none⟩ = some (.int .i64 t.N) := hc 0 (by omega)
          have c1 : wr.cell? ⟨bl, o + k * 2 + 1, none⟩ = some (.slice t.A t.ws.length t.C) := hc 1 (by omega)
          have HTK := Lib.hid (show xs.take (k + 1) = xs.take k ++ [t] by rw [List.take_add_one, ht]; rfl)
          have HTO := Lib.hid ((HOK.out t (List.mem_of_getElem? ht)).same hs)
          have HFR := Lib.hid (fm_all HFM.out t (List.mem_of_getElem? ht)).1
          have hk0 : (0 : Int) ≤ k := by omega
          have hk1 : (k : Int) < n := by omega
          have HS := Lib.hid hs
          have HO := Lib.hid ho
          clear hc ht hs ho
          obtain ⟨tN, tA, tC, tw⟩ := t
          simp only at c0 c1
          go_upto_region 9 with fail
          refine wp_world fun w3 hw => ?_
          have hs3 : Same wr w3 := by rw [hw]; exact (Frm.refl _ _).alloc _
          have hBX : Blk w3 wr.heap.size 37 #[.int .i64 tN, .slice tA tw.length tC] := by rw [hw]; exact Blk.new _ _ _
          obtain ⟨X, hX⟩ : ∃ z, z = wr.heap.size := ⟨_, rfl⟩
          rw [← hX] at hBX ⊢
          have cX0 : w3.cell? ⟨X, 0, none⟩ = some (.int .i64 tN) := hBX.cell 0
          have cX1 : w3.cell? ⟨X, 1, none⟩ = some (.slice tA tw.length tC) := hBX.cell 1
          have lX := hBX.lt
          replace HS := Lib.hid (HS.out.trans hs3 (fun _ _ h => h))
          replace HO := Lib.hid (Own.frm HO.out hs3 (fun _ _ => id))
          replace HTO := Lib.hid (HTO.out.same hs3)
          clear hw hX hBX hs3 c0 c1 hbl
          go_wp2_with (fail)
          refine (Support_any tN tA tC tw w3 HTO.out).mono ?_
          rintro e w4 ⟨rfl, hs⟩
          replace HS := Lib.hid (HS.out.trans hs (fun _ _ h => h))
          replace HO := Lib.hid (Own.frm HO.out hs (fun _ _ => id))
          clear hs cX0 cX1 lX HTO
          obtain ⟨s, hsd⟩ : ∃ z, z = supN tN tw := ⟨_, rfl⟩
          have HSD := Lib.hid hsd
          have hs16 : s < 65536 := by rw [hsd]; exact supN_lt _ _
          rw [← hsd]
          clear hsd
          go_wp2
          obtain ⟨wo, rfl⟩ : ∃ z, z = w4 := ⟨_, rfl⟩
          obtain ⟨ts, hts⟩ : ∃ z, z = xs.take k := ⟨_, rfl⟩
          rw [← hts] at HO HTK
          clear hts
          go_loopw [34] (fun i wi => ∃ v : Nat, v ≤ nn ∧ i = .int .i64 v ∧ Same w wi ∧ OwnW wi (some ⟨G, 0, none⟩) nn nn (mixR nn ts ⟨tN, tA, tC, tw⟩ v)) (fun i _ => nn - (intOf i).toNat)
          case atStart => exact ⟨0, by omega, rfl, HS.out, by rw [mixR_zero]; exact HO.out⟩
          case round =>
            clear HS HO
            obtain ⟨v, hv, rfl, hs, ho⟩ := hrel
            by_cases hlv : v < nn
            · have hv0 : (0 : Int) ≤ v := by omega
              have hv1 : (v : Int) < nn := by omega
              by_cases hbt : s.testBit v = true
              · have hbi : (bits .and .u64 ((s : Int) / 2 ^ v) 1 == 1) = true := by rw [sbit_int (by omega)]; exact hbt
                obtain ⟨s0, h0, hgl, cc⟩ := Own.at1 (c := fun x : Nat => .int .u64 (x : Int)) ho (mixR_get hlv)
                injection h0 with h0
                injection h0 with h0
                subst h0
                have fz := Own.free ho v
                obtain ⟨a, ha⟩ : ∃ z, z = prV ts v := ⟨_, rfl⟩
                have ha16 : a < 65536 := by rw [ha]; exact prV_lt v ts 0 (by omega)
                have hai := andB_int (v := v) ha16 hs16 (by omega)
                have hst : prV (ts ++ [⟨tN, tA, tC, tw⟩]) v = a ||| andB s v := by
                  rw [prV_snoc, pstep, ← HSD.out, if_pos hbt, ← ha]
                have HP := Lib.hid (Own.put1 (c := fun x : Nat => .int .u64 (x : Int)) ho (i := v) (by rw [mixR_len]; exact hlv) (prV (ts ++ [⟨tN, tA, tC, tw⟩]) v))
                rw [mixR_set hlv, hst] at HP
                rw [← ha] at cc
                have HSV := Lib.hid (hs.setNew v (.int .u64 ((a ||| andB s v : Nat) : Int)) hgw)
                clear ha hst hs ho hbt ha16
                go_upto_region 14 with fail
                go_region
                have HO2 := Lib.hid (Own.frm HP.out ((Frm.refl (fun _ => False) _).drew) (fun _ _ => id))
                have HS2 := Lib.hid HSV.out.drew
                clear HP HSV
                generalize (wr.setCell ⟨G, v, none⟩ (.int .u64 ((a ||| andB s v : Nat) : Int))).drew = wz at HO2 HS2 ⊢
                go_wp2
                go_roundw
                case rel => exact ⟨v + 1, by omega, by go_num, HS2.out, HO2.out⟩
                case measure => simp [intOf] <;> omega
              · have hbi : (bits .and .u64 ((s : Int) / 2 ^ v) 1 == 1) = false := by rw [sbit_int (by omega)]; simpa using hbt
                have hbf : (supN tN tw).testBit v = false := by rw [← HSD.out]; simpa using hbt
                have HO := Lib.hid (show OwnW wr (some ⟨G, 0, none⟩) nn nn (mixR nn ts ⟨tN, tA, tC, tw⟩ (v + 1)) by rw [← mixR_skip hbf]; exact ho)
                have HS := Lib.hid hs
                clear hbf hbt hs ho
                go_wp2
                go_roundw
                case rel => exact ⟨v + 1, by omega, by go_num, HS.out, HO.out⟩
                case measure => simp [intOf] <;> omega
            · obtain rfl : v = nn := by omega
              have HO := Lib.hid (show OwnW wr (some ⟨G, 0, none⟩) v v (prRow v (xs.take (k + 1))) by rw [HTK.out, ← mixR_all]; exact ho)
              have HS := Lib.hid hs
              clear hs ho
              go_wp2
              go_roundw
              case rel => exact ⟨k + 1, by omega, by go_num, HS.out, HO.out⟩
              case measure => simp [intOf] <;> omega
        · obtain rfl : k = n := by omega
          rw [List.take_of_length_le (by rw [← HXL.out]; exact Nat.le_refl _)] at ho
          have HO := Lib.hid ho
          have HS := Lib.hid hs
          clear ho hs
          go_wp2
          go_ret2
          exact ⟨some ⟨G, 0, none⟩, nn, by rw [HE.out, HR.out, prRow_len]; rfl, by rw [HR.out, NewT, prRow_len]; exact ⟨HO.out, fresh_some hgw, HS.out⟩⟩
end Go.Proofs.Ytakepdkokjecoaa


/- Shape: the document's check. -/
namespace Go.Proofs.Ytakepdkokjecoaa
open Go.RowKit Go.Tk Go.Maps

def nAt (m : Int) (ts : List Tb) (k : Nat) : Int := if k = 0 then m else tN0 ts
def ckN (ts : List Tb) (m : Int) : Int := if fm ts then (if ts = [] then m else tN0 ts) else 0
theorem TbOk.form5 {w : World} {t : Tb} (h : TbOk w t) {w' : World} (hs : Same w w') : Calls Try.prog 44 #[t.val] w' fun e w'' => e = .returned (.bool t.frm) ∧ Same w' w'' :=
  sform_any t.N t.A t.ws.length t.C t.ws w' (Sl.same h.wl hs) h.small
set_option maxHeartbeats 2000000 in
theorem dcheck_any (AL : Option Addr) (n C : Nat) (ts : List Tb) (m : Int) (w : World) (h : Sl w 2 Tb.cells AL n ts) (hn1 : n ≤ 1000000000000000000) (hok : ∀ t ∈ ts, TbOk w t) :
    Calls Try.prog 33 #[.slice AL n C, .int .i64 m] w fun e w' => e = .returned (.tuple #[.int .i64 (ckN ts m), .int .i64 (paE ts)]) ∧ Same w w' := by
  have hn := h.len
  have H := Lib.hid h
  have HOK := Lib.hid hok
  obtain ⟨r, hr⟩ : ∃ r, fm ts = r := ⟨_, rfl⟩
  have hcn : ckN ts m = if r then nAt m ts n else 0 := by unfold ckN nAt; rw [hr, hn]; simp only [List.length_eq_zero_iff]
  have hpe : paE ts = if r then 0 else 5 := by unfold paE; rw [hr]
  rw [hcn, hpe]
  have HR := Lib.hid hr
  have HN := Lib.hid hn
  clear h hok hr hn hcn hpe
  go_enter Try.func33, Try.ntmps33
  go_wp2
  go_loopw [1, 10] (fun v i wr => ∃ k : Nat, k ≤ n ∧ v = .int .i64 (nAt m ts k) ∧ i = .int .i64 k ∧ (∀ j t, ts[j]? = some t → j < k → t.frm = true ∧ t.N = (ts.getD 0 ⟨0, none, 0, []⟩).N) ∧ Same w wr) (fun _ i _ => n - (intOf i).toNat)
  case atStart => exact ⟨0, by omega, rfl, rfl, fun j t _ h => by omega, Frm.refl _ _⟩
  case round =>
    obtain ⟨k, hk, rfl, rfl, hall, hs⟩ := hrel
    have HALL := Lib.hid hall
    have HS := Lib.hid hs
    by_cases hlt : k < n
    · have hi1 : (k : Int) < n := by omega
      have hi0 : (0 : Int) ≤ k := by omega
      have hn0 : (0 : Int) < n := by omega
      obtain ⟨t, ht⟩ : ∃ t, ts[k]? = some t := ⟨_, List.getElem?_eq_getElem (by rw [← HN.out]; exact hlt)⟩
      obtain ⟨t0, ht0⟩ : ∃ t, ts[0]? = some t := ⟨_, List.getElem?_eq_getElem (by rw [← HN.out]; omega)⟩
      have hd0 : ts.getD 0 ⟨0, none, 0, []⟩ = t0 := by rw [List.getD_eq_getElem?_getD, ht0]; rfl
      obtain ⟨g, o, hA, hg, hc⟩ := (Sl.same H.out hs).get k t ht
      have hc0 : wr.cell? ⟨g, o + k * 2, none⟩ = some (.int .i64 t.N) := hc 0 (by omega)
      have hc1 : wr.cell? ⟨g, o + k * 2 + 1, none⟩ = some (.slice t.A t.ws.length t.C) := hc 1 (by omega)
      obtain ⟨g', o', hA', _, hz⟩ := (Sl.same H.out hs).get 0 t0 ht0
      rw [hA] at hA'
      injection hA' with hA'
      injection hA' with hA1 hA2
      subst hA1 hA2
      have hz0 : wr.cell? ⟨g, o, none⟩ = some (.int .i64 t0.N) := by simpa [Tb.cells] using hz 0 (by omega)
      subst hA
      clear hc hz
      have htok := HOK.out t (List.mem_of_getElem? ht)
      have hne : g ≠ wr.heap.size := by omega
      have HT := Lib.hid ht
      have HD0 := Lib.hid hd0
      clear ht ht0 hd0 hall hs
      obtain ⟨tN, tA, tC, tws⟩ := t
      obtain ⟨zN, zA, zC, zws⟩ := t0
      simp only at hc0 hc1 hz0
      have HTOK := Lib.hid htok
      clear htok
      have hbx : ∃ b, (Tb.mk tN tA tC tws).frm = b := ⟨_, rfl⟩
      obtain ⟨bb, hbb⟩ := hbx
      go_upto_region 4 with fail
      refine wp_world fun wa hwa => ?_
      have hsa : Same wr wa := by rw [hwa]; exact (Frm.refl _ _).alloc _
      have hB := Blk.new wr 37 #[.int .i64 tN, .slice tA tws.length tC]
      rw [← hwa] at hB
      have hb0 : wa.cell? ⟨wr.heap.size, 0, none⟩ = some (.int .i64 tN) := hB.cell 0
      have hb1 : wa.cell? ⟨wr.heap.size, 1, none⟩ = some (.slice tA tws.length tC) := hB.cell 1
      have hbl := hB.lt
      have hza : wa.cell? ⟨g, o, none⟩ = some (.int .i64 zN) := (hsa.cell (p := ⟨g, o, none⟩) hg id).trans hz0
      have hga : g < wa.heap.size := by omega
      have hfc : ∀ w', Same wa w' → Calls Try.prog 44 #[.agg #[.int .i64 tN, .slice tA tws.length tC]] w' fun e w'' => e = .returned (.bool bb) ∧ Same w' w'' := fun w' hs' => by
        have := HTOK.out.form5 ((HS.out.trans hsa (fun _ _ h => h)).trans hs' (fun _ _ h => h))
        rw [hbb] at this
        exact this
      have HFC := Lib.hid hfc
      have HSA := Lib.hid (HS.out.trans hsa (fun _ _ h => h))
      have HBB := Lib.hid hbb
      clear hwa hsa hB hc0 hc1 hz0 hg hfc HTOK hbb
      cases bb with
      | false =>
        have hf : r = false := by
          rw [← HR.out]
          unfold fm
          rw [List.all_eq_false]
          exact ⟨_, List.mem_of_getElem? HT.out, by simp [HBB.out]⟩
        subst hf
        refine wp_quiet (by kernel_rfl) (by kernel_rfl) ?_
        repeat (any_goals (first | go_big_quiet_step ((go_at_call 44; exact quiet_call (HFC.out _ (more_same _ _)))) | quiet_step ((go_at_call 44; exact quiet_call (HFC.out _ (more_same _ _))))))
        refine wpQuiet_nil ?_
        rintro _ ⟨q, rfl⟩
        go_wp2
        go_ret2
        exact ⟨rfl, HSA.out.trans (more_same _ q) (fun _ _ h => h)⟩
      | true =>
        by_cases hNN : tN = zN
        · subst hNN
          refine wp_quiet (by kernel_rfl) (by kernel_rfl) ?_
          repeat (any_goals (first | go_big_quiet_step ((go_at_call 44; exact quiet_call (HFC.out _ (more_same _ _)))) | quiet_step ((go_at_call 44; exact quiet_call (HFC.out _ (more_same _ _))))))
          refine wpQuiet_nil ?_
          rintro wq ⟨q, hq⟩
          have hqa : Same wa wq := by rw [hq]; exact more_same _ q
          have hb0q : wq.cell? ⟨wr.heap.size, 0, none⟩ = some (.int .i64 tN) := (hqa.cell (p := ⟨wr.heap.size, 0, none⟩) hbl id).trans hb0
          have hblq : wr.heap.size < wq.heap.size := Nat.lt_of_lt_of_le hbl hqa.size
          have HQA := Lib.hid (HSA.out.trans hqa (fun _ _ h => h))
          have HNV := Lib.hid (show nAt m ts (k + 1) = tN by unfold nAt tN0; rw [if_neg (by omega), HD0.out])
          clear hq hqa hb0 hb1 hbl hza hga
          go_wp2
          go_roundw
          case rel => exact ⟨k + 1, by omega, by rw [HNV.out], by go_num, fun j t hj hjk => by
            by_cases hjk2 : j < k
            · exact HALL.out j t hj hjk2
            · obtain rfl : j = k := by omega
              obtain rfl := Option.some.inj (hj.symm.trans HT.out)
              exact ⟨HBB.out, by rw [HD0.out]⟩, HQA.out⟩
          case measure => simp [intOf] <;> omega
        · have hne2 : (tN != zN) = true := by simpa using hNN
          have hf : r = false := by
            rw [← HR.out]
            unfold fm
            rw [List.all_eq_false]
            exact ⟨_, List.mem_of_getElem? HT.out, by rw [HD0.out]; simp [hNN]⟩
          subst hf
          clear hNN
          refine wp_quiet (by kernel_rfl) (by kernel_rfl) ?_
          repeat (any_goals (first | go_big_quiet_step ((go_at_call 44; exact quiet_call (HFC.out _ (more_same _ _)))) | quiet_step ((go_at_call 44; exact quiet_call (HFC.out _ (more_same _ _))))))
          refine wpQuiet_nil ?_
          rintro _ ⟨q, rfl⟩
          go_wp2
          go_ret2
          exact ⟨rfl, HSA.out.trans (more_same _ q) (fun _ _ h => h)⟩
    · obtain rfl : k = n := by omega
      have hf : r = true := by
        rw [← HR.out]
        unfold fm
        rw [List.all_eq_true]
        intro t ht
        obtain ⟨j, hj⟩ := List.getElem?_of_mem ht
        have := HALL.out j t hj (by rw [HN.out]; exact lt_of_get hj)
        simp [this]
      subst hf
      clear hall hs HALL
      go_wp2
      go_ret2
      exact ⟨rfl, HS.out⟩
end Go.Proofs.Ytakepdkokjecoaa
