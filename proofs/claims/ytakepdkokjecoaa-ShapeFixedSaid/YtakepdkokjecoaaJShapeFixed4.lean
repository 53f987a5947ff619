/- Contracts and plain laws, put together in one file. No condition. -/
import Derived.Test.YtakepdkokjecoaaJShapeFixed3
import Derived.Test.YtakepdkokjecoaaRows


/- Shape: ShapeFixed: the walk. -/
namespace Go.Proofs.Ytakepdkokjecoaa
open Go.RowKit Go.Tk Go.Maps

set_option maxRecDepth 100000 in
set_option maxHeartbeats 64000000 in
theorem fixed_walk (w : World) : Calls Try.prog 9 #[] w fun e w' => e = .returned (.bool true) ∧ Below w.heap.size w w' := by
  go_enter Try.func9, Try.ntmps9
  have HS := Lib.hid (Frm.refl (fun _ => False) w)
  go_wp2_with (fail)
  refine (sawake_any w).mono ?_
  rintro e w1 ⟨rfl, hs⟩
  replace HS := Lib.hid (HS.out.trans hs (fun _ _ h => h))
  clear hs
  go_wp2_with (fail)
  refine call_world fun v2 hv => ?_
  have hs : Same w1 v2 := by rw [hv]; exact Frm.refl _ _
  replace HS := Lib.hid (HS.out.trans hs (fun _ _ h => h))
  clear hs hv
  have hone := one_any 8 v2
  refine hone.mono ?_
  rintro e w4 ⟨A3, C3, rfl, hNT⟩
  have hs := hNT.2.2
  replace HS := Lib.hid (HS.out.trans hs (fun _ _ h => h))
  have HT3 := Lib.hid hNT.1
  clear hone hs hNT
  go_wp2_with (fail)
  refine call_world fun v5 hv => ?_
  have hs : Same w4 v5 := by rw [hv]; exact (Frm.refl _ _).alloc _
  have hH6 : Sl v5 2 Tb.cells (some ⟨w4.heap.size, 0, none⟩) 1 [⟨2, A3, C3, [8]⟩] ∧ ∀ t ∈ ([⟨2, A3, C3, [8]⟩] : List Tb), TbOk v5 t := by
    have this := tl1 w4 2 A3 1 C3 [8] rfl HT3.out (small_one (by decide))
    rw [hv]
    exact ⟨Sl.same this.1 (Frm.refl (fun _ => False) _), oks_same this.2 (Frm.refl (fun _ => False) _)⟩
  have H6a := Lib.hid hH6.1
  have H6b := Lib.hid hH6.2
  clear hH6
  replace HS := Lib.hid (HS.out.trans hs (fun _ _ h => h))
  replace HT3 := Lib.hid (Own.frm HT3.out hs (fun _ _ => id))
  clear hs hv
  have hone := one_any 6 v5
  refine hone.mono ?_
  rintro e w8 ⟨A7, C7, rfl, hNT⟩
  have hs := hNT.2.2
  replace HS := Lib.hid (HS.out.trans hs (fun _ _ h => h))
  replace HT3 := Lib.hid (Own.frm HT3.out hs (fun _ _ => id))
  replace H6a := Lib.hid (Sl.same H6a.out hs)
  replace H6b := Lib.hid (oks_same H6b.out hs)
  have HT7 := Lib.hid hNT.1
  clear hone hs hNT
  clear HT3
  go_wp2_with (fail)
  refine call_world fun v9 hv => ?_
  have hs : Same w8 v9 := by rw [hv]; exact (Frm.refl _ _).alloc _
  have hH10 : Sl v9 2 Tb.cells (some ⟨w8.heap.size, 0, none⟩) 1 [⟨2, A7, C7, [6]⟩] ∧ ∀ t ∈ ([⟨2, A7, C7, [6]⟩] : List Tb), TbOk v9 t := by
    have this := tl1 w8 2 A7 1 C7 [6] rfl HT7.out (small_one (by decide))
    rw [hv]
    exact ⟨Sl.same this.1 (Frm.refl (fun _ => False) _), oks_same this.2 (Frm.refl (fun _ => False) _)⟩
  have H10a := Lib.hid hH10.1
  have H10b := Lib.hid hH10.2
  clear hH10
  replace HS := Lib.hid (HS.out.trans hs (fun _ _ h => h))
  replace H6a := Lib.hid (Sl.same H6a.out hs)
  replace H6b := Lib.hid (oks_same H6b.out hs)
  replace HT7 := Lib.hid (Own.frm HT7.out hs (fun _ _ => id))
  clear hs hv
  have hone := one_any 8 v9
  refine hone.mono ?_
  rintro e w12 ⟨A11, C11, rfl, hNT⟩
  have hs := hNT.2.2
  replace HS := Lib.hid (HS.out.trans hs (fun _ _ h => h))
  replace H6a := Lib.hid (Sl.same H6a.out hs)
  replace H6b := Lib.hid (oks_same H6b.out hs)
  replace HT7 := Lib.hid (Own.frm HT7.out hs (fun _ _ => id))
  replace H10a := Lib.hid (Sl.same H10a.out hs)
  replace H10b := Lib.hid (oks_same H10b.out hs)
  have HT11 := Lib.hid hNT.1
  clear hone hs hNT
  clear HT7
  go_wp2_with (fail)
  refine call_world fun v13 hv => ?_
  have hs : Same w12 v13 := by rw [hv]; exact Frm.refl _ _
  replace HS := Lib.hid (HS.out.trans hs (fun _ _ h => h))
  replace H6a := Lib.hid (Sl.same H6a.out hs)
  replace H6b := Lib.hid (oks_same H6b.out hs)
  replace H10a := Lib.hid (Sl.same H10a.out hs)
  replace H10b := Lib.hid (oks_same H10b.out hs)
  replace HT11 := Lib.hid (Own.frm HT11.out hs (fun _ _ => id))
  clear hs hv
  have hone := one_any 14 v13
  refine hone.mono ?_
  rintro e w15 ⟨A14, C14, rfl, hNT⟩
  have hs := hNT.2.2
  replace HS := Lib.hid (HS.out.trans hs (fun _ _ h => h))
  replace H6a := Lib.hid (Sl.same H6a.out hs)
  replace H6b := Lib.hid (oks_same H6b.out hs)
  replace H10a := Lib.hid (Sl.same H10a.out hs)
  replace H10b := Lib.hid (oks_same H10b.out hs)
  replace HT11 := Lib.hid (Own.frm HT11.out hs (fun _ _ => id))
  have HT14 := Lib.hid hNT.1
  clear hone hs hNT
  go_wp2_with (fail)
  refine call_world fun v16 hv => ?_
  have hs : Same w15 v16 := by rw [hv]; exact (Frm.refl _ _).alloc _
  have hH17 : Sl v16 2 Tb.cells (some ⟨w15.heap.size, 0, none⟩) 2 [⟨2, A11, C11, [8]⟩, ⟨2, A14, C14, [14]⟩] ∧ ∀ t ∈ ([⟨2, A11, C11, [8]⟩, ⟨2, A14, C14, [14]⟩] : List Tb), TbOk v16 t := by
    have this := tl2 w15 2 2 A11 A14 1 1 C11 C14 [8] [14] rfl rfl HT11.out HT14.out (small_one (by decide)) (small_one (by decide))
    rw [hv]
    exact ⟨Sl.same this.1 (Frm.refl (fun _ => False) _), oks_same this.2 (Frm.refl (fun _ => False) _)⟩
  have H17a := Lib.hid hH17.1
  have H17b := Lib.hid hH17.2
  clear hH17
  replace HS := Lib.hid (HS.out.trans hs (fun _ _ h => h))
  replace H6a := Lib.hid (Sl.same H6a.out hs)
  replace H6b := Lib.hid (oks_same H6b.out hs)
  replace H10a := Lib.hid (Sl.same H10a.out hs)
  replace H10b := Lib.hid (oks_same H10b.out hs)
  replace HT11 := Lib.hid (Own.frm HT11.out hs (fun _ _ => id))
  replace HT14 := Lib.hid (Own.frm HT14.out hs (fun _ _ => id))
  clear hs hv
  have hone := one_any 10 v16
  refine hone.mono ?_
  rintro e w19 ⟨A18, C18, rfl, hNT⟩
  have hs := hNT.2.2
  replace HS := Lib.hid (HS.out.trans hs (fun _ _ h => h))
  replace H6a := Lib.hid (Sl.same H6a.out hs)
  replace H6b := Lib.hid (oks_same H6b.out hs)
  replace H10a := Lib.hid (Sl.same H10a.out hs)
  replace H10b := Lib.hid (oks_same H10b.out hs)
  replace HT11 := Lib.hid (Own.frm HT11.out hs (fun _ _ => id))
  replace HT14 := Lib.hid (Own.frm HT14.out hs (fun _ _ => id))
  replace H17a := Lib.hid (Sl.same H17a.out hs)
  replace H17b := Lib.hid (oks_same H17b.out hs)
  have HT18 := Lib.hid hNT.1
  clear hone hs hNT
  clear HT11 HT14
  go_wp2_with (fail)
  refine call_world fun v20 hv => ?_
  have hs : Same w19 v20 := by rw [hv]; exact (Frm.refl _ _).alloc _
  have hH21 : Sl v20 2 Tb.cells (some ⟨w19.heap.size, 0, none⟩) 1 [⟨2, A18, C18, [10]⟩] ∧ ∀ t ∈ ([⟨2, A18, C18, [10]⟩] : List Tb), TbOk v20 t := by
    have this := tl1 w19 2 A18 1 C18 [10] rfl HT18.out (small_one (by decide))
    rw [hv]
    exact ⟨Sl.same this.1 (Frm.refl (fun _ => False) _), oks_same this.2 (Frm.refl (fun _ => False) _)⟩
  have H21a := Lib.hid hH21.1
  have H21b := Lib.hid hH21.2
  clear hH21
  replace HS := Lib.hid (HS.out.trans hs (fun _ _ h => h))
  replace H6a := Lib.hid (Sl.same H6a.out hs)
  replace H6b := Lib.hid (oks_same H6b.out hs)
  replace H10a := Lib.hid (Sl.same H10a.out hs)
  replace H10b := Lib.hid (oks_same H10b.out hs)
  replace H17a := Lib.hid (Sl.same H17a.out hs)
  replace H17b := Lib.hid (oks_same H17b.out hs)
  replace HT18 := Lib.hid (Own.frm HT18.out hs (fun _ _ => id))
  clear hs hv
  have hone := one_any 0 v20
  refine hone.mono ?_
  rintro e w23 ⟨A22, C22, rfl, hNT⟩
  have hs := hNT.2.2
  replace HS := Lib.hid (HS.out.trans hs (fun _ _ h => h))
  replace H6a := Lib.hid (Sl.same H6a.out hs)
  replace H6b := Lib.hid (oks_same H6b.out hs)
  replace H10a := Lib.hid (Sl.same H10a.out hs)
  replace H10b := Lib.hid (oks_same H10b.out hs)
  replace H17a := Lib.hid (Sl.same H17a.out hs)
  replace H17b := Lib.hid (oks_same H17b.out hs)
  replace HT18 := Lib.hid (Own.frm HT18.out hs (fun _ _ => id))
  replace H21a := Lib.hid (Sl.same H21a.out hs)
  replace H21b := Lib.hid (oks_same H21b.out hs)
  have HT22 := Lib.hid hNT.1
  clear hone hs hNT
  clear HT18
  go_wp2_with (fail)
  refine call_world fun v24 hv => ?_
  have hs : Same w23 v24 := by rw [hv]; exact Frm.refl _ _
  replace HS := Lib.hid (HS.out.trans hs (fun _ _ h => h))
  replace H6a := Lib.hid (Sl.same H6a.out hs)
  replace H6b := Lib.hid (oks_same H6b.out hs)
  replace H10a := Lib.hid (Sl.same H10a.out hs)
  replace H10b := Lib.hid (oks_same H10b.out hs)
  replace H17a := Lib.hid (Sl.same H17a.out hs)
  replace H17b := Lib.hid (oks_same H17b.out hs)
  replace H21a := Lib.hid (Sl.same H21a.out hs)
  replace H21b := Lib.hid (oks_same H21b.out hs)
  replace HT22 := Lib.hid (Own.frm HT22.out hs (fun _ _ => id))
  clear hs hv
  have hone := one_any 15 v24
  refine hone.mono ?_
  rintro e w26 ⟨A25, C25, rfl, hNT⟩
  have hs := hNT.2.2
  replace HS := Lib.hid (HS.out.trans hs (fun _ _ h => h))
  replace H6a := Lib.hid (Sl.same H6a.out hs)
  replace H6b := Lib.hid (oks_same H6b.out hs)
  replace H10a := Lib.hid (Sl.same H10a.out hs)
  replace H10b := Lib.hid (oks_same H10b.out hs)
  replace H17a := Lib.hid (Sl.same H17a.out hs)
  replace H17b := Lib.hid (oks_same H17b.out hs)
  replace H21a := Lib.hid (Sl.same H21a.out hs)
  replace H21b := Lib.hid (oks_same H21b.out hs)
  replace HT22 := Lib.hid (Own.frm HT22.out hs (fun _ _ => id))
  have HT25 := Lib.hid hNT.1
  clear hone hs hNT
  go_upto_region 5 with fail
  refine wp_world fun v27 hv => ?_
  have hs : Same w26 v27 := by rw [hv]; exact (((Frm.refl _ _).alloc _).alloc _).alloc _
  have hH28 : Sl v27 2 Tb.cells (some ⟨w26.heap.size, 0, none⟩) 2 [⟨2, A22, C22, [0]⟩, ⟨2, A25, C25, [15]⟩] ∧ ∀ t ∈ ([⟨2, A22, C22, [0]⟩, ⟨2, A25, C25, [15]⟩] : List Tb), TbOk v27 t := by
    have this := tl2 w26 2 2 A22 A25 1 1 C22 C25 [0] [15] rfl rfl HT22.out HT25.out (small_one (by decide)) (small_one (by decide))
    rw [hv]
    exact ⟨Sl.same this.1 ((((Frm.refl (fun _ => False) _).alloc _).alloc _)), oks_same this.2 ((((Frm.refl (fun _ => False) _).alloc _).alloc _))⟩
  have H28a := Lib.hid hH28.1
  have H28b := Lib.hid hH28.2
  clear hH28
  have H29 := Lib.hid (show Blk v27 (w26.heap.size + 1) 22 #[.slice (some ⟨w4.heap.size, 0, none⟩) 1 1, .slice (some ⟨w8.heap.size, 0, none⟩) 1 1, .slice (some ⟨w15.heap.size, 0, none⟩) 2 2, .slice (some ⟨w19.heap.size, 0, none⟩) 1 1, .slice (some ⟨w26.heap.size, 0, none⟩) 2 2, .slice none 0 0] by
    have this := Blk.new (w26.alloc (.cells #[.int .i64 2, .slice A22 1 C22, .int .i64 2, .slice A25 1 C25] 37)) 22 #[.slice (some ⟨w4.heap.size, 0, none⟩) 1 1, .slice (some ⟨w8.heap.size, 0, none⟩) 1 1, .slice (some ⟨w15.heap.size, 0, none⟩) 2 2, .slice (some ⟨w19.heap.size, 0, none⟩) 1 1, .slice (some ⟨w26.heap.size, 0, none⟩) 2 2, .slice none 0 0]
    simp only [World.size_alloc] at this
    rw [hv]
    exact this.frm (((Frm.refl (fun _ => False) _).alloc _)) id)
  have H30 := Lib.hid (show Own v27 3 1 icell (some ⟨w26.heap.size + 1 + 1, 0, none⟩) 6 6 [2, 3, 3, 1, 0, 0] by
    have this := Own.lit ((w26.alloc (.cells #[.int .i64 2, .slice A22 1 C22, .int .i64 2, .slice A25 1 C25] 37)).alloc (.cells #[.slice (some ⟨w4.heap.size, 0, none⟩) 1 1, .slice (some ⟨w8.heap.size, 0, none⟩) 1 1, .slice (some ⟨w15.heap.size, 0, none⟩) 2 2, .slice (some ⟨w19.heap.size, 0, none⟩) 1 1, .slice (some ⟨w26.heap.size, 0, none⟩) 2 2, .slice none 0 0] 22)) 3 icell (m := 1) (fun _ => rfl) [2, 3, 3, 1, 0, 0] (by simp [maxLen]) (cs := #[.int .i64 2, .int .i64 3, .int .i64 3, .int .i64 1, .int .i64 0, .int .i64 0]) rfl
    simp only [World.size_alloc] at this
    rw [hv]
    exact Own.frm this (Frm.refl (fun _ => False) _) (fun _ _ => id))
  replace HS := Lib.hid (HS.out.trans hs (fun _ _ h => h))
  replace H6a := Lib.hid (Sl.same H6a.out hs)
  replace H6b := Lib.hid (oks_same H6b.out hs)
  replace H10a := Lib.hid (Sl.same H10a.out hs)
  replace H10b := Lib.hid (oks_same H10b.out hs)
  replace H17a := Lib.hid (Sl.same H17a.out hs)
  replace H17b := Lib.hid (oks_same H17b.out hs)
  replace H21a := Lib.hid (Sl.same H21a.out hs)
  replace H21b := Lib.hid (oks_same H21b.out hs)
  replace HT22 := Lib.hid (Own.frm HT22.out hs (fun _ _ => id))
  replace HT25 := Lib.hid (Own.frm HT25.out hs (fun _ _ => id))
  clear hs hv
  clear HT22 HT25
  obtain ⟨RB, hRB⟩ : ∃ z, z = w26.heap.size + 1 := ⟨_, rfl⟩
  obtain ⟨WB, hWB⟩ : ∃ z, z = w26.heap.size + 1 + 1 := ⟨_, rfl⟩
  rw [← hRB] at H29
  rw [← hWB] at H30
  rw [← hWB, ← hRB]
  have hW0 : ∀ (k : Nat) (z : Int), ([2, 3, 3, 1, 0, 0] : List Int)[k]? = some z → v27.cell? ⟨WB, k, none⟩ = some (.int .i64 z) := fun k z hz => by
    obtain ⟨b, off, h1, _, h3⟩ := (Own.il H30.out).at1 hz
    simp only [Option.some.injEq, Addr.mk.injEq, and_true] at h1
    obtain ⟨rfl, rfl⟩ := h1
    simpa using h3
  have hsix : Six v27 RB WB := fun k hk => by
    match k, hk with
    | 0, _ =>
      have g := fx_le A3 none C3 0
      exact ⟨_, _, _, _, _, H29.out.cell 0, H6a.out, H6b.out, by decide, g.1, g.2.1, hW0 0 _ rfl⟩
    | 1, _ =>
      have g := fx_le A7 none C7 0
      exact ⟨_, _, _, _, _, H29.out.cell 1, H10a.out, H10b.out, by decide, g.2.2.1, g.2.2.2.1, hW0 1 _ rfl⟩
    | 2, _ =>
      have g := fx_le A11 A14 C11 C14
      exact ⟨_, _, _, _, _, H29.out.cell 2, H17a.out, H17b.out, by decide, g.2.2.2.2.1, g.2.2.2.2.2.1, hW0 2 _ rfl⟩
    | 3, _ =>
      have g := fx_le A18 none C18 0
      exact ⟨_, _, _, _, _, H29.out.cell 3, H21a.out, H21b.out, by decide, g.2.2.2.2.2.2.1, g.2.2.2.2.2.2.2.1, hW0 3 _ rfl⟩
    | 4, _ =>
      have g := fx_le A22 A25 C22 C25
      exact ⟨_, _, _, _, _, H29.out.cell 4, H28a.out, H28b.out, by decide, g.2.2.2.2.2.2.2.2.1, g.2.2.2.2.2.2.2.2.2.1, hW0 4 _ rfl⟩
    | 5, _ =>
      have g := fx_le none none 0 0
      exact ⟨_, _, _, _, _, H29.out.cell 5, ⟨rfl, fun i x hi => by simp at hi⟩, fun t ht => (by cases ht), by decide, g.2.2.2.2.2.2.2.2.2.2.1, g.2.2.2.2.2.2.2.2.2.2.2, hW0 5 _ rfl⟩
  have hRl : RB < v27.heap.size := H29.out.lt
  have hWl : WB < v27.heap.size := by obtain ⟨b, off, h1, h2, _⟩ := (Own.il H30.out).at1 (i := 0) (x := 2) rfl; simp only [Option.some.injEq, Addr.mk.injEq, and_true] at h1; obtain ⟨rfl, _⟩ := h1; exact h2
  have SIX := Lib.hid hsix
  clear hsix hW0 hRB hWB
  clear H6a H6b H10a H10b H17a H17b H21a H21b H28a H28b H29 H30
  go_wp2
  go_loopw [43] (fun i wi => ∃ k : Nat, k ≤ 6 ∧ i = .int .i64 k ∧ Same v27 wi) (fun i _ => 6 - (intOf i).toNat)
  case atStart => exact ⟨0, by omega, rfl, Frm.refl _ _⟩
  case round =>
    obtain ⟨k, hk, rfl, hsr⟩ := hrel
    by_cases hlt : k < 6
    · obtain ⟨A, L, C, ts, z, hc, hsl, hok, hL, he, hz, hw⟩ := SIX.out.same hRl hWl hsr k hlt
      have hk0 : (0 : Int) ≤ k := by omega
      have hk1 : (k : Int) < 6 := by omega
      have hRr : RB < wr.heap.size := Nat.lt_of_lt_of_le hRl hsr.size
      have hWr : WB < wr.heap.size := Nat.lt_of_lt_of_le hWl hsr.size
      have HSL := Lib.hid hsl
      have HOK := Lib.hid hok
      have HSR := Lib.hid hsr
      have HE := Lib.hid he
      have HZ := Lib.hid hz
      clear hsl hok hsr he hz
      go_wp2_with (fail)
      refine call_world fun wa hv => ?_
      have hs : Same wr wa := by rw [hv]; exact (Frm.refl _ _).alloc _
      have hil : IL wa (some ⟨wr.heap.size, 0, none⟩) 2 [0, 1] := by
        have this := Own.lit wr 3 icell (m := 1) (fun _ => rfl) [0, 1] (by simp [maxLen]) (cs := #[.int .i64 0, .int .i64 1]) rfl
        rw [hv]
        exact Own.il this
      clear hv
      have hsz := size_any A L C ts _ 2 2 [0, 1] wa (Sl.same HSL.out hs) (oks_same HOK.out hs) (by omega) hil (by decide)
      rw [HE.out, HZ.out] at hsz
      refine hsz.mono ?_
      rintro e wb ⟨rfl, hs2⟩
      have hwb : wb.cell? ⟨WB, k, none⟩ = some (.int .i64 z) := (hs2.cell (p := ⟨WB, k, none⟩) (Nat.lt_of_lt_of_le hWr hs.size) id).trans ((hs.cell (p := ⟨WB, k, none⟩) hWr id).trans hw)
      have hWb : WB < wb.heap.size := Nat.lt_of_lt_of_le hWr (Nat.le_trans hs.size hs2.size)
      have HSN := Lib.hid ((HSR.out.trans hs (fun _ _ h => h)).trans hs2 (fun _ _ h => h))
      have hzz : (z != z) = false := by simp
      clear hs hs2 hil hsz hc hw hRr hWr
      go_wp2
      go_roundw
      case rel => exact ⟨k + 1, by omega, by go_num, HSN.out⟩
      case measure => simp [intOf] <;> omega
    · have hs := hsr
      replace HS := Lib.hid (HS.out.trans hs (fun _ _ h => h))
      clear hs hsr SIX hRl hWl
      obtain ⟨wq, hwq⟩ : ∃ z, z = wr := ⟨_, rfl⟩
      subst hwq
      go_wp2
      clear hk hlt
      go_loopw [7, 8] (fun l i wi => ∃ (k : Nat) (A : Option Addr) (D : Nat), k ≤ 64 ∧ i = .int .i64 k ∧ l = .slice A k D ∧ OwnB wi A k D (vals k pF) ∧ Fresh wq.heap.size A ∧ Same wq wi) (fun _ i _ => 64 - (intOf i).toNat)
      case atStart => exact ⟨0, none, 0, by omega, rfl, rfl, Own.nil _ _ _ _, fresh_none _, Frm.refl _ _⟩
      case round =>
        obtain ⟨k, A, D, hk, rfl, rfl, hob, hfb, hsr⟩ := hrel
        by_cases hlt : k < 64
        · have HTK := Lib.hid (show vals (k + 1) pF = vals k pF ++ [pF k] by simp [vals, List.range_succ])
          have hb1 := b1_eq k hlt
          have hb2 := b2_eq k hlt
          have hb3 := b3_eq k hlt
          have hpf : pF k = (decide (k % 4 = 3) || (decide (k / 4 % 4 = 3) || decide (k / 16 % 4 = 3))) := rfl
          generalize decide (k % 4 = 3) = c1 at hb1 hpf
          generalize decide (k / 4 % 4 = 3) = c2 at hb2 hpf
          generalize decide (k / 16 % 4 = 3) = c3 at hb3 hpf
          have HPF := Lib.hid hpf
          have HOB := Lib.hid hob
          have HFB := Lib.hid hfb
          have HSR := Lib.hid hsr
          have hk0 : (0 : Int) ≤ k := by omega
          clear hpf hob hfb hsr
          cases c1 with
          | true =>
            have hpk : pF k = true := by rw [HPF.out]; rfl
            rw [hpk] at HTK
            clear hpk
            go_upto_region 16 with fail
            refine wp_region_lit ?_
            refine wpList_read 16 ?_
            simp only [List.take_succ_cons, List.take_zero, List.drop_succ_cons, List.drop_zero]
            repeat (any_goals (first | go_big_quiet_step (fail) | quiet_step (fail)))
            refine wpQuiet_nil ?_
            refine wpList_plain rfl fun K hK => ?_
            go_simp
            refine hK _ _ ?_
            clear hK K
            refine list_world fun wd hwd => ?_
            have hsd : Same wr wd := by rw [hwd]; exact (Frm.refl _ _).alloc _
            have hNc := Blk.new wr 4 #[.bool true]
            rw [← hwd] at hNc
            clear hwd
            refine wpList_plain rfl fun K hK => ?_
            refine Own.grow (f := fun b : Bool => [.bool b]) (.tmp 69) (.tmp 85) _ rfl Try.underlying53 info_bool rfl rfl (Own.frm HOB.out hsd (fun _ _ => id)) (fun _ => rfl) [true] (by simp) ⟨wr.heap.size, 0, none⟩ 1 rfl (fun j u hj => news_of_blk hNc j u hj) (by simp [Value.oneCell']) (by simp [maxLen] <;> omega) (by simp <;> omega) ?_
            intro g D' we hOd _ hgr hat
            refine hK _ _ ?_
            clear hK K
            have hse : Same wq we := (HSR.out.trans hsd (fun _ _ h => h)).grown hgr (fun b hb => .inr (HFB.out b (ownBlock_row.1 hb)))
            have hgF : Fresh wq.heap.size (some ⟨g, 0, none⟩) := by
              rcases hat with ⟨h1, _⟩ | ⟨h1, _⟩
              · rw [← h1]; exact HFB.out
              · have := HSR.out.size; have := hsd.size; exact fresh_some (by omega)
            have hod : OwnB we (some ⟨g, 0, none⟩) (k + 1) D' (vals (k + 1) pF) := by rw [HTK.out]; exact hOd
            have HOD := Lib.hid hod
            have HSE := Lib.hid hse
            have HGF := Lib.hid hgF
            clear hgr hOd hat hNc hsd hod hse hgF HOB HFB HSR
            go_wp2
            go_roundw
            case rel => exact ⟨k + 1, some ⟨g, 0, none⟩, D', by omega, by go_num, rfl, HOD.out, HGF.out, HSE.out⟩
            case measure => simp [intOf] <;> omega
          | false =>
            cases c2 with
            | true =>
              have hpk : pF k = true := by rw [HPF.out]; rfl
              rw [hpk] at HTK
              clear hpk
              go_upto_region 16 with fail
              refine wp_region_lit ?_
              refine wpList_read 16 ?_
              simp only [List.take_succ_cons, List.take_zero, List.drop_succ_cons, List.drop_zero]
              repeat (any_goals (first | go_big_quiet_step (fail) | quiet_step (fail)))
              refine wpQuiet_nil ?_
              refine wpList_plain rfl fun K hK => ?_
              go_simp
              refine hK _ _ ?_
              clear hK K
              refine list_world fun wd hwd => ?_
              have hsd : Same wr wd := by rw [hwd]; exact (Frm.refl _ _).alloc _
              have hNc := Blk.new wr 4 #[.bool true]
              rw [← hwd] at hNc
              clear hwd
              refine wpList_plain rfl fun K hK => ?_
              refine Own.grow (f := fun b : Bool => [.bool b]) (.tmp 69) (.tmp 85) _ rfl Try.underlying53 info_bool rfl rfl (Own.frm HOB.out hsd (fun _ _ => id)) (fun _ => rfl) [true] (by simp) ⟨wr.heap.size, 0, none⟩ 1 rfl (fun j u hj => news_of_blk hNc j u hj) (by simp [Value.oneCell']) (by simp [maxLen] <;> omega) (by simp <;> omega) ?_
              intro g D' we hOd _ hgr hat
              refine hK _ _ ?_
              clear hK K
              have hse : Same wq we := (HSR.out.trans hsd (fun _ _ h => h)).grown hgr (fun b hb => .inr (HFB.out b (ownBlock_row.1 hb)))
              have hgF : Fresh wq.heap.size (some ⟨g, 0, none⟩) := by
                rcases hat with ⟨h1, _⟩ | ⟨h1, _⟩
                · rw [← h1]; exact HFB.out
                · have := HSR.out.size; have := hsd.size; exact fresh_some (by omega)
              have hod : OwnB we (some ⟨g, 0, none⟩) (k + 1) D' (vals (k + 1) pF) := by rw [HTK.out]; exact hOd
              have HOD := Lib.hid hod
              have HSE := Lib.hid hse
              have HGF := Lib.hid hgF
              clear hgr hOd hat hNc hsd hod hse hgF HOB HFB HSR
              go_wp2
              go_roundw
              case rel => exact ⟨k + 1, some ⟨g, 0, none⟩, D', by omega, by go_num, rfl, HOD.out, HGF.out, HSE.out⟩
              case measure => simp [intOf] <;> omega
            | false =>
              have hpk : pF k = c3 := by rw [HPF.out]; rfl
              rw [hpk] at HTK
              clear hpk
              go_upto_region 16 with fail
              refine wp_region_lit ?_
              refine wpList_read 16 ?_
              simp only [List.take_succ_cons, List.take_zero, List.drop_succ_cons, List.drop_zero]
              repeat (any_goals (first | go_big_quiet_step (fail) | quiet_step (fail)))
              refine wpQuiet_nil ?_
              refine wpList_plain rfl fun K hK => ?_
              go_simp
              refine hK _ _ ?_
              clear hK K
              refine list_world fun wd hwd => ?_
              have hsd : Same wr wd := by rw [hwd]; exact (Frm.refl _ _).alloc _
              have hNc := Blk.new wr 4 #[.bool c3]
              rw [← hwd] at hNc
              clear hwd
              refine wpList_plain rfl fun K hK => ?_
              refine Own.grow (f := fun b : Bool => [.bool b]) (.tmp 69) (.tmp 85) _ rfl Try.underlying53 info_bool rfl rfl (Own.frm HOB.out hsd (fun _ _ => id)) (fun _ => rfl) [c3] (by simp) ⟨wr.heap.size, 0, none⟩ 1 rfl (fun j u hj => news_of_blk hNc j u hj) (by simp [Value.oneCell']) (by simp [maxLen] <;> omega) (by simp <;> omega) ?_
              intro g D' we hOd _ hgr hat
              refine hK _ _ ?_
              clear hK K
              have hse : Same wq we := (HSR.out.trans hsd (fun _ _ h => h)).grown hgr (fun b hb => .inr (HFB.out b (ownBlock_row.1 hb)))
              have hgF : Fresh wq.heap.size (some ⟨g, 0, none⟩) := by
                rcases hat with ⟨h1, _⟩ | ⟨h1, _⟩
                · rw [← h1]; exact HFB.out
                · have := HSR.out.size; have := hsd.size; exact fresh_some (by omega)
              have hod : OwnB we (some ⟨g, 0, none⟩) (k + 1) D' (vals (k + 1) pF) := by rw [HTK.out]; exact hOd
              have HOD := Lib.hid hod
              have HSE := Lib.hid hse
              have HGF := Lib.hid hgF
              clear hgr hOd hat hNc hsd hod hse hgF HOB HFB HSR
              go_wp2
              go_roundw
              case rel => exact ⟨k + 1, some ⟨g, 0, none⟩, D', by omega, by go_num, rfl, HOD.out, HGF.out, HSE.out⟩
              case measure => simp [intOf] <;> omega
        · obtain rfl : k = 64 := by omega
          have hs := hsr
          replace HS := Lib.hid (HS.out.trans hs (fun _ _ h => h))
          have hbl : BL wr A 64 (vals 64 pF) := hob.sl (fun _ => rfl)
          clear hs hsr hob hfb
          have hfl : Calls Try.prog 23 #[.int .i64 6, .slice A 64 D] wr (RetT wr 6 (tab 6 pF)) := fill_any 6 D A pF wr (by decide) hbl
          go_wp2_with (fail)
          refine hfl.mono ?_
          rintro e w32 ⟨A31, C31, rfl, hNT⟩
          have hs := hNT.2.2
          replace HS := Lib.hid (HS.out.trans hs (fun _ _ h => h))
          obtain ⟨L31, hL31⟩ : ∃ z, z = (tab 6 pF).length := ⟨_, rfl⟩
          have HT31 := Lib.hid (show OwnW w32 A31 L31 C31 (tab 6 pF) by rw [hL31]; exact hNT.1)
          rw [← hL31]
          have HLL31 := Lib.hid hL31
          clear hs hNT hL31
          go_wp2_with (fail)
          refine call_world fun v33 hv => ?_
          have hs : Same w32 v33 := by rw [hv]; exact ((Frm.refl _ _).alloc _).alloc _
          have hH34 : Sl v33 2 Tb.cells (some ⟨w32.heap.size, 0, none⟩) 1 [⟨6, A31, C31, (tab 6 pF)⟩] ∧ ∀ t ∈ ([⟨6, A31, C31, (tab 6 pF)⟩] : List Tb), TbOk v33 t := by
            have this := tl1 w32 6 A31 L31 C31 (tab 6 pF) HLL31.out HT31.out (fun z hz => tab_lt z hz)
            rw [hv]
            exact ⟨Sl.same this.1 (((Frm.refl (fun _ => False) _).alloc _)), oks_same this.2 (((Frm.refl (fun _ => False) _).alloc _))⟩
          have H34a := Lib.hid hH34.1
          have H34b := Lib.hid hH34.2
          clear hH34
          have H35 := Lib.hid (show Own v33 3 1 icell (some ⟨w32.heap.size + 1, 0, none⟩) 6 6 [0, 1, 2, 3, 4, 5] by
            have this := Own.lit (w32.alloc (.cells #[.int .i64 6, .slice A31 L31 C31] 37)) 3 icell (m := 1) (fun _ => rfl) [0, 1, 2, 3, 4, 5] (by simp [maxLen]) (cs := #[.int .i64 0, .int .i64 1, .int .i64 2, .int .i64 3, .int .i64 4, .int .i64 5]) rfl
            simp only [World.size_alloc] at this
            rw [hv]
            exact Own.frm this (Frm.refl (fun _ => False) _) (fun _ _ => id))
          replace HS := Lib.hid (HS.out.trans hs (fun _ _ h => h))
          replace HT31 := Lib.hid (Own.frm HT31.out hs (fun _ _ => id))
          clear hs hv
          have hg := fx_f A31 C31
          refine (size_any _ 1 _ [⟨6, A31, C31, (tab 6 pF)⟩] _ 6 _ [0, 1, 2, 3, 4, 5] v33 H34a.out H34b.out (by decide) (Own.il H35.out) (by decide)).mono ?_
          rintro e w36 ⟨rfl, hs⟩
          replace HS := Lib.hid (HS.out.trans hs (fun _ _ h => h))
          replace HT31 := Lib.hid (Own.frm HT31.out hs (fun _ _ => id))
          replace H34a := Lib.hid (Sl.same H34a.out hs)
          replace H34b := Lib.hid (oks_same H34b.out hs)
          replace H35 := Lib.hid (Own.frm H35.out hs (fun _ _ => id))
          rw [hg.1, hg.2.1]
          clear hs
          clear H35
          go_wp2_with (fail)
          refine call_world fun v37 hv => ?_
          have hs : Same w36 v37 := by rw [hv]; exact (Frm.refl _ _).alloc _
          have H38 := Lib.hid (show Own v37 3 1 icell (some ⟨w36.heap.size, 0, none⟩) 6 6 [0, 2, 4, 1, 3, 5] by
            have this := Own.lit w36 3 icell (m := 1) (fun _ => rfl) [0, 2, 4, 1, 3, 5] (by simp [maxLen]) (cs := #[.int .i64 0, .int .i64 2, .int .i64 4, .int .i64 1, .int .i64 3, .int .i64 5]) rfl
            rw [hv]
            exact Own.frm this (Frm.refl (fun _ => False) _) (fun _ _ => id))
          replace HS := Lib.hid (HS.out.trans hs (fun _ _ h => h))
          replace HT31 := Lib.hid (Own.frm HT31.out hs (fun _ _ => id))
          replace H34a := Lib.hid (Sl.same H34a.out hs)
          replace H34b := Lib.hid (oks_same H34b.out hs)
          clear hs hv
          refine (size_any _ 1 _ [⟨6, A31, C31, (tab 6 pF)⟩] _ 6 _ [0, 2, 4, 1, 3, 5] v37 H34a.out H34b.out (by decide) (Own.il H38.out) (by decide)).mono ?_
          rintro e w39 ⟨rfl, hs⟩
          replace HS := Lib.hid (HS.out.trans hs (fun _ _ h => h))
          replace HT31 := Lib.hid (Own.frm HT31.out hs (fun _ _ => id))
          replace H34a := Lib.hid (Sl.same H34a.out hs)
          replace H34b := Lib.hid (oks_same H34b.out hs)
          replace H38 := Lib.hid (Own.frm H38.out hs (fun _ _ => id))
          rw [hg.2.2.1, hg.2.2.2]
          clear hs
          clear hg
          clear H38 H34a H34b HT31
          go_wp2_with (fail)
          refine call_world fun v40 hv => ?_
          have hs : Same w39 v40 := by rw [hv]; exact Frm.refl _ _
          replace HS := Lib.hid (HS.out.trans hs (fun _ _ h => h))
          clear hs hv
          have hone := one_any 16 v40
          refine hone.mono ?_
          rintro e w42 ⟨A41, C41, rfl, hNT⟩
          have hs := hNT.2.2
          replace HS := Lib.hid (HS.out.trans hs (fun _ _ h => h))
          have HT41 := Lib.hid hNT.1
          clear hone hs hNT
          go_wp2_with (fail)
          refine call_world fun v43 hv => ?_
          have hs : Same w42 v43 := by rw [hv]; exact ((Frm.refl _ _).alloc _).alloc _
          have hH44 : Sl v43 2 Tb.cells (some ⟨w42.heap.size, 0, none⟩) 1 [⟨2, A41, C41, [16]⟩] ∧ ∀ t ∈ ([⟨2, A41, C41, [16]⟩] : List Tb), TbOk v43 t := by
            have this := tl1 w42 2 A41 1 C41 [16] rfl HT41.out (small_one (by decide))
            rw [hv]
            exact ⟨Sl.same this.1 (((Frm.refl (fun _ => False) _).alloc _)), oks_same this.2 (((Frm.refl (fun _ => False) _).alloc _))⟩
          have H44a := Lib.hid hH44.1
          have H44b := Lib.hid hH44.2
          clear hH44
          have H45 := Lib.hid (show Own v43 3 1 icell (some ⟨w42.heap.size + 1, 0, none⟩) 2 2 [0, 1] by
            have this := Own.lit (w42.alloc (.cells #[.int .i64 2, .slice A41 1 C41] 37)) 3 icell (m := 1) (fun _ => rfl) [0, 1] (by simp [maxLen]) (cs := #[.int .i64 0, .int .i64 1]) rfl
            simp only [World.size_alloc] at this
            rw [hv]
            exact Own.frm this (Frm.refl (fun _ => False) _) (fun _ _ => id))
          replace HS := Lib.hid (HS.out.trans hs (fun _ _ h => h))
          replace HT41 := Lib.hid (Own.frm HT41.out hs (fun _ _ => id))
          clear hs hv
          have hg := fx_e A41 none C41 0
          refine (profile_any _ 1 _ [⟨2, A41, C41, [16]⟩] _ 2 _ [0, 1] v43 H44a.out H44b.out (by decide) (Own.il H45.out) (by decide)).mono ?_
          rintro e w47 ⟨Ap46, Cp46, rfl, hNT⟩
          have hs := hNT.2.2
          replace HS := Lib.hid (HS.out.trans hs (fun _ _ h => h))
          replace HT41 := Lib.hid (Own.frm HT41.out hs (fun _ _ => id))
          replace H44a := Lib.hid (Sl.same H44a.out hs)
          replace H44b := Lib.hid (oks_same H44b.out hs)
          replace H45 := Lib.hid (Own.frm H45.out hs (fun _ _ => id))
          rw [hg.1]
          generalize (prL [⟨2, A41, C41, [16]⟩] [0, 1]).length = n46
          clear hs hNT
          clear hg
          clear HT41 H44a H44b H45
          go_wp2_with (fail)
          refine call_world fun v48 hv => ?_
          have hs : Same w47 v48 := by rw [hv]; exact Frm.refl _ _
          replace HS := Lib.hid (HS.out.trans hs (fun _ _ h => h))
          clear hs hv
          have hone := one_any 8 v48
          refine hone.mono ?_
          rintro e w50 ⟨A49, C49, rfl, hNT⟩
          have hs := hNT.2.2
          replace HS := Lib.hid (HS.out.trans hs (fun _ _ h => h))
          have HT49 := Lib.hid hNT.1
          clear hone hs hNT
          go_wp2_with (fail)
          refine call_world fun v51 hv => ?_
          have hs : Same w50 v51 := by rw [hv]; exact ((Frm.refl _ _).alloc _).alloc _
          have hH52 : Sl v51 2 Tb.cells (some ⟨w50.heap.size, 0, none⟩) 1 [⟨2, A49, C49, [8]⟩] ∧ ∀ t ∈ ([⟨2, A49, C49, [8]⟩] : List Tb), TbOk v51 t := by
            have this := tl1 w50 2 A49 1 C49 [8] rfl HT49.out (small_one (by decide))
            rw [hv]
            exact ⟨Sl.same this.1 (((Frm.refl (fun _ => False) _).alloc _)), oks_same this.2 (((Frm.refl (fun _ => False) _).alloc _))⟩
          have H52a := Lib.hid hH52.1
          have H52b := Lib.hid hH52.2
          clear hH52
          have H53 := Lib.hid (show Own v51 3 1 icell (some ⟨w50.heap.size + 1, 0, none⟩) 1 1 [0] by
            have this := Own.lit (w50.alloc (.cells #[.int .i64 2, .slice A49 1 C49] 37)) 3 icell (m := 1) (fun _ => rfl) [0] (by simp [maxLen]) (cs := #[.int .i64 0]) rfl
            simp only [World.size_alloc] at this
            rw [hv]
            exact Own.frm this (Frm.refl (fun _ => False) _) (fun _ _ => id))
          replace HS := Lib.hid (HS.out.trans hs (fun _ _ h => h))
          replace HT49 := Lib.hid (Own.frm HT49.out hs (fun _ _ => id))
          clear hs hv
          have hg := fx_e A49 none C49 0
          refine (profile_any _ 1 _ [⟨2, A49, C49, [8]⟩] _ 1 _ [0] v51 H52a.out H52b.out (by decide) (Own.il H53.out) (by decide)).mono ?_
          rintro e w55 ⟨Ap54, Cp54, rfl, hNT⟩
          have hs := hNT.2.2
          replace HS := Lib.hid (HS.out.trans hs (fun _ _ h => h))
          replace HT49 := Lib.hid (Own.frm HT49.out hs (fun _ _ => id))
          replace H52a := Lib.hid (Sl.same H52a.out hs)
          replace H52b := Lib.hid (oks_same H52b.out hs)
          replace H53 := Lib.hid (Own.frm H53.out hs (fun _ _ => id))
          rw [hg.2.1]
          generalize (prL [⟨2, A49, C49, [8]⟩] [0]).length = n54
          clear hs hNT
          clear hg
          clear HT49 H52a H52b H53
          go_wp2_with (fail)
          refine call_world fun v56 hv => ?_
          have hs : Same w55 v56 := by rw [hv]; exact Frm.refl _ _
          replace HS := Lib.hid (HS.out.trans hs (fun _ _ h => h))
          clear hs hv
          have hone := one_any 8 v56
          refine hone.mono ?_
          rintro e w58 ⟨A57, C57, rfl, hNT⟩
          have hs := hNT.2.2
          replace HS := Lib.hid (HS.out.trans hs (fun _ _ h => h))
          have HT57 := Lib.hid hNT.1
          clear hone hs hNT
          go_wp2_with (fail)
          refine call_world fun v59 hv => ?_
          have hs : Same w58 v59 := by rw [hv]; exact (((Frm.refl _ _).alloc _).alloc _).alloc _
          have hu1 : OwnW (w58.alloc (.cells #[.int .u64 1] 30)) (some ⟨w58.heap.size, 0, none⟩) 1 1 [1] := Own.lit w58 30 ucell (m := 1) (fun _ => rfl) [1] (by simp [maxLen]) (cs := #[.int .u64 1]) rfl
          have hl2 : Sl v59 2 Tb.cells (some ⟨w58.heap.size + 1, 0, none⟩) 2 [⟨2, A57, C57, [8]⟩, ⟨1, (some ⟨w58.heap.size, 0, none⟩), 1, [1]⟩] ∧ ∀ t ∈ ([⟨2, A57, C57, [8]⟩, ⟨1, (some ⟨w58.heap.size, 0, none⟩), 1, [1]⟩] : List Tb), TbOk v59 t := by
            have this := tl2 (w58.alloc (.cells #[.int .u64 1] 30)) 2 1 A57 (some ⟨w58.heap.size, 0, none⟩) 1 1 C57 1 [8] [1] rfl rfl (Own.frm HT57.out (show Same w58 (w58.alloc (.cells #[.int .u64 1] 30)) from (Frm.refl _ _).alloc _) (fun _ _ => id)) hu1 (small_one (by decide)) (small_one (by decide))
            simp only [World.size_alloc] at this
            rw [hv]
            exact ⟨Sl.same this.1 ((Frm.refl (fun _ => False) _).alloc _), oks_same this.2 ((Frm.refl (fun _ => False) _).alloc _)⟩
          have hi2 : Own v59 3 1 icell (some ⟨w58.heap.size + 1 + 1, 0, none⟩) 2 2 [0, 0] := by
            have this := Own.lit ((w58.alloc (.cells #[.int .u64 1] 30)).alloc (.cells #[.int .i64 2, .slice A57 1 C57, .int .i64 1, .slice (some ⟨w58.heap.size, 0, none⟩) 1 1] 37)) 3 icell (m := 1) (fun _ => rfl) [0, 0] (by simp [maxLen]) (cs := #[.int .i64 0, .int .i64 0]) rfl
            simp only [World.size_alloc] at this
            rw [hv]
            exact this
          replace HS := Lib.hid (HS.out.trans hs (fun _ _ h => h))
          replace HT57 := Lib.hid (Own.frm HT57.out hs (fun _ _ => id))
          have HXa := Lib.hid hl2.1
          have HXb := Lib.hid hl2.2
          have HXI := Lib.hid hi2
          clear hv hu1 hl2 hi2 hs
          have hg := fx_e A57 (some ⟨w58.heap.size, 0, none⟩) C57 1
          refine (profile_any _ 2 _ [⟨2, A57, C57, [8]⟩, ⟨1, (some ⟨w58.heap.size, 0, none⟩), 1, [1]⟩] _ 2 _ [0, 0] v59 HXa.out HXb.out (by decide) (Own.il HXI.out) (by decide)).mono ?_
          rintro e w61 ⟨Ap60, Cp60, rfl, hNT⟩
          have hs := hNT.2.2
          replace HS := Lib.hid (HS.out.trans hs (fun _ _ h => h))
          replace HT57 := Lib.hid (Own.frm HT57.out hs (fun _ _ => id))
          replace HXa := Lib.hid (Sl.same HXa.out hs)
          replace HXb := Lib.hid (oks_same HXb.out hs)
          replace HXI := Lib.hid (Own.frm HXI.out hs (fun _ _ => id))
          rw [hg.2.2.1]
          generalize (prL [⟨2, A57, C57, [8]⟩, ⟨1, (some ⟨w58.heap.size, 0, none⟩), 1, [1]⟩] [0, 0]).length = n60
          clear hs hNT
          clear hg
          clear HT57 HXa HXb HXI
          go_wp2_with (fail)
          refine call_world fun v62 hv => ?_
          have hs : Same w61 v62 := by rw [hv]; exact Frm.refl _ _
          replace HS := Lib.hid (HS.out.trans hs (fun _ _ h => h))
          clear hs hv
          have hone := one_any 12 v62
          refine hone.mono ?_
          rintro e w64 ⟨A63, C63, rfl, hNT⟩
          have hs := hNT.2.2
          replace HS := Lib.hid (HS.out.trans hs (fun _ _ h => h))
          have HT63 := Lib.hid hNT.1
          clear hone hs hNT
          go_wp2_with (fail)
          refine call_world fun v65 hv => ?_
          have hs : Same w64 v65 := by rw [hv]; exact ((Frm.refl _ _).alloc _).alloc _
          have hH66 : Sl v65 2 Tb.cells (some ⟨w64.heap.size, 0, none⟩) 1 [⟨2, A63, C63, [12]⟩] ∧ ∀ t ∈ ([⟨2, A63, C63, [12]⟩] : List Tb), TbOk v65 t := by
            have this := tl1 w64 2 A63 1 C63 [12] rfl HT63.out (small_one (by decide))
            rw [hv]
            exact ⟨Sl.same this.1 (((Frm.refl (fun _ => False) _).alloc _)), oks_same this.2 (((Frm.refl (fun _ => False) _).alloc _))⟩
          have H66a := Lib.hid hH66.1
          have H66b := Lib.hid hH66.2
          clear hH66
          have H67 := Lib.hid (show Own v65 3 1 icell (some ⟨w64.heap.size + 1, 0, none⟩) 2 2 [0, 1] by
            have this := Own.lit (w64.alloc (.cells #[.int .i64 2, .slice A63 1 C63] 37)) 3 icell (m := 1) (fun _ => rfl) [0, 1] (by simp [maxLen]) (cs := #[.int .i64 0, .int .i64 1]) rfl
            simp only [World.size_alloc] at this
            rw [hv]
            exact Own.frm this (Frm.refl (fun _ => False) _) (fun _ _ => id))
          replace HS := Lib.hid (HS.out.trans hs (fun _ _ h => h))
          replace HT63 := Lib.hid (Own.frm HT63.out hs (fun _ _ => id))
          clear hs hv
          have hg := fx_e A63 none C63 0
          refine (profile_any _ 1 _ [⟨2, A63, C63, [12]⟩] _ 2 _ [0, 1] v65 H66a.out H66b.out (by decide) (Own.il H67.out) (by decide)).mono ?_
          rintro e w69 ⟨Ap68, Cp68, rfl, hNT⟩
          have hs := hNT.2.2
          replace HS := Lib.hid (HS.out.trans hs (fun _ _ h => h))
          replace HT63 := Lib.hid (Own.frm HT63.out hs (fun _ _ => id))
          replace H66a := Lib.hid (Sl.same H66a.out hs)
          replace H66b := Lib.hid (oks_same H66b.out hs)
          replace H67 := Lib.hid (Own.frm H67.out hs (fun _ _ => id))
          rw [hg.2.2.2.1]
          rw [hg.2.2.2.2] at hNT ⊢
          have HPR := Lib.hid (show OwnI w69 3 Ap68 2 Cp68 [0, 1] from hNT.1)
          clear hs hNT
          clear hg
          clear HT63 H66a H66b H67
          go_wp2_with (fail)
          refine call_world fun v70 hv => ?_
          have hs : Same w69 v70 := by rw [hv]; exact (Frm.refl _ _).alloc _
          have H71 := Lib.hid (show Own v70 3 1 icell (some ⟨w69.heap.size, 0, none⟩) 2 2 [0, 1] by
            have this := Own.lit w69 3 icell (m := 1) (fun _ => rfl) [0, 1] (by simp [maxLen]) (cs := #[.int .i64 0, .int .i64 1]) rfl
            rw [hv]
            exact Own.frm this (Frm.refl (fun _ => False) _) (fun _ _ => id))
          replace HS := Lib.hid (HS.out.trans hs (fun _ _ h => h))
          replace HPR := Lib.hid (Own.frm HPR.out hs (fun _ _ => id))
          clear hs hv
          refine (psame_any _ _ 2 2 _ _ [0, 1] [0, 1] v70 (Own.il HPR.out) (Own.il H71.out) (by decide) (by decide)).mono ?_
          rintro e w72 ⟨rfl, hs⟩
          replace HS := Lib.hid (HS.out.trans hs (fun _ _ h => h))
          replace HPR := Lib.hid (Own.frm HPR.out hs (fun _ _ => id))
          replace H71 := Lib.hid (Own.frm H71.out hs (fun _ _ => id))
          rw [show decide (([0, 1] : List Int) = [0, 1]) = true from rfl]
          clear hs
          clear HPR H71
          go_wp2_with (fail)
          refine call_world fun v73 hv => ?_
          have hs : Same w72 v73 := by rw [hv]; exact Frm.refl _ _
          replace HS := Lib.hid (HS.out.trans hs (fun _ _ h => h))
          clear hs hv
          have hone := one_any 6 v73
          refine hone.mono ?_
          rintro e w75 ⟨A74, C74, rfl, hNT⟩
          have hs := hNT.2.2
          replace HS := Lib.hid (HS.out.trans hs (fun _ _ h => h))
          have HT74 := Lib.hid hNT.1
          clear hone hs hNT
          go_wp2_with (fail)
          refine call_world fun v76 hv => ?_
          have hs : Same w75 v76 := by rw [hv]; exact (Frm.refl _ _).alloc _
          have hH77 : Sl v76 2 Tb.cells (some ⟨w75.heap.size, 0, none⟩) 1 [⟨2, A74, C74, [6]⟩] ∧ ∀ t ∈ ([⟨2, A74, C74, [6]⟩] : List Tb), TbOk v76 t := by
            have this := tl1 w75 2 A74 1 C74 [6] rfl HT74.out (small_one (by decide))
            rw [hv]
            exact ⟨Sl.same this.1 (Frm.refl (fun _ => False) _), oks_same this.2 (Frm.refl (fun _ => False) _)⟩
          have H77a := Lib.hid hH77.1
          have H77b := Lib.hid hH77.2
          clear hH77
          replace HS := Lib.hid (HS.out.trans hs (fun _ _ h => h))
          replace HT74 := Lib.hid (Own.frm HT74.out hs (fun _ _ => id))
          clear hs hv
          have hg := fx_l A74 C74
          refine (level_any _ 1 _ [⟨2, A74, C74, [6]⟩] 2 1 v76 H77a.out H77b.out (by decide) (by decide)).mono ?_
          rintro e w78 ⟨rfl, hs⟩
          replace HS := Lib.hid (HS.out.trans hs (fun _ _ h => h))
          replace HT74 := Lib.hid (Own.frm HT74.out hs (fun _ _ => id))
          replace H77a := Lib.hid (Sl.same H77a.out hs)
          replace H77b := Lib.hid (oks_same H77b.out hs)
          rw [hg.1]
          generalize lvC [⟨2, A74, C74, [6]⟩] 2 1 = n79
          clear hs hg
          clear HT74 H77a H77b
          go_wp2_with (fail)
          refine call_world fun v80 hv => ?_
          have hs : Same w78 v80 := by rw [hv]; exact Frm.refl _ _
          replace HS := Lib.hid (HS.out.trans hs (fun _ _ h => h))
          clear hs hv
          have hone := one_any 6 v80
          refine hone.mono ?_
          rintro e w82 ⟨A81, C81, rfl, hNT⟩
          have hs := hNT.2.2
          replace HS := Lib.hid (HS.out.trans hs (fun _ _ h => h))
          have HT81 := Lib.hid hNT.1
          clear hone hs hNT
          go_wp2_with (fail)
          refine call_world fun v83 hv => ?_
          have hs : Same w82 v83 := by rw [hv]; exact (Frm.refl _ _).alloc _
          have hH84 : Sl v83 2 Tb.cells (some ⟨w82.heap.size, 0, none⟩) 1 [⟨2, A81, C81, [6]⟩] ∧ ∀ t ∈ ([⟨2, A81, C81, [6]⟩] : List Tb), TbOk v83 t := by
            have this := tl1 w82 2 A81 1 C81 [6] rfl HT81.out (small_one (by decide))
            rw [hv]
            exact ⟨Sl.same this.1 (Frm.refl (fun _ => False) _), oks_same this.2 (Frm.refl (fun _ => False) _)⟩
          have H84a := Lib.hid hH84.1
          have H84b := Lib.hid hH84.2
          clear hH84
          replace HS := Lib.hid (HS.out.trans hs (fun _ _ h => h))
          replace HT81 := Lib.hid (Own.frm HT81.out hs (fun _ _ => id))
          clear hs hv
          have hg := fx_l A81 C81
          refine (level_any _ 1 _ [⟨2, A81, C81, [6]⟩] 0 2 v83 H84a.out H84b.out (by decide) (by decide)).mono ?_
          rintro e w85 ⟨rfl, hs⟩
          replace HS := Lib.hid (HS.out.trans hs (fun _ _ h => h))
          replace HT81 := Lib.hid (Own.frm HT81.out hs (fun _ _ => id))
          replace H84a := Lib.hid (Sl.same H84a.out hs)
          replace H84b := Lib.hid (oks_same H84b.out hs)
          rw [hg.2.1]
          generalize lvC [⟨2, A81, C81, [6]⟩] 0 2 = n86
          clear hs hg
          clear HT81 H84a H84b
          go_wp2_with (fail)
          refine call_world fun v87 hv => ?_
          have hs : Same w85 v87 := by rw [hv]; exact Frm.refl _ _
          replace HS := Lib.hid (HS.out.trans hs (fun _ _ h => h))
          clear hs hv
          have hone := one_any 6 v87
          refine hone.mono ?_
          rintro e w89 ⟨A88, C88, rfl, hNT⟩
          have hs := hNT.2.2
          replace HS := Lib.hid (HS.out.trans hs (fun _ _ h => h))
          have HT88 := Lib.hid hNT.1
          clear hone hs hNT
          go_wp2_with (fail)
          refine call_world fun v90 hv => ?_
          have hs : Same w89 v90 := by rw [hv]; exact (Frm.refl _ _).alloc _
          have hH91 : Sl v90 2 Tb.cells (some ⟨w89.heap.size, 0, none⟩) 1 [⟨2, A88, C88, [6]⟩] ∧ ∀ t ∈ ([⟨2, A88, C88, [6]⟩] : List Tb), TbOk v90 t := by
            have this := tl1 w89 2 A88 1 C88 [6] rfl HT88.out (small_one (by decide))
            rw [hv]
            exact ⟨Sl.same this.1 (Frm.refl (fun _ => False) _), oks_same this.2 (Frm.refl (fun _ => False) _)⟩
          have H91a := Lib.hid hH91.1
          have H91b := Lib.hid hH91.2
          clear hH91
          replace HS := Lib.hid (HS.out.trans hs (fun _ _ h => h))
          replace HT88 := Lib.hid (Own.frm HT88.out hs (fun _ _ => id))
          clear hs hv
          have hg := fx_l A88 C88
          refine (level_any _ 1 _ [⟨2, A88, C88, [6]⟩] 4 0 v90 H91a.out H91b.out (by decide) (by decide)).mono ?_
          rintro e w92 ⟨rfl, hs⟩
          replace HS := Lib.hid (HS.out.trans hs (fun _ _ h => h))
          replace HT88 := Lib.hid (Own.frm HT88.out hs (fun _ _ => id))
          replace H91a := Lib.hid (Sl.same H91a.out hs)
          replace H91b := Lib.hid (oks_same H91b.out hs)
          rw [hg.2.2.1]
          generalize lvC [⟨2, A88, C88, [6]⟩] 4 0 = n93
          clear hs hg
          clear HT88 H91a H91b
          have hg := fx_l none 0
          go_wp2_with (fail)
          refine (level_any none 0 0 [] 1 15 w92 ⟨rfl, fun i x hi => (by simp at hi)⟩ (fun t ht => (by cases ht)) (by decide) (by decide)).mono ?_
          rintro e w94 ⟨rfl, hs⟩
          replace HS := Lib.hid (HS.out.trans hs (fun _ _ h => h))
          rw [hg.2.2.2.1, hg.2.2.2.2.1]
          clear hs
          go_wp2_with (fail)
          refine (level_any none 0 0 [] 0 16 w94 ⟨rfl, fun i x hi => (by simp at hi)⟩ (fun t ht => (by cases ht)) (by decide) (by decide)).mono ?_
          rintro e w95 ⟨rfl, hs⟩
          replace HS := Lib.hid (HS.out.trans hs (fun _ _ h => h))
          rw [hg.2.2.2.2.2]
          generalize lvC [] 0 16 = n0
          clear hs hg
          go_wp2_with (fail)
          have hg := fx_i
          refine (docIdentity_any 17 w95).mono ?_
          rintro e w96 ⟨Ai, Ci, rfl, hNT⟩
          have hs := hNT.2.2
          replace HS := Lib.hid (HS.out.trans hs (fun _ _ h => h))
          rw [hg.1, hg.2.1]
          have HLI := Lib.hid (show OwnI w96 3 Ai 17 Ci (idR 17) by rw [← hg.2.1]; exact hNT.1)
          clear hNT hs
          go_wp2_with (fail)
          refine (size_any none 0 0 [] Ai 17 Ci (idR 17) w96 ⟨rfl, fun i x hi => (by simp at hi)⟩ (fun t ht => (by cases ht)) (by decide) (Own.il HLI.out) (by decide)).mono ?_
          rintro e w97 ⟨rfl, hs⟩
          replace HS := Lib.hid (HS.out.trans hs (fun _ _ h => h))
          replace HLI := Lib.hid (Own.frm HLI.out hs (fun _ _ => id))
          rw [hg.2.2.1]
          generalize (prL [] (idR 17)).sum = n1
          clear hs
          clear HLI
          go_wp2_with (fail)
          refine call_world fun v98 hv => ?_
          have hs : Same w97 v98 := by rw [hv]; exact (Frm.refl _ _).alloc _
          have H99 := Lib.hid (show Own v98 3 1 icell (some ⟨w97.heap.size, 0, none⟩) 1 1 [1] by
            have this := Own.lit w97 3 icell (m := 1) (fun _ => rfl) [1] (by simp [maxLen]) (cs := #[.int .i64 1]) rfl
            rw [hv]
            exact Own.frm this (Frm.refl (fun _ => False) _) (fun _ _ => id))
          replace HS := Lib.hid (HS.out.trans hs (fun _ _ h => h))
          clear hs hv
          refine (size_any none 0 0 [] _ 1 _ [1] v98 ⟨rfl, fun i x hi => (by simp at hi)⟩ (fun t ht => (by cases ht)) (by decide) (Own.il H99.out) (by decide)).mono ?_
          rintro e w100 ⟨rfl, hs⟩
          replace HS := Lib.hid (HS.out.trans hs (fun _ _ h => h))
          replace H99 := Lib.hid (Own.frm H99.out hs (fun _ _ => id))
          rw [hg.2.2.2]
          generalize (prL [] [1]).sum = n2
          clear hs hg
          clear H99
          go_wp2_with (fail)
          refine call_world fun v101 hv => ?_
          have hs : Same w100 v101 := by rw [hv]; exact (Frm.refl _ _).alloc _
          have H102 := Lib.hid (show Own v101 4 1 (fun b : Bool => [.bool b]) (some ⟨w100.heap.size, 0, none⟩) 8 8 [false, false, false, true, true, true, true, true] by
            have this := Own.lit w100 4 (fun b : Bool => [.bool b]) (m := 1) (fun _ => rfl) [false, false, false, true, true, true, true, true] (by simp [maxLen]) (cs := #[.bool false, .bool false, .bool false, .bool true, .bool true, .bool true, .bool true, .bool true]) rfl
            rw [hv]
            exact Own.frm this (Frm.refl (fun _ => False) _) (fun _ _ => id))
          replace HS := Lib.hid (HS.out.trans hs (fun _ _ h => h))
          clear hs hv
          have hfl : Calls Try.prog 23 #[.int .i64 3, .slice (some ⟨w100.heap.size, 0, none⟩) 8 8] v101 (RetT v101 3 (tab 3 qF)) := fill_any 3 8 (some ⟨w100.heap.size, 0, none⟩) qF v101 (by decide) (H102.out.sl (fun _ => rfl))
          refine hfl.mono ?_
          rintro e w104 ⟨A103, C103, rfl, hNT⟩
          have hs := hNT.2.2
          replace HS := Lib.hid (HS.out.trans hs (fun _ _ h => h))
          replace H102 := Lib.hid (Own.frm H102.out hs (fun _ _ => id))
          obtain ⟨L103, hL103⟩ : ∃ z, z = (tab 3 qF).length := ⟨_, rfl⟩
          have HT103 := Lib.hid (show OwnW w104 A103 L103 C103 (tab 3 qF) by rw [hL103]; exact hNT.1)
          rw [← hL103]
          have HLL103 := Lib.hid hL103
          clear hs hNT hL103
          skip
          clear H102
          go_wp2_with (fail)
          refine call_world fun v105 hv => ?_
          have hs : Same w104 v105 := by rw [hv]; exact (Frm.refl _ _).alloc _
          have hH106 : Sl v105 2 Tb.cells (some ⟨w104.heap.size, 0, none⟩) 1 [⟨3, A103, C103, (tab 3 qF)⟩] ∧ ∀ t ∈ ([⟨3, A103, C103, (tab 3 qF)⟩] : List Tb), TbOk v105 t := by
            have this := tl1 w104 3 A103 L103 C103 (tab 3 qF) HLL103.out HT103.out (fun z hz => tab_lt z hz)
            rw [hv]
            exact ⟨Sl.same this.1 (Frm.refl (fun _ => False) _), oks_same this.2 (Frm.refl (fun _ => False) _)⟩
          have H106a := Lib.hid hH106.1
          have H106b := Lib.hid hH106.2
          clear hH106
          replace HS := Lib.hid (HS.out.trans hs (fun _ _ h => h))
          replace HT103 := Lib.hid (Own.frm HT103.out hs (fun _ _ => id))
          clear hs hv
          have hg := fx_p A103 C103
          refine (pairs_any _ 1 _ [⟨3, A103, C103, (tab 3 qF)⟩] v105 H106a.out H106b.out (by decide)).mono ?_
          rintro e w107 ⟨Aq, Dq, rfl, hNT⟩
          have hs := hNT.2.2
          replace HS := Lib.hid (HS.out.trans hs (fun _ _ h => h))
          replace HT103 := Lib.hid (Own.frm HT103.out hs (fun _ _ => id))
          replace H106a := Lib.hid (Sl.same H106a.out hs)
          replace H106b := Lib.hid (oks_same H106b.out hs)
          rw [hg.2.1] at hNT ⊢
          rw [hg.1]
          have HWQ := Lib.hid (show OwnW w107 Aq 3 Dq [6, 5, 3] from hNT.1)
          clear hNT hs
          clear H106a H106b HT103
          go_wp2_with (fail)
          refine (pairs_any none 0 0 [] w107 ⟨rfl, fun i x hi => (by simp at hi)⟩ (fun t ht => (by cases ht)) (by decide)).mono ?_
          rintro e w108 ⟨Az, Dz, rfl, hNT⟩
          have hs := hNT.2.2
          replace HS := Lib.hid (HS.out.trans hs (fun _ _ h => h))
          replace HWQ := Lib.hid (Own.frm HWQ.out hs (fun _ _ => id))
          rw [hg.2.2.1, hg.2.2.2]
          clear hNT hs hg
          go_wp2_with (fail)
          refine call_world fun v109 hv => ?_
          have hs : Same w108 v109 := by rw [hv]; exact (Frm.refl _ _).alloc _
          have H110 := Lib.hid (show Own v109 30 1 ucell (some ⟨w108.heap.size, 0, none⟩) 3 3 [6, 5, 3] by
            have this := Own.lit w108 30 ucell (m := 1) (fun _ => rfl) [6, 5, 3] (by simp [maxLen]) (cs := #[.int .u64 6, .int .u64 5, .int .u64 3]) rfl
            rw [hv]
            exact Own.frm this (Frm.refl (fun _ => False) _) (fun _ _ => id))
          replace HS := Lib.hid (HS.out.trans hs (fun _ _ h => h))
          replace HWQ := Lib.hid (Own.frm HWQ.out hs (fun _ _ => id))
          clear hs hv
          refine (sets_any _ _ 3 3 _ _ [6, 5, 3] [6, 5, 3] v109 (HWQ.out.sl ucell_len) (H110.out.sl ucell_len) (by decide) (by decide)).mono ?_
          rintro e w111 ⟨rfl, hs⟩
          replace HS := Lib.hid (HS.out.trans hs (fun _ _ h => h))
          replace HWQ := Lib.hid (Own.frm HWQ.out hs (fun _ _ => id))
          replace H110 := Lib.hid (Own.frm H110.out hs (fun _ _ => id))
          rw [show decide (([6, 5, 3] : List Nat) = [6, 5, 3]) = true from rfl]
          clear hs
          clear HWQ H110
          have HFIN := Lib.hid (HS.out.to_below (Nat.le_refl _) (fun _ _ => id))
          go_wp2
          go_ret
          exact ⟨rfl, HFIN.out⟩
end Go.Proofs.Ytakepdkokjecoaa


/- The walk of ShFxd beside the given rows. -/
namespace Go.Proofs.Ytakepdkokjecoaa
open Go.RowKit Go.Tk
theorem sl_vals {w : World} {A : Option Addr} {n : Nat} {xs : List {t : Tb // TbIn w t}} (h : Sl w 2 (fun x : {t : Tb // TbIn w t} => x.1.cells) A n xs) : Sl w 2 Tb.cells A n (xs.map (·.1)) := by
  refine ⟨by rw [List.length_map]; exact h.len, fun i t hi => ?_⟩
  rw [List.getElem?_map] at hi
  obtain ⟨x, hx, rfl⟩ := Option.map_eq_some_iff.1 hi
  exact h.get i x hx
theorem ok_vals {w : World} {xs : List {t : Tb // TbIn w t}} : ∀ t ∈ xs.map (·.1), TbOk w t := fun t ht => by
  obtain ⟨x, _, rfl⟩ := List.mem_map.1 ht
  exact x.2.ok
end Go.Proofs.Ytakepdkokjecoaa
