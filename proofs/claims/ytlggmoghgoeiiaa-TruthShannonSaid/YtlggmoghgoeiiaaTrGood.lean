/- Truth tables: good of the law, formed of the reference. -/
import Derived.Test.YtlggmoghgoeiiaaTrGives
namespace Go.Proofs.Ytlggmoghgoeiiaa
open Go.RowKit Go.Tk

theorem TbOk.rform {w : World} {t : Tb} (h : TbOk w t) {w' : World} (hs : Same w w') : Calls Try.prog 24 #[t.val] w' fun e w'' => e = .returned (.bool t.frm) ∧ Same w' w'' :=
  rForm_any t.N t.A _ t.C t.ws w' (Sl.same h.wl hs) h.small
set_option maxHeartbeats 2000000 in
theorem good_any (g n C : Nat) (ts : List Tb) (w : World) (hn : n = ts.length) (hn1 : n ≤ 1000) (h : Tbs w g ts) (hok : ∀ t ∈ ts, TbOk w t) :
    Calls Try.prog 20 #[.slice (some ⟨g, 0, none⟩) n C] w fun e w' => e = .returned (.bool (fm ts)) ∧ Same w w' := by
  have H := Lib.hid h
  have HOK := Lib.hid hok
  obtain ⟨r, hr⟩ : ∃ r, fm ts = r := ⟨_, rfl⟩
  rw [hr]
  have HR := Lib.hid hr
  have HN := Lib.hid hn
  clear h hok hr hn
  go_enter Try.func20, Try.ntmps20
  go_wp2
  go_loopw [7] (fun i wr => ∃ k : Nat, k ≤ n ∧ i = .int .i64 k ∧ (∀ j t, ts[j]? = some t → j < k → t.frm = true ∧ t.N = (ts.getD 0 ⟨0, none, 0, []⟩).N) ∧ Same w wr) (fun i _ => n - (intOf i).toNat)
  case atStart => exact ⟨0, by omega, rfl, fun j t _ h => by omega, Frm.refl _ _⟩
  case round =>
    obtain ⟨k, hk, rfl, hall, hs⟩ := hrel
    have HALL := Lib.hid hall
    have HS := Lib.hid hs
    by_cases hlt : k < n
    · have hi1 : (k : Int) < n := by omega
      have hi0 : (0 : Int) ≤ k := by omega
      have hn0 : (0 : Int) < n := by omega
      obtain ⟨t, ht⟩ : ∃ t, ts[k]? = some t := ⟨_, List.getElem?_eq_getElem (by rw [← HN.out]; exact hlt)⟩
      obtain ⟨t0, ht0⟩ : ∃ t, ts[0]? = some t := ⟨_, List.getElem?_eq_getElem (by rw [← HN.out]; omega)⟩
      have hd0 : ts.getD 0 ⟨0, none, 0, []⟩ = t0 := by rw [List.getD_eq_getElem?_getD, ht0]; rfl
      obtain ⟨hg, hc0, hc1⟩ := (H.out.same hs) k t ht
      obtain ⟨_, hz0, _⟩ := (H.out.same hs) 0 t0 ht0
      rw [Nat.zero_mul] at hz0
      have htok := HOK.out t (List.mem_of_getElem? ht)
      have hne : g ≠ wr.heap.size := by omega
      have HT := Lib.hid ht
      have HD0 := Lib.hid hd0
      clear ht ht0 hd0 hall hs
      obtain ⟨tN, tA, tC, tws⟩ := t
      obtain ⟨zN, zA, zC, zws⟩ := t0
      simp only at hc0 hc1 hz0
      have HTOK := Lib.hid htok
      clear htok
      have hbx : ∃ b, (Tb.mk tN tA tC tws).frm = b := ⟨_, rfl⟩
      obtain ⟨bb, hbb⟩ := hbx
      go_upto_region 4 with fail
      refine wp_world fun wa hwa => ?_
      have hsa : Same wr wa := by rw [hwa]; exact (Frm.refl _ _).alloc _
      have hB := Blk.new wr 24 #[.int .i64 tN, .slice tA tws.length tC]
      rw [← hwa] at hB
      have hb0 : wa.cell? ⟨wr.heap.size, 0, none⟩ = some (.int .i64 tN) := hB.cell 0
      have hb1 : wa.cell? ⟨wr.heap.size, 1, none⟩ = some (.slice tA tws.length tC) := hB.cell 1
      have hbl := hB.lt
      have hza : wa.cell? ⟨g, 0, none⟩ = some (.int .i64 zN) := (hsa.cell (p := ⟨g, 0, none⟩) hg id).trans hz0
      have hga : g < wa.heap.size := by omega
      have hfc : ∀ w', Same wa w' → Calls Try.prog 24 #[.agg #[.int .i64 tN, .slice tA tws.length tC]] w' fun e w'' => e = .returned (.bool bb) ∧ Same w' w'' := fun w' hs' => by
        have := HTOK.out.rform ((HS.out.trans hsa (fun _ _ h => h)).trans hs' (fun _ _ h => h))
        rw [hbb] at this
        exact this
      have HFC := Lib.hid hfc
      have HSA := Lib.hid (HS.out.trans hsa (fun _ _ h => h))
      have HBB := Lib.hid hbb
      clear hwa hsa hB hc0 hc1 hz0 hg hfc HTOK hbb
      cases bb with
      | false =>
        have hf : r = false := by
          rw [← HR.out]
          unfold fm
          rw [List.all_eq_false]
          exact ⟨_, List.mem_of_getElem? HT.out, by simp [HBB.out]⟩
        subst hf
        refine wp_quiet (by kernel_rfl) (by kernel_rfl) ?_
        repeat (any_goals (first | go_big_quiet_step ((go_at_call 24; exact quiet_call (HFC.out _ (more_same _ _)))) | quiet_step ((go_at_call 24; exact quiet_call (HFC.out _ (more_same _ _))))))
        refine wpQuiet_nil ?_
        rintro _ ⟨q, rfl⟩
        go_wp2
        go_ret
        exact ⟨rfl, HSA.out.trans (more_same _ q) (fun _ _ h => h)⟩
      | true =>
        by_cases hNN : tN = zN
        · subst hNN
          refine wp_quiet (by kernel_rfl) (by kernel_rfl) ?_
          repeat (any_goals (first | go_big_quiet_step ((go_at_call 24; exact quiet_call (HFC.out _ (more_same _ _)))) | quiet_step ((go_at_call 24; exact quiet_call (HFC.out _ (more_same _ _))))))
          refine wpQuiet_nil ?_
          rintro _ ⟨q, rfl⟩
          go_wp2
          go_roundw
          case rel => exact ⟨k + 1, by omega, by go_num, fun j t hj hjk => by
            by_cases hjk2 : j < k
            · exact HALL.out j t hj hjk2
            · obtain rfl : j = k := by omega
              obtain rfl := Option.some.inj (hj.symm.trans HT.out)
              exact ⟨HBB.out, by rw [HD0.out]⟩, HSA.out.trans (more_same _ q) (fun _ _ h => h)⟩
          case measure => simp [intOf]; omega
        · have hne2 : (tN != zN) = true := by simpa using hNN
          have hf : r = false := by
            rw [← HR.out]
            unfold fm
            rw [List.all_eq_false]
            exact ⟨_, List.mem_of_getElem? HT.out, by rw [HD0.out]; simp [hNN]⟩
          subst hf
          clear hNN
          refine wp_quiet (by kernel_rfl) (by kernel_rfl) ?_
          repeat (any_goals (first | go_big_quiet_step ((go_at_call 24; exact quiet_call (HFC.out _ (more_same _ _)))) | quiet_step ((go_at_call 24; exact quiet_call (HFC.out _ (more_same _ _))))))
          refine wpQuiet_nil ?_
          rintro _ ⟨q, rfl⟩
          go_wp2
          go_ret
          exact ⟨rfl, HSA.out.trans (more_same _ q) (fun _ _ h => h)⟩
    · obtain rfl : k = n := by omega
      have hf : r = true := by
        rw [← HR.out]
        unfold fm
        rw [List.all_eq_true]
        intro t ht
        obtain ⟨j, hj⟩ := List.getElem?_of_mem ht
        have := HALL.out j t hj (by rw [HN.out]; exact lt_of_get hj)
        simp [this]
      subst hf
      clear hall hs HALL
      go_wp2
      go_ret
      exact ⟨rfl, HS.out⟩
set_option maxHeartbeats 2000000 in
theorem formed_any (g n C : Nat) (ts : List Tb) (w : World) (hn : n = ts.length) (hn1 : n ≤ 1000) (h : Tbs w g ts) (hok : ∀ t ∈ ts, TbOk w t) :
    Calls Try.prog 70 #[.slice (some ⟨g, 0, none⟩) n C] w fun e w' => e = .returned (.int .i64 (fmE (fm ts))) ∧ Same w w' := by
  have H := Lib.hid h
  have HOK := Lib.hid hok
  obtain ⟨r, hr⟩ : ∃ r, fm ts = r := ⟨_, rfl⟩
  rw [hr]
  have HR := Lib.hid hr
  have HN := Lib.hid hn
  clear h hok hr hn
  go_enter Try.func70, Try.ntmps70
  go_wp2
  go_loopw [7] (fun i wr => ∃ k : Nat, k ≤ n ∧ i = .int .i64 k ∧ (∀ j t, ts[j]? = some t → j < k → t.frm = true ∧ t.N = (ts.getD 0 ⟨0, none, 0, []⟩).N) ∧ Same w wr) (fun i _ => n - (intOf i).toNat)
  case atStart => exact ⟨0, by omega, rfl, fun j t _ h => by omega, Frm.refl _ _⟩
  case round =>
    obtain ⟨k, hk, rfl, hall, hs⟩ := hrel
    have HALL := Lib.hid hall
    have HS := Lib.hid hs
    by_cases hlt : k < n
    · have hi1 : (k : Int) < n := by omega
      have hi0 : (0 : Int) ≤ k := by omega
      have hn0 : (0 : Int) < n := by omega
      obtain ⟨t, ht⟩ : ∃ t, ts[k]? = some t := ⟨_, List.getElem?_eq_getElem (by rw [← HN.out]; exact hlt)⟩
      obtain ⟨t0, ht0⟩ : ∃ t, ts[0]? = some t := ⟨_, List.getElem?_eq_getElem (by rw [← HN.out]; omega)⟩
      have hd0 : ts.getD 0 ⟨0, none, 0, []⟩ = t0 := by rw [List.getD_eq_getElem?_getD, ht0]; rfl
      obtain ⟨hg, hc0, hc1⟩ := (H.out.same hs) k t ht
      obtain ⟨_, hz0, _⟩ := (H.out.same hs) 0 t0 ht0
      rw [Nat.zero_mul] at hz0
      have htok := HOK.out t (List.mem_of_getElem? ht)
      have hne : g ≠ wr.heap.size := by omega
      have HT := Lib.hid ht
      have HD0 := Lib.hid hd0
      clear ht ht0 hd0 hall hs
      obtain ⟨tN, tA, tC, tws⟩ := t
      obtain ⟨zN, zA, zC, zws⟩ := t0
      simp only at hc0 hc1 hz0
      have HTOK := Lib.hid htok
      clear htok
      have hbx : ∃ b, (Tb.mk tN tA tC tws).frm = b := ⟨_, rfl⟩
      obtain ⟨bb, hbb⟩ := hbx
      go_upto_region 4 with fail
      refine wp_world fun wa hwa => ?_
      have hsa : Same wr wa := by rw [hwa]; exact (Frm.refl _ _).alloc _
      have hB := Blk.new wr 24 #[.int .i64 tN, .slice tA tws.length tC]
      rw [← hwa] at hB
      have hb0 : wa.cell? ⟨wr.heap.size, 0, none⟩ = some (.int .i64 tN) := hB.cell 0
      have hb1 : wa.cell? ⟨wr.heap.size, 1, none⟩ = some (.slice tA tws.length tC) := hB.cell 1
      have hbl := hB.lt
      have hza : wa.cell? ⟨g, 0, none⟩ = some (.int .i64 zN) := (hsa.cell (p := ⟨g, 0, none⟩) hg id).trans hz0
      have hga : g < wa.heap.size := by omega
      have hfc : ∀ w', Same wa w' → Calls Try.prog 24 #[.agg #[.int .i64 tN, .slice tA tws.length tC]] w' fun e w'' => e = .returned (.bool bb) ∧ Same w' w'' := fun w' hs' => by
        have := HTOK.out.rform ((HS.out.trans hsa (fun _ _ h => h)).trans hs' (fun _ _ h => h))
        rw [hbb] at this
        exact this
      have HFC := Lib.hid hfc
      have HSA := Lib.hid (HS.out.trans hsa (fun _ _ h => h))
      have HBB := Lib.hid hbb
      clear hwa hsa hB hc0 hc1 hz0 hg hfc HTOK hbb
      cases bb with
      | false =>
        have hf : r = false := by
          rw [← HR.out]
          unfold fm
          rw [List.all_eq_false]
          exact ⟨_, List.mem_of_getElem? HT.out, by simp [HBB.out]⟩
        subst hf
        refine wp_quiet (by kernel_rfl) (by kernel_rfl) ?_
        repeat (any_goals (first | go_big_quiet_step ((go_at_call 24; exact quiet_call (HFC.out _ (more_same _ _)))) | quiet_step ((go_at_call 24; exact quiet_call (HFC.out _ (more_same _ _))))))
        refine wpQuiet_nil ?_
        rintro _ ⟨q, rfl⟩
        go_wp2
        go_ret
        exact ⟨rfl, HSA.out.trans (more_same _ q) (fun _ _ h => h)⟩
      | true =>
        by_cases hNN : tN = zN
        · subst hNN
          refine wp_quiet (by kernel_rfl) (by kernel_rfl) ?_
          repeat (any_goals (first | go_big_quiet_step ((go_at_call 24; exact quiet_call (HFC.out _ (more_same _ _)))) | quiet_step ((go_at_call 24; exact quiet_call (HFC.out _ (more_same _ _))))))
          refine wpQuiet_nil ?_
          rintro _ ⟨q, rfl⟩
          go_wp2
          go_roundw
          case rel => exact ⟨k + 1, by omega, by go_num, fun j t hj hjk => by
            by_cases hjk2 : j < k
            · exact HALL.out j t hj hjk2
            · obtain rfl : j = k := by omega
              obtain rfl := Option.some.inj (hj.symm.trans HT.out)
              exact ⟨HBB.out, by rw [HD0.out]⟩, HSA.out.trans (more_same _ q) (fun _ _ h => h)⟩
          case measure => simp [intOf]; omega
        · have hne2 : (tN != zN) = true := by simpa using hNN
          have hf : r = false := by
            rw [← HR.out]
            unfold fm
            rw [List.all_eq_false]
            exact ⟨_, List.mem_of_getElem? HT.out, by rw [HD0.out]; simp [hNN]⟩
          subst hf
          clear hNN
          refine wp_quiet (by kernel_rfl) (by kernel_rfl) ?_
          repeat (any_goals (first | go_big_quiet_step ((go_at_call 24; exact quiet_call (HFC.out _ (more_same _ _)))) | quiet_step ((go_at_call 24; exact quiet_call (HFC.out _ (more_same _ _))))))
          refine wpQuiet_nil ?_
          rintro _ ⟨q, rfl⟩
          go_wp2
          go_ret
          exact ⟨rfl, HSA.out.trans (more_same _ q) (fun _ _ h => h)⟩
    · obtain rfl : k = n := by omega
      have hf : r = true := by
        rw [← HR.out]
        unfold fm
        rw [List.all_eq_true]
        intro t ht
        obtain ⟨j, hj⟩ := List.getElem?_of_mem ht
        have := HALL.out j t hj (by rw [HN.out]; exact lt_of_get hj)
        simp [this]
      subst hf
      clear hall hs HALL
      go_wp2
      go_ret
      exact ⟨rfl, HS.out⟩
end Go.Proofs.Ytlggmoghgoeiiaa
