/- Contracts and plain laws, put together in one file. No condition. -/
import Derived.Test.YtaakjecnompogaaJWholeTruth3
import Derived.BigRegion


/- WholeTruth: table. -/
namespace Go.Proofs.Ytaakjecnompogaa
open Go.RowKit Go.Tk

set_option maxRecDepth 100000 in
set_option maxHeartbeats 16000000 in
theorem table_0 (A : Option Addr) (m C : Nat) (us : List Nat) (w : World) (h : WL w A m us) (hsm : Small us) : Calls Try.prog 4 #[.int .i64 0, .slice A m C] w (RetT w 0 (tabW 0 us)) := by
  obtain rfl := h.len
  have H := Lib.hid h
  have HSM := Lib.hid hsm
  clear h hsm
  have hnw : nw 0 = 1 := by decide
  have HNW := Lib.hid hnw
  clear hnw
  go_enter Try.func4, Try.ntmps4
  go_upto_region 3 with fail
  refine wp_world fun w1 hw1 => ?_
  have hs1 : Same w w1 := by rw [hw1]; exact ((Frm.refl _ _).alloc _).alloc _
  have hBR : Blk w1 (w.heap.size) 26 #[.int .i64 0, .slice none 0 0] := by
    rw [hw1]
    have := ((Blk.new w 26 #[.int .i64 0, .slice none 0 0]).alloc (.cells #[.int .i64 0, .slice none 0 0] 26))
    simpa using this
  have hBT : Blk w1 (w.heap.size + 1) 26 #[.int .i64 0, .slice none 0 0] := by
    rw [hw1]
    have := (Blk.new (w.alloc (.cells #[.int .i64 0, .slice none 0 0] 26)) 26 #[.int .i64 0, .slice none 0 0])
    simpa using this
  clear hw1
  obtain ⟨R, hR⟩ : ∃ b, w.heap.size = b := ⟨_, rfl⟩
  obtain ⟨D, hD⟩ : ∃ b, w.heap.size + 1 = b := ⟨_, rfl⟩
  rw [hD] at hBT ⊢
  rw [hR] at hBR ⊢
  have hRD : R ≠ D := by omega
  have hwR : w.heap.size ≤ R := by omega
  have hwD : w.heap.size ≤ D := by omega
  clear hR hD
  have HS1 := Lib.hid hs1
  have HBR := Lib.hid hBR
  have HBT := Lib.hid hBT
  clear hs1 hBR hBT
  go_wp2
  go_loopw [7, 8] (fun i _x wr => ∃ (k : Nat) (A2 : Option Addr) (C2 : Nat), k ≤ 1 ∧ i = .int .i64 k ∧ Same w wr ∧ Blk wr R 26 #[.int .i64 0, .slice none 0 0] ∧ Blk wr D 26 #[.int .i64 0, .slice A2 k C2] ∧ Fresh w.heap.size A2 ∧ (∀ b, rowOf A2 b → b ≠ R ∧ b ≠ D) ∧ OwnW wr A2 k C2 ((tabW 0 us).take k)) (fun i _ _ => 1 - (intOf i).toNat)
  case atStart => exact ⟨0, none, 0, by omega, rfl, HS1.out, HBR.out, HBT.out, fresh_none _, fun b ⟨a, h, _⟩ => (by cases h), Own.nil _ _ _ _⟩
  case round =>
    obtain ⟨k, A2, C2, hk, rfl, hs, hbr, hbt, hf, hne, ho⟩ := hrel
    have HS := Lib.hid hs
    have HR := Lib.hid hbr
    have HT := Lib.hid hbt
    have HF := Lib.hid hf
    have HNE := Lib.hid hne
    have HO := Lib.hid ho
    have hlk : ((tabW 0 us).take k).length = k := by rw [List.length_take, tabW_len, HNW.out]; omega
    have HLK := Lib.hid hlk
    clear hs hbr hbt hf hne ho hlk
    by_cases hlt : k < 1
    · have hi1 : (k : Int) < 1 := by omega
      have hi0 : (0 : Int) ≤ k := by omega
      have hnx := take_snoc (tabW_get (n := 0) (us := us) (show k < nw 0 by rw [HNW.out]; exact hlt))
      have HNX := Lib.hid hnx
      clear hnx
      by_cases hm0 : us.length = 0
      · have hz : tblW 0 us k = 0 := by
          obtain rfl : us = [] := List.length_eq_zero_iff.1 hm0
          unfold tblW; simp
        rw [hz] at HNX
        have hm1 : ¬ (0 : Int) < us.length := by omega
        have hm2 : ¬ 0 < us.length := by omega
        clear hz hm0
        go_upto_region 13 with fail
        simp only [show bits .and .u64 (0 : Int) 1 = 0 by decide]
        have hcT1 : wr.cell? ⟨D, 1, none⟩ = some (.slice A2 k C2) := HT.out.cell 1
        have hlT := HT.out.lt
        refine wp_read 3 ?_
        simp only [List.take_succ_cons, List.take_zero, List.drop_succ_cons, List.drop_zero]
        repeat (any_goals (first | go_big_quiet_step (fail) | quiet_step (fail)))
        refine wpQuiet_nil ?_
        refine wpList_plain rfl fun K hK => ?_
        go_simp
        refine hK _ _ ?_
        clear hK K
        refine list_world fun wa hwa => ?_
        have hN := Blk.new wr 23 #[.int .u64 0]
        have hsa : Same wr wa := by rw [hwa]; exact (Frm.refl _ _).alloc _
        rw [← hwa] at hN
        clear hwa hcT1 hlT
        refine Own.append_list (f := ucell) rfl (.tmp 40) (.tmp 42) _ rfl Try.underlying22 info_u64 rfl (by omega) rfl ((HO.out).frm hsa (fun _ _ => id)) (fun _ => rfl) 0 wr.heap.size 1 rfl hN (by simp [Value.oneCell', ucell]) (by rw [HLK.out]; simp [maxLen]; omega) (by rw [HLK.out]; omega) ?_
        intro gg cap wb hOb hgb hat
        have hnR : (Value.slice A2 k C2).ownBlock ≠ some R := fun h => (HNE.out R (ownBlock_row.1 h)).1 rfl
        have hnD : (Value.slice A2 k C2).ownBlock ≠ some D := fun h => (HNE.out D (ownBlock_row.1 h)).2 rfl
        have hbr := (HR.out.frm hsa id).grown hgb (fun h => hnR h.symm)
        have hbt := (HT.out.frm hsa id).grown hgb (fun h => hnD h.symm)
        have hgR : gg ≠ R := fun h => by
          rcases hat with h1 | h1
          · exact hnR (h ▸ h1)
          · have := (HR.out.frm hsa id).lt; omega
        have hgD : gg ≠ D := fun h => by
          rcases hat with h1 | h1
          · exact hnD (h ▸ h1)
          · have := (HT.out.frm hsa id).lt; omega
        have HOb := Lib.hid hOb
        have HSb := Lib.hid (Same.app (HS.out) hsa hgb (HF.out))
        have HFb := Lib.hid (fresh_app (HS.out) hsa (HF.out) hat)
        have HBRb := Lib.hid hbr
        have HBTb := Lib.hid hbt
        have hcT0 : wb.cell? ⟨D, 0, none⟩ = some (.int .i64 0) := hbt.cell 0
        have hcT1 : wb.cell? ⟨D, 1, none⟩ = some (.slice A2 k C2) := hbt.cell 1
        have hfT1 := hbt.free 1
        have hlT := hbt.lt
        clear hOb hgb hat hsa hN hbr hbt hnR hnD
        go_wp2
        go_roundw
        case rel =>
          refine ⟨k + 1, some ⟨gg, 0, none⟩, cap, by omega, by go_num, HSb.out.setNew 1 _ hwD, HBRb.out.far (p := ⟨D, 1, none⟩) hRD _, ?_, HFb.out, fun b ⟨a, h, h2⟩ => by injection h with h; subst h; subst h2; exact ⟨hgR, hgD⟩, ?_⟩
          · have := HBTb.out.set 1 (.slice (some ⟨gg, 0, none⟩) (k + 1) cap)
            simpa using this
          · rw [HNX.out]
            exact Own.far (p := ⟨D, 1, none⟩) HOb.out (fun a h => by injection h with h; subst h; exact hgD) _
        case measure => simp [intOf]; omega
      · have hm1 : (0 : Int) < us.length := by omega
        obtain ⟨d, hd⟩ : ∃ d, k % us.length = d := ⟨_, rfl⟩
        have hdl : d < us.length := by rw [← hd]; exact Nat.mod_lt _ (by omega)
        have hdk : d ≤ k := by rw [← hd]; exact Nat.mod_le _ _
        have hq2 : IntKind.i64.wrap (d : Int) = d := IntWalk.i64_in _ (by omega)
        obtain ⟨y, hy⟩ : ∃ y, us[d]? = some y := ⟨_, List.getElem?_eq_getElem hdl⟩
        have hyl := HSM.out.at1 hy
        have hz : tblW 0 us k = y % 2 := by unfold tblW; rw [hd, List.getD_eq_getElem?_getD, hy]; rfl
        rw [hz] at HNX
        obtain ⟨b, off, rfl, hb, hc⟩ := WL.at1 (Sl.same H.out HS.out) hy
        have hq0 : ¬ ((us.length : Nat) : Int) = 0 := by omega
        have hq1 : (k : Int).tmod ((us.length : Nat) : Int) = (d : Int) := by rw [← hd]; exact (Int.natCast_emod k us.length).symm ▸ (Int.tmod_eq_emod_of_nonneg (by omega))
        have hq3 : (k : Int) % ((us.length : Nat) : Int) = (d : Int) := by rw [← hd]; exact (Int.natCast_emod k us.length).symm
        have hd0 : (0 : Int) ≤ d := by omega
        have hd1 : (d : Int) < us.length := by omega
        have hmk : bits .and .u64 (y : Int) 1 = ((y % 2 : Nat) : Int) := by
          have h := u64_and_nat y 1 hyl (by omega)
          rw [show y &&& 1 = y % 2 from Nat.and_two_pow_sub_one_eq_mod y 1] at h
          exact h
        clear hz hd hy
        go_upto_region 13 with fail
        have hm2 : (y : Int) % 2 = ((y % 2 : Nat) : Int) := by omega
        simp only [hm2]
        clear hm2
        clear hmk
        obtain ⟨z, hz⟩ : ∃ z, y % 2 = z := ⟨_, rfl⟩
        simp only [hz] at HNX ⊢
        clear hz
        have hcT1 : wr.cell? ⟨D, 1, none⟩ = some (.slice A2 k C2) := HT.out.cell 1
        have hlT := HT.out.lt
        refine wp_read 3 ?_
        simp only [List.take_succ_cons, List.take_zero, List.drop_succ_cons, List.drop_zero]
        repeat (any_goals (first | go_big_quiet_step (fail) | quiet_step (fail)))
        refine wpQuiet_nil ?_
        refine wpList_plain rfl fun K hK => ?_
        go_simp
        refine hK _ _ ?_
        clear hK K
        refine list_world fun wa hwa => ?_
        have hN := Blk.new wr 23 #[.int .u64 (z : Int)]
        have hsa : Same wr wa := by rw [hwa]; exact (Frm.refl _ _).alloc _
        rw [← hwa] at hN
        clear hwa hcT1 hlT
        refine Own.append_list (f := ucell) rfl (.tmp 40) (.tmp 42) _ rfl Try.underlying22 info_u64 rfl (by omega) rfl ((HO.out).frm hsa (fun _ _ => id)) (fun _ => rfl) z wr.heap.size 1 rfl hN (by simp [Value.oneCell', ucell]) (by rw [HLK.out]; simp [maxLen]; omega) (by rw [HLK.out]; omega) ?_
        intro gg cap wb hOb hgb hat
        have hnR : (Value.slice A2 k C2).ownBlock ≠ some R := fun h => (HNE.out R (ownBlock_row.1 h)).1 rfl
        have hnD : (Value.slice A2 k C2).ownBlock ≠ some D := fun h => (HNE.out D (ownBlock_row.1 h)).2 rfl
        have hbr := (HR.out.frm hsa id).grown hgb (fun h => hnR h.symm)
        have hbt := (HT.out.frm hsa id).grown hgb (fun h => hnD h.symm)
        have hgR : gg ≠ R := fun h => by
          rcases hat with h1 | h1
          · exact hnR (h ▸ h1)
          · have := (HR.out.frm hsa id).lt; omega
        have hgD : gg ≠ D := fun h => by
          rcases hat with h1 | h1
          · exact hnD (h ▸ h1)
          · have := (HT.out.frm hsa id).lt; omega
        have HOb := Lib.hid hOb
        have HSb := Lib.hid (Same.app (HS.out) hsa hgb (HF.out))
        have HFb := Lib.hid (fresh_app (HS.out) hsa (HF.out) hat)
        have HBRb := Lib.hid hbr
        have HBTb := Lib.hid hbt
        have hcT0 : wb.cell? ⟨D, 0, none⟩ = some (.int .i64 0) := hbt.cell 0
        have hcT1 : wb.cell? ⟨D, 1, none⟩ = some (.slice A2 k C2) := hbt.cell 1
        have hfT1 := hbt.free 1
        have hlT := hbt.lt
        clear hOb hgb hat hsa hN hbr hbt hnR hnD
        go_wp2
        go_roundw
        case rel =>
          refine ⟨k + 1, some ⟨gg, 0, none⟩, cap, by omega, by go_num, HSb.out.setNew 1 _ hwD, HBRb.out.far (p := ⟨D, 1, none⟩) hRD _, ?_, HFb.out, fun b ⟨a, h, h2⟩ => by injection h with h; subst h; subst h2; exact ⟨hgR, hgD⟩, ?_⟩
          · have := HBTb.out.set 1 (.slice (some ⟨gg, 0, none⟩) (k + 1) cap)
            simpa using this
          · rw [HNX.out]
            exact Own.far (p := ⟨D, 1, none⟩) HOb.out (fun a h => by injection h with h; subst h; exact hgD) _
        case measure => simp [intOf]; omega
    · obtain rfl : k = 1 := by omega
      have hfull := HO.out
      rw [List.take_of_length_le (by rw [tabW_len, HNW.out]; exact Nat.le_refl _)] at hfull
      have hcR0 : wr.cell? ⟨R, 0, none⟩ = some (.int .i64 0) := HR.out.cell 0
      have hcR1 : wr.cell? ⟨R, 1, none⟩ = some (.slice none 0 0) := HR.out.cell 1
      have hcT0 : wr.cell? ⟨D, 0, none⟩ = some (.int .i64 0) := HT.out.cell 0
      have hcT1 : wr.cell? ⟨D, 1, none⟩ = some (.slice A2 1 C2) := HT.out.cell 1
      have hfR0 := HR.out.free 0
      have hfR1 := HR.out.free 1
      have hlR := HR.out.lt
      have hlT := HT.out.lt
      have HFU := Lib.hid hfull
      clear hfull
      go_wp2
      refine wp_post fun we hwe => ?_
      have hBE : Blk we R 26 #[.int .i64 0, .slice A2 1 C2] := by
        rw [hwe]
        have := (HR.out.set 0 (.int .i64 0)).set 1 (.slice A2 1 C2)
        simpa using this
      have hSE : Same w we := by rw [hwe]; exact (HS.out.setNew 0 _ hwR).setNew 1 _ hwR
      have hnR : ∀ a, A2 = some a → a.block ≠ R := fun a ha => (HNE.out a.block ⟨a, ha, rfl⟩).1
      have hOE : OwnW we A2 1 C2 (tabW 0 us) := by
        rw [hwe]
        exact Own.far (p := ⟨R, 1, none⟩) (Own.far (p := ⟨R, 0, none⟩) HFU.out hnR _) hnR _
      have hr0 : we.cell? ⟨R, 0, none⟩ = some (.int .i64 0) := hBE.cell 0
      have hr1 : we.cell? ⟨R, 1, none⟩ = some (.slice A2 1 C2) := hBE.cell 1
      clear hwe hBE
      refine bodyPost_ret (v := .agg #[.int .i64 0, .slice A2 1 C2]) (by simp [results, Try.results4, go_sem, hr0, hr1]) rfl ?_
      have hll : (tabW 0 us).length = 1 := by rw [tabW_len]; exact HNW.out
      exact ⟨A2, C2, by rw [hll], by rw [← hll] at hOE; exact ⟨hOE, HF.out, hSE⟩⟩
set_option maxRecDepth 100000 in
set_option maxHeartbeats 16000000 in
theorem table_1 (A : Option Addr) (m C : Nat) (us : List Nat) (w : World) (h : WL w A m us) (hsm : Small us) : Calls Try.prog 4 #[.int .i64 1, .slice A m C] w (RetT w 1 (tabW 1 us)) := by
  obtain rfl := h.len
  have H := Lib.hid h
  have HSM := Lib.hid hsm
  clear h hsm
  have hnw : nw 1 = 1 := by decide
  have HNW := Lib.hid hnw
  clear hnw
  go_enter Try.func4, Try.ntmps4
  go_upto_region 3 with fail
  refine wp_world fun w1 hw1 => ?_
  have hs1 : Same w w1 := by rw [hw1]; exact ((Frm.refl _ _).alloc _).alloc _
  have hBR : Blk w1 (w.heap.size) 26 #[.int .i64 0, .slice none 0 0] := by
    rw [hw1]
    have := ((Blk.new w 26 #[.int .i64 0, .slice none 0 0]).alloc (.cells #[.int .i64 1, .slice none 0 0] 26))
    simpa using this
  have hBT : Blk w1 (w.heap.size + 1) 26 #[.int .i64 1, .slice none 0 0] := by
    rw [hw1]
    have := (Blk.new (w.alloc (.cells #[.int .i64 0, .slice none 0 0] 26)) 26 #[.int .i64 1, .slice none 0 0])
    simpa using this
  clear hw1
  obtain ⟨R, hR⟩ : ∃ b, w.heap.size = b := ⟨_, rfl⟩
  obtain ⟨D, hD⟩ : ∃ b, w.heap.size + 1 = b := ⟨_, rfl⟩
  rw [hD] at hBT ⊢
  rw [hR] at hBR ⊢
  have hRD : R ≠ D := by omega
  have hwR : w.heap.size ≤ R := by omega
  have hwD : w.heap.size ≤ D := by omega
  clear hR hD
  have HS1 := Lib.hid hs1
  have HBR := Lib.hid hBR
  have HBT := Lib.hid hBT
  clear hs1 hBR hBT
  go_wp2
  go_loopw [7, 8] (fun i _x wr => ∃ (k : Nat) (A2 : Option Addr) (C2 : Nat), k ≤ 1 ∧ i = .int .i64 k ∧ Same w wr ∧ Blk wr R 26 #[.int .i64 0, .slice none 0 0] ∧ Blk wr D 26 #[.int .i64 1, .slice A2 k C2] ∧ Fresh w.heap.size A2 ∧ (∀ b, rowOf A2 b → b ≠ R ∧ b ≠ D) ∧ OwnW wr A2 k C2 ((tabW 1 us).take k)) (fun i _ _ => 1 - (intOf i).toNat)
  case atStart => exact ⟨0, none, 0, by omega, rfl, HS1.out, HBR.out, HBT.out, fresh_none _, fun b ⟨a, h, _⟩ => (by cases h), Own.nil _ _ _ _⟩
  case round =>
    obtain ⟨k, A2, C2, hk, rfl, hs, hbr, hbt, hf, hne, ho⟩ := hrel
    have HS := Lib.hid hs
    have HR := Lib.hid hbr
    have HT := Lib.hid hbt
    have HF := Lib.hid hf
    have HNE := Lib.hid hne
    have HO := Lib.hid ho
    have hlk : ((tabW 1 us).take k).length = k := by rw [List.length_take, tabW_len, HNW.out]; omega
    have HLK := Lib.hid hlk
    clear hs hbr hbt hf hne ho hlk
    by_cases hlt : k < 1
    · have hi1 : (k : Int) < 1 := by omega
      have hi0 : (0 : Int) ≤ k := by omega
      have hnx := take_snoc (tabW_get (n := 1) (us := us) (show k < nw 1 by rw [HNW.out]; exact hlt))
      have HNX := Lib.hid hnx
      clear hnx
      by_cases hm0 : us.length = 0
      · have hz : tblW 1 us k = 0 := by
          obtain rfl : us = [] := List.length_eq_zero_iff.1 hm0
          unfold tblW; simp
        rw [hz] at HNX
        have hm1 : ¬ (0 : Int) < us.length := by omega
        have hm2 : ¬ 0 < us.length := by omega
        clear hz hm0
        go_upto_region 13 with fail
        simp only [show bits .and .u64 (0 : Int) 3 = 0 by decide]
        have hcT1 : wr.cell? ⟨D, 1, none⟩ = some (.slice A2 k C2) := HT.out.cell 1
        have hlT := HT.out.lt
        refine wp_read 3 ?_
        simp only [List.take_succ_cons, List.take_zero, List.drop_succ_cons, List.drop_zero]
        repeat (any_goals (first | go_big_quiet_step (fail) | quiet_step (fail)))
        refine wpQuiet_nil ?_
        refine wpList_plain rfl fun K hK => ?_
        go_simp
        refine hK _ _ ?_
        clear hK K
        refine list_world fun wa hwa => ?_
        have hN := Blk.new wr 23 #[.int .u64 0]
        have hsa : Same wr wa := by rw [hwa]; exact (Frm.refl _ _).alloc _
        rw [← hwa] at hN
        clear hwa hcT1 hlT
        refine Own.append_list (f := ucell) rfl (.tmp 40) (.tmp 42) _ rfl Try.underlying22 info_u64 rfl (by omega) rfl ((HO.out).frm hsa (fun _ _ => id)) (fun _ => rfl) 0 wr.heap.size 1 rfl hN (by simp [Value.oneCell', ucell]) (by rw [HLK.out]; simp [maxLen]; omega) (by rw [HLK.out]; omega) ?_
        intro gg cap wb hOb hgb hat
        have hnR : (Value.slice A2 k C2).ownBlock ≠ some R := fun h => (HNE.out R (ownBlock_row.1 h)).1 rfl
        have hnD : (Value.slice A2 k C2).ownBlock ≠ some D := fun h => (HNE.out D (ownBlock_row.1 h)).2 rfl
        have hbr := (HR.out.frm hsa id).grown hgb (fun h => hnR h.symm)
        have hbt := (HT.out.frm hsa id).grown hgb (fun h => hnD h.symm)
        have hgR : gg ≠ R := fun h => by
          rcases hat with h1 | h1
          · exact hnR (h ▸ h1)
          · have := (HR.out.frm hsa id).lt; omega
        have hgD : gg ≠ D := fun h => by
          rcases hat with h1 | h1
          · exact hnD (h ▸ h1)
          · have := (HT.out.frm hsa id).lt; omega
        have HOb := Lib.hid hOb
        have HSb := Lib.hid (Same.app (HS.out) hsa hgb (HF.out))
        have HFb := Lib.hid (fresh_app (HS.out) hsa (HF.out) hat)
        have HBRb := Lib.hid hbr
        have HBTb := Lib.hid hbt
        have hcT0 : wb.cell? ⟨D, 0, none⟩ = some (.int .i64 1) := hbt.cell 0
        have hcT1 : wb.cell? ⟨D, 1, none⟩ = some (.slice A2 k C2) := hbt.cell 1
        have hfT1 := hbt.free 1
        have hlT := hbt.lt
        clear hOb hgb hat hsa hN hbr hbt hnR hnD
        go_wp2
        go_roundw
        case rel =>
          refine ⟨k + 1, some ⟨gg, 0, none⟩, cap, by omega, by go_num, HSb.out.setNew 1 _ hwD, HBRb.out.far (p := ⟨D, 1, none⟩) hRD _, ?_, HFb.out, fun b ⟨a, h, h2⟩ => by injection h with h; subst h; subst h2; exact ⟨hgR, hgD⟩, ?_⟩
          · have := HBTb.out.set 1 (.slice (some ⟨gg, 0, none⟩) (k + 1) cap)
            simpa using this
          · rw [HNX.out]
            exact Own.far (p := ⟨D, 1, none⟩) HOb.out (fun a h => by injection h with h; subst h; exact hgD) _
        case measure => simp [intOf]; omega
      · have hm1 : (0 : Int) < us.length := by omega
        obtain ⟨d, hd⟩ : ∃ d, k % us.length = d := ⟨_, rfl⟩
        have hdl : d < us.length := by rw [← hd]; exact Nat.mod_lt _ (by omega)
        have hdk : d ≤ k := by rw [← hd]; exact Nat.mod_le _ _
        have hq2 : IntKind.i64.wrap (d : Int) = d := IntWalk.i64_in _ (by omega)
        obtain ⟨y, hy⟩ : ∃ y, us[d]? = some y := ⟨_, List.getElem?_eq_getElem hdl⟩
        have hyl := HSM.out.at1 hy
        have hz : tblW 1 us k = y % 4 := by unfold tblW; rw [hd, List.getD_eq_getElem?_getD, hy]; rfl
        rw [hz] at HNX
        obtain ⟨b, off, rfl, hb, hc⟩ := WL.at1 (Sl.same H.out HS.out) hy
        have hq0 : ¬ ((us.length : Nat) : Int) = 0 := by omega
        have hq1 : (k : Int).tmod ((us.length : Nat) : Int) = (d : Int) := by rw [← hd]; exact (Int.natCast_emod k us.length).symm ▸ (Int.tmod_eq_emod_of_nonneg (by omega))
        have hq3 : (k : Int) % ((us.length : Nat) : Int) = (d : Int) := by rw [← hd]; exact (Int.natCast_emod k us.length).symm
        have hd0 : (0 : Int) ≤ d := by omega
        have hd1 : (d : Int) < us.length := by omega
        have hmk : bits .and .u64 (y : Int) 3 = ((y % 4 : Nat) : Int) := by
          have h := u64_and_nat y 3 hyl (by omega)
          rw [show y &&& 3 = y % 4 from Nat.and_two_pow_sub_one_eq_mod y 2] at h
          exact h
        clear hz hd hy
        go_upto_region 13 with fail
        have hm2 : (y : Int) % 4 = ((y % 4 : Nat) : Int) := by omega
        simp only [hm2]
        clear hm2
        clear hmk
        obtain ⟨z, hz⟩ : ∃ z, y % 4 = z := ⟨_, rfl⟩
        simp only [hz] at HNX ⊢
        clear hz
        have hcT1 : wr.cell? ⟨D, 1, none⟩ = some (.slice A2 k C2) := HT.out.cell 1
        have hlT := HT.out.lt
        refine wp_read 3 ?_
        simp only [List.take_succ_cons, List.take_zero, List.drop_succ_cons, List.drop_zero]
        repeat (any_goals (first | go_big_quiet_step (fail) | quiet_step (fail)))
        refine wpQuiet_nil ?_
        refine wpList_plain rfl fun K hK => ?_
        go_simp
        refine hK _ _ ?_
        clear hK K
        refine list_world fun wa hwa => ?_
        have hN := Blk.new wr 23 #[.int .u64 (z : Int)]
        have hsa : Same wr wa := by rw [hwa]; exact (Frm.refl _ _).alloc _
        rw [← hwa] at hN
        clear hwa hcT1 hlT
        refine Own.append_list (f := ucell) rfl (.tmp 40) (.tmp 42) _ rfl Try.underlying22 info_u64 rfl (by omega) rfl ((HO.out).frm hsa (fun _ _ => id)) (fun _ => rfl) z wr.heap.size 1 rfl hN (by simp [Value.oneCell', ucell]) (by rw [HLK.out]; simp [maxLen]; omega) (by rw [HLK.out]; omega) ?_
        intro gg cap wb hOb hgb hat
        have hnR : (Value.slice A2 k C2).ownBlock ≠ some R := fun h => (HNE.out R (ownBlock_row.1 h)).1 rfl
        have hnD : (Value.slice A2 k C2).ownBlock ≠ some D := fun h => (HNE.out D (ownBlock_row.1 h)).2 rfl
        have hbr := (HR.out.frm hsa id).grown hgb (fun h => hnR h.symm)
        have hbt := (HT.out.frm hsa id).grown hgb (fun h => hnD h.symm)
        have hgR : gg ≠ R := fun h => by
          rcases hat with h1 | h1
          · exact hnR (h ▸ h1)
          · have := (HR.out.frm hsa id).lt; omega
        have hgD : gg ≠ D := fun h => by
          rcases hat with h1 | h1
          · exact hnD (h ▸ h1)
          · have := (HT.out.frm hsa id).lt; omega
        have HOb := Lib.hid hOb
        have HSb := Lib.hid (Same.app (HS.out) hsa hgb (HF.out))
        have HFb := Lib.hid (fresh_app (HS.out) hsa (HF.out) hat)
        have HBRb := Lib.hid hbr
        have HBTb := Lib.hid hbt
        have hcT0 : wb.cell? ⟨D, 0, none⟩ = some (.int .i64 1) := hbt.cell 0
        have hcT1 : wb.cell? ⟨D, 1, none⟩ = some (.slice A2 k C2) := hbt.cell 1
        have hfT1 := hbt.free 1
        have hlT := hbt.lt
        clear hOb hgb hat hsa hN hbr hbt hnR hnD
        go_wp2
        go_roundw
        case rel =>
          refine ⟨k + 1, some ⟨gg, 0, none⟩, cap, by omega, by go_num, HSb.out.setNew 1 _ hwD, HBRb.out.far (p := ⟨D, 1, none⟩) hRD _, ?_, HFb.out, fun b ⟨a, h, h2⟩ => by injection h with h; subst h; subst h2; exact ⟨hgR, hgD⟩, ?_⟩
          · have := HBTb.out.set 1 (.slice (some ⟨gg, 0, none⟩) (k + 1) cap)
            simpa using this
          · rw [HNX.out]
            exact Own.far (p := ⟨D, 1, none⟩) HOb.out (fun a h => by injection h with h; subst h; exact hgD) _
        case measure => simp [intOf]; omega
    · obtain rfl : k = 1 := by omega
      have hfull := HO.out
      rw [List.take_of_length_le (by rw [tabW_len, HNW.out]; exact Nat.le_refl _)] at hfull
      have hcR0 : wr.cell? ⟨R, 0, none⟩ = some (.int .i64 0) := HR.out.cell 0
      have hcR1 : wr.cell? ⟨R, 1, none⟩ = some (.slice none 0 0) := HR.out.cell 1
      have hcT0 : wr.cell? ⟨D, 0, none⟩ = some (.int .i64 1) := HT.out.cell 0
      have hcT1 : wr.cell? ⟨D, 1, none⟩ = some (.slice A2 1 C2) := HT.out.cell 1
      have hfR0 := HR.out.free 0
      have hfR1 := HR.out.free 1
      have hlR := HR.out.lt
      have hlT := HT.out.lt
      have HFU := Lib.hid hfull
      clear hfull
      go_wp2
      refine wp_post fun we hwe => ?_
      have hBE : Blk we R 26 #[.int .i64 1, .slice A2 1 C2] := by
        rw [hwe]
        have := (HR.out.set 0 (.int .i64 1)).set 1 (.slice A2 1 C2)
        simpa using this
      have hSE : Same w we := by rw [hwe]; exact (HS.out.setNew 0 _ hwR).setNew 1 _ hwR
      have hnR : ∀ a, A2 = some a → a.block ≠ R := fun a ha => (HNE.out a.block ⟨a, ha, rfl⟩).1
      have hOE : OwnW we A2 1 C2 (tabW 1 us) := by
        rw [hwe]
        exact Own.far (p := ⟨R, 1, none⟩) (Own.far (p := ⟨R, 0, none⟩) HFU.out hnR _) hnR _
      have hr0 : we.cell? ⟨R, 0, none⟩ = some (.int .i64 1) := hBE.cell 0
      have hr1 : we.cell? ⟨R, 1, none⟩ = some (.slice A2 1 C2) := hBE.cell 1
      clear hwe hBE
      refine bodyPost_ret (v := .agg #[.int .i64 1, .slice A2 1 C2]) (by simp [results, Try.results4, go_sem, hr0, hr1]) rfl ?_
      have hll : (tabW 1 us).length = 1 := by rw [tabW_len]; exact HNW.out
      exact ⟨A2, C2, by rw [hll], by rw [← hll] at hOE; exact ⟨hOE, HF.out, hSE⟩⟩
set_option maxRecDepth 100000 in
set_option maxHeartbeats 16000000 in
theorem table_2 (A : Option Addr) (m C : Nat) (us : List Nat) (w : World) (h : WL w A m us) (hsm : Small us) : Calls Try.prog 4 #[.int .i64 2, .slice A m C] w (RetT w 2 (tabW 2 us)) := by
  obtain rfl := h.len
  have H := Lib.hid h
  have HSM := Lib.hid hsm
  clear h hsm
  have hnw : nw 2 = 1 := by decide
  have HNW := Lib.hid hnw
  clear hnw
  go_enter Try.func4, Try.ntmps4
  go_upto_region 3 with fail
  refine wp_world fun w1 hw1 => ?_
  have hs1 : Same w w1 := by rw [hw1]; exact ((Frm.refl _ _).alloc _).alloc _
  have hBR : Blk w1 (w.heap.size) 26 #[.int .i64 0, .slice none 0 0] := by
    rw [hw1]
    have := ((Blk.new w 26 #[.int .i64 0, .slice none 0 0]).alloc (.cells #[.int .i64 2, .slice none 0 0] 26))
    simpa using this
  have hBT : Blk w1 (w.heap.size + 1) 26 #[.int .i64 2, .slice none 0 0] := by
    rw [hw1]
    have := (Blk.new (w.alloc (.cells #[.int .i64 0, .slice none 0 0] 26)) 26 #[.int .i64 2, .slice none 0 0])
    simpa using this
  clear hw1
  obtain ⟨R, hR⟩ : ∃ b, w.heap.size = b := ⟨_, rfl⟩
  obtain ⟨D, hD⟩ : ∃ b, w.heap.size + 1 = b := ⟨_, rfl⟩
  rw [hD] at hBT ⊢
  rw [hR] at hBR ⊢
  have hRD : R ≠ D := by omega
  have hwR : w.heap.size ≤ R := by omega
  have hwD : w.heap.size ≤ D := by omega
  clear hR hD
  have HS1 := Lib.hid hs1
  have HBR := Lib.hid hBR
  have HBT := Lib.hid hBT
  clear hs1 hBR hBT
  go_wp2
  go_loopw [7, 8] (fun i _x wr => ∃ (k : Nat) (A2 : Option Addr) (C2 : Nat), k ≤ 1 ∧ i = .int .i64 k ∧ Same w wr ∧ Blk wr R 26 #[.int .i64 0, .slice none 0 0] ∧ Blk wr D 26 #[.int .i64 2, .slice A2 k C2] ∧ Fresh w.heap.size A2 ∧ (∀ b, rowOf A2 b → b ≠ R ∧ b ≠ D) ∧ OwnW wr A2 k C2 ((tabW 2 us).take k)) (fun i _ _ => 1 - (intOf i).toNat)
  case atStart => exact ⟨0, none, 0, by omega, rfl, HS1.out, HBR.out, HBT.out, fresh_none _, fun b ⟨a, h, _⟩ => (by cases h), Own.nil _ _ _ _⟩
  case round =>
    obtain ⟨k, A2, C2, hk, rfl, hs, hbr, hbt, hf, hne, ho⟩ := hrel
    have HS := Lib.hid hs
    have HR := Lib.hid hbr
    have HT := Lib.hid hbt
    have HF := Lib.hid hf
    have HNE := Lib.hid hne
    have HO := Lib.hid ho
    have hlk : ((tabW 2 us).take k).length = k := by rw [List.length_take, tabW_len, HNW.out]; omega
    have HLK := Lib.hid hlk
    clear hs hbr hbt hf hne ho hlk
    by_cases hlt : k < 1
    · have hi1 : (k : Int) < 1 := by omega
      have hi0 : (0 : Int) ≤ k := by omega
      have hnx := take_snoc (tabW_get (n := 2) (us := us) (show k < nw 2 by rw [HNW.out]; exact hlt))
      have HNX := Lib.hid hnx
      clear hnx
      by_cases hm0 : us.length = 0
      · have hz : tblW 2 us k = 0 := by
          obtain rfl : us = [] := List.length_eq_zero_iff.1 hm0
          unfold tblW; simp
        rw [hz] at HNX
        have hm1 : ¬ (0 : Int) < us.length := by omega
        have hm2 : ¬ 0 < us.length := by omega
        clear hz hm0
        go_upto_region 13 with fail
        simp only [show bits .and .u64 (0 : Int) 15 = 0 by decide]
        have hcT1 : wr.cell? ⟨D, 1, none⟩ = some (.slice A2 k C2) := HT.out.cell 1
        have hlT := HT.out.lt
        refine wp_read 3 ?_
        simp only [List.take_succ_cons, List.take_zero, List.drop_succ_cons, List.drop_zero]
        repeat (any_goals (first | go_big_quiet_step (fail) | quiet_step (fail)))
        refine wpQuiet_nil ?_
        refine wpList_plain rfl fun K hK => ?_
        go_simp
        refine hK _ _ ?_
        clear hK K
        refine list_world fun wa hwa => ?_
        have hN := Blk.new wr 23 #[.int .u64 0]
        have hsa : Same wr wa := by rw [hwa]; exact (Frm.refl _ _).alloc _
        rw [← hwa] at hN
        clear hwa hcT1 hlT
        refine Own.append_list (f := ucell) rfl (.tmp 40) (.tmp 42) _ rfl Try.underlying22 info_u64 rfl (by omega) rfl ((HO.out).frm hsa (fun _ _ => id)) (fun _ => rfl) 0 wr.heap.size 1 rfl hN (by simp [Value.oneCell', ucell]) (by rw [HLK.out]; simp [maxLen]; omega) (by rw [HLK.out]; omega) ?_
        intro gg cap wb hOb hgb hat
        have hnR : (Value.slice A2 k C2).ownBlock ≠ some R := fun h => (HNE.out R (ownBlock_row.1 h)).1 rfl
        have hnD : (Value.slice A2 k C2).ownBlock ≠ some D := fun h => (HNE.out D (ownBlock_row.1 h)).2 rfl
        have hbr := (HR.out.frm hsa id).grown hgb (fun h => hnR h.symm)
        have hbt := (HT.out.frm hsa id).grown hgb (fun h => hnD h.symm)
        have hgR : gg ≠ R := fun h => by
          rcases hat with h1 | h1
          · exact hnR (h ▸ h1)
          · have := (HR.out.frm hsa id).lt; omega
        have hgD : gg ≠ D := fun h => by
          rcases hat with h1 | h1
          · exact hnD (h ▸ h1)
          · have := (HT.out.frm hsa id).lt; omega
        have HOb := Lib.hid hOb
        have HSb := Lib.hid (Same.app (HS.out) hsa hgb (HF.out))
        have HFb := Lib.hid (fresh_app (HS.out) hsa (HF.out) hat)
        have HBRb := Lib.hid hbr
        have HBTb := Lib.hid hbt
        have hcT0 : wb.cell? ⟨D, 0, none⟩ = some (.int .i64 2) := hbt.cell 0
        have hcT1 : wb.cell? ⟨D, 1, none⟩ = some (.slice A2 k C2) := hbt.cell 1
        have hfT1 := hbt.free 1
        have hlT := hbt.lt
        clear hOb hgb hat hsa hN hbr hbt hnR hnD
        go_wp2
        go_roundw
        case rel =>
          refine ⟨k + 1, some ⟨gg, 0, none⟩, cap, by omega, by go_num, HSb.out.setNew 1 _ hwD, HBRb.out.far (p := ⟨D, 1, none⟩) hRD _, ?_, HFb.out, fun b ⟨a, h, h2⟩ => by injection h with h; subst h; subst h2; exact ⟨hgR, hgD⟩, ?_⟩
          · have := HBTb.out.set 1 (.slice (some ⟨gg, 0, none⟩) (k + 1) cap)
            simpa using this
          · rw [HNX.out]
            exact Own.far (p := ⟨D, 1, none⟩) HOb.out (fun a h => by injection h with h; subst h; exact hgD) _
        case measure => simp [intOf]; omega
      · have hm1 : (0 : Int) < us.length := by omega
        obtain ⟨d, hd⟩ : ∃ d, k % us.length = d := ⟨_, rfl⟩
        have hdl : d < us.length := by rw [← hd]; exact Nat.mod_lt _ (by omega)
        have hdk : d ≤ k := by rw [← hd]; exact Nat.mod_le _ _
        have hq2 : IntKind.i64.wrap (d : Int) = d := IntWalk.i64_in _ (by omega)
        obtain ⟨y, hy⟩ : ∃ y, us[d]? = some y := ⟨_, List.getElem?_eq_getElem hdl⟩
        have hyl := HSM.out.at1 hy
        have hz : tblW 2 us k = y % 16 := by unfold tblW; rw [hd, List.getD_eq_getElem?_getD, hy]; rfl
        rw [hz] at HNX
        obtain ⟨b, off, rfl, hb, hc⟩ := WL.at1 (Sl.same H.out HS.out) hy
        have hq0 : ¬ ((us.length : Nat) : Int) = 0 := by omega
        have hq1 : (k : Int).tmod ((us.length : Nat) : Int) = (d : Int) := by rw [← hd]; exact (Int.natCast_emod k us.length).symm ▸ (Int.tmod_eq_emod_of_nonneg (by omega))
        have hq3 : (k : Int) % ((us.length : Nat) : Int) = (d : Int) := by rw [← hd]; exact (Int.natCast_emod k us.length).symm
        have hd0 : (0 : Int) ≤ d := by omega
        have hd1 : (d : Int) < us.length := by omega
        have hmk : bits .and .u64 (y : Int) 15 = ((y % 16 : Nat) : Int) := by
          have h := u64_and_nat y 15 hyl (by omega)
          rw [show y &&& 15 = y % 16 from Nat.and_two_pow_sub_one_eq_mod y 4] at h
          exact h
        clear hz hd hy
        go_upto_region 13 with fail
        have hm2 : (y : Int) % 16 = ((y % 16 : Nat) : Int) := by omega
        simp only [hm2]
        clear hm2
        clear hmk
        obtain ⟨z, hz⟩ : ∃ z, y % 16 = z := ⟨_, rfl⟩
        simp only [hz] at HNX ⊢
        clear hz
        have hcT1 : wr.cell? ⟨D, 1, none⟩ = some (.slice A2 k C2) := HT.out.cell 1
        have hlT := HT.out.lt
        refine wp_read 3 ?_
        simp only [List.take_succ_cons, List.take_zero, List.drop_succ_cons, List.drop_zero]
        repeat (any_goals (first | go_big_quiet_step (fail) | quiet_step (fail)))
        refine wpQuiet_nil ?_
        refine wpList_plain rfl fun K hK => ?_
        go_simp
        refine hK _ _ ?_
        clear hK K
        refine list_world fun wa hwa => ?_
        have hN := Blk.new wr 23 #[.int .u64 (z : Int)]
        have hsa : Same wr wa := by rw [hwa]; exact (Frm.refl _ _).alloc _
        rw [← hwa] at hN
        clear hwa hcT1 hlT
        refine Own.append_list (f := ucell) rfl (.tmp 40) (.tmp 42) _ rfl Try.underlying22 info_u64 rfl (by omega) rfl ((HO.out).frm hsa (fun _ _ => id)) (fun _ => rfl) z wr.heap.size 1 rfl hN (by simp [Value.oneCell', ucell]) (by rw [HLK.out]; simp [maxLen]; omega) (by rw [HLK.out]; omega) ?_
        intro gg cap wb hOb hgb hat
        have hnR : (Value.slice A2 k C2).ownBlock ≠ some R := fun h => (HNE.out R (ownBlock_row.1 h)).1 rfl
        have hnD : (Value.slice A2 k C2).ownBlock ≠ some D := fun h => (HNE.out D (ownBlock_row.1 h)).2 rfl
        have hbr := (HR.out.frm hsa id).grown hgb (fun h => hnR h.symm)
        have hbt := (HT.out.frm hsa id).grown hgb (fun h => hnD h.symm)
        have hgR : gg ≠ R := fun h => by
          rcases hat with h1 | h1
          · exact hnR (h ▸ h1)
          · have := (HR.out.frm hsa id).lt; omega
        have hgD : gg ≠ D := fun h => by
          rcases hat with h1 | h1
          · exact hnD (h ▸ h1)
          · have := (HT.out.frm hsa id).lt; omega
        have HOb := Lib.hid hOb
        have HSb := Lib.hid (Same.app (HS.out) hsa hgb (HF.out))
        have HFb := Lib.hid (fresh_app (HS.out) hsa (HF.out) hat)
        have HBRb := Lib.hid hbr
        have HBTb := Lib.hid hbt
        have hcT0 : wb.cell? ⟨D, 0, none⟩ = some (.int .i64 2) := hbt.cell 0
        have hcT1 : wb.cell? ⟨D, 1, none⟩ = some (.slice A2 k C2) := hbt.cell 1
        have hfT1 := hbt.free 1
        have hlT := hbt.lt
        clear hOb hgb hat hsa hN hbr hbt hnR hnD
        go_wp2
        go_roundw
        case rel =>
          refine ⟨k + 1, some ⟨gg, 0, none⟩, cap, by omega, by go_num, HSb.out.setNew 1 _ hwD, HBRb.out.far (p := ⟨D, 1, none⟩) hRD _, ?_, HFb.out, fun b ⟨a, h, h2⟩ => by injection h with h; subst h; subst h2; exact ⟨hgR, hgD⟩, ?_⟩
          · have := HBTb.out.set 1 (.slice (some ⟨gg, 0, none⟩) (k + 1) cap)
            simpa using this
          · rw [HNX.out]
            exact Own.far (p := ⟨D, 1, none⟩) HOb.out (fun a h => by injection h with h; subst h; exact hgD) _
        case measure => simp [intOf]; omega
    · obtain rfl : k = 1 := by omega
      have hfull := HO.out
      rw [List.take_of_length_le (by rw [tabW_len, HNW.out]; exact Nat.le_refl _)] at hfull
      have hcR0 : wr.cell? ⟨R, 0, none⟩ = some (.int .i64 0) := HR.out.cell 0
      have hcR1 : wr.cell? ⟨R, 1, none⟩ = some (.slice none 0 0) := HR.out.cell 1
      have hcT0 : wr.cell? ⟨D, 0, none⟩ = some (.int .i64 2) := HT.out.cell 0
      have hcT1 : wr.cell? ⟨D, 1, none⟩ = some (.slice A2 1 C2) := HT.out.cell 1
      have hfR0 := HR.out.free 0
      have hfR1 := HR.out.free 1
      have hlR := HR.out.lt
      have hlT := HT.out.lt
      have HFU := Lib.hid hfull
      clear hfull
      go_wp2
      refine wp_post fun we hwe => ?_
      have hBE : Blk we R 26 #[.int .i64 2, .slice A2 1 C2] := by
        rw [hwe]
        have := (HR.out.set 0 (.int .i64 2)).set 1 (.slice A2 1 C2)
        simpa using this
      have hSE : Same w we := by rw [hwe]; exact (HS.out.setNew 0 _ hwR).setNew 1 _ hwR
      have hnR : ∀ a, A2 = some a → a.block ≠ R := fun a ha => (HNE.out a.block ⟨a, ha, rfl⟩).1
      have hOE : OwnW we A2 1 C2 (tabW 2 us) := by
        rw [hwe]
        exact Own.far (p := ⟨R, 1, none⟩) (Own.far (p := ⟨R, 0, none⟩) HFU.out hnR _) hnR _
      have hr0 : we.cell? ⟨R, 0, none⟩ = some (.int .i64 2) := hBE.cell 0
      have hr1 : we.cell? ⟨R, 1, none⟩ = some (.slice A2 1 C2) := hBE.cell 1
      clear hwe hBE
      refine bodyPost_ret (v := .agg #[.int .i64 2, .slice A2 1 C2]) (by simp [results, Try.results4, go_sem, hr0, hr1]) rfl ?_
      have hll : (tabW 2 us).length = 1 := by rw [tabW_len]; exact HNW.out
      exact ⟨A2, C2, by rw [hll], by rw [← hll] at hOE; exact ⟨hOE, HF.out, hSE⟩⟩
set_option maxRecDepth 100000 in
set_option maxHeartbeats 16000000 in
theorem table_3 (A : Option Addr) (m C : Nat) (us : List Nat) (w : World) (h : WL w A m us) (hsm : Small us) : Calls Try.prog 4 #[.int .i64 3, .slice A m C] w (RetT w 3 (tabW 3 us)) := by
  obtain rfl := h.len
  have H := Lib.hid h
  have HSM := Lib.hid hsm
  clear h hsm
  have hnw : nw 3 = 1 := by decide
  have HNW := Lib.hid hnw
  clear hnw
  go_enter Try.func4, Try.ntmps4
  go_upto_region 3 with fail
  refine wp_world fun w1 hw1 => ?_
  have hs1 : Same w w1 := by rw [hw1]; exact ((Frm.refl _ _).alloc _).alloc _
  have hBR : Blk w1 (w.heap.size) 26 #[.int .i64 0, .slice none 0 0] := by
    rw [hw1]
    have := ((Blk.new w 26 #[.int .i64 0, .slice none 0 0]).alloc (.cells #[.int .i64 3, .slice none 0 0] 26))
    simpa using this
  have hBT : Blk w1 (w.heap.size + 1) 26 #[.int .i64 3, .slice none 0 0] := by
    rw [hw1]
    have := (Blk.new (w.alloc (.cells #[.int .i64 0, .slice none 0 0] 26)) 26 #[.int .i64 3, .slice none 0 0])
    simpa using this
  clear hw1
  obtain ⟨R, hR⟩ : ∃ b, w.heap.size = b := ⟨_, rfl⟩
  obtain ⟨D, hD⟩ : ∃ b, w.heap.size + 1 = b := ⟨_, rfl⟩
  rw [hD] at hBT ⊢
  rw [hR] at hBR ⊢
  have hRD : R ≠ D := by omega
  have hwR : w.heap.size ≤ R := by omega
  have hwD : w.heap.size ≤ D := by omega
  clear hR hD
  have HS1 := Lib.hid hs1
  have HBR := Lib.hid hBR
  have HBT := Lib.hid hBT
  clear hs1 hBR hBT
  go_wp2
  go_loopw [7, 8] (fun i _x wr => ∃ (k : Nat) (A2 : Option Addr) (C2 : Nat), k ≤ 1 ∧ i = .int .i64 k ∧ Same w wr ∧ Blk wr R 26 #[.int .i64 0, .slice none 0 0] ∧ Blk wr D 26 #[.int .i64 3, .slice A2 k C2] ∧ Fresh w.heap.size A2 ∧ (∀ b, rowOf A2 b → b ≠ R ∧ b ≠ D) ∧ OwnW wr A2 k C2 ((tabW 3 us).take k)) (fun i _ _ => 1 - (intOf i).toNat)
  case atStart => exact ⟨0, none, 0, by omega, rfl, HS1.out, HBR.out, HBT.out, fresh_none _, fun b ⟨a, h, _⟩ => (by cases h), Own.nil _ _ _ _⟩
  case round =>
    obtain ⟨k, A2, C2, hk, rfl, hs, hbr, hbt, hf, hne, ho⟩ := hrel
    have HS := Lib.hid hs
    have HR := Lib.hid hbr
    have HT := Lib.hid hbt
    have HF := Lib.hid hf
    have HNE := Lib.hid hne
    have HO := Lib.hid ho
    have hlk : ((tabW 3 us).take k).length = k := by rw [List.length_take, tabW_len, HNW.out]; omega
    have HLK := Lib.hid hlk
    clear hs hbr hbt hf hne ho hlk
    by_cases hlt : k < 1
    · have hi1 : (k : Int) < 1 := by omega
      have hi0 : (0 : Int) ≤ k := by omega
      have hnx := take_snoc (tabW_get (n := 3) (us := us) (show k < nw 3 by rw [HNW.out]; exact hlt))
      have HNX := Lib.hid hnx
      clear hnx
      by_cases hm0 : us.length = 0
      · have hz : tblW 3 us k = 0 := by
          obtain rfl : us = [] := List.length_eq_zero_iff.1 hm0
          unfold tblW; simp
        rw [hz] at HNX
        have hm1 : ¬ (0 : Int) < us.length := by omega
        have hm2 : ¬ 0 < us.length := by omega
        clear hz hm0
        go_upto_region 13 with fail
        simp only [show bits .and .u64 (0 : Int) 255 = 0 by decide]
        have hcT1 : wr.cell? ⟨D, 1, none⟩ = some (.slice A2 k C2) := HT.out.cell 1
        have hlT := HT.out.lt
        refine wp_read 3 ?_
        simp only [List.take_succ_cons, List.take_zero, List.drop_succ_cons, List.drop_zero]
        repeat (any_goals (first | go_big_quiet_step (fail) | quiet_step (fail)))
        refine wpQuiet_nil ?_
        refine wpList_plain rfl fun K hK => ?_
        go_simp
        refine hK _ _ ?_
        clear hK K
        refine list_world fun wa hwa => ?_
        have hN := Blk.new wr 23 #[.int .u64 0]
        have hsa : Same wr wa := by rw [hwa]; exact (Frm.refl _ _).alloc _
        rw [← hwa] at hN
        clear hwa hcT1 hlT
        refine Own.append_list (f := ucell) rfl (.tmp 40) (.tmp 42) _ rfl Try.underlying22 info_u64 rfl (by omega) rfl ((HO.out).frm hsa (fun _ _ => id)) (fun _ => rfl) 0 wr.heap.size 1 rfl hN (by simp [Value.oneCell', ucell]) (by rw [HLK.out]; simp [maxLen]; omega) (by rw [HLK.out]; omega) ?_
        intro gg cap wb hOb hgb hat
        have hnR : (Value.slice A2 k C2).ownBlock ≠ some R := fun h => (HNE.out R (ownBlock_row.1 h)).1 rfl
        have hnD : (Value.slice A2 k C2).ownBlock ≠ some D := fun h => (HNE.out D (ownBlock_row.1 h)).2 rfl
        have hbr := (HR.out.frm hsa id).grown hgb (fun h => hnR h.symm)
        have hbt := (HT.out.frm hsa id).grown hgb (fun h => hnD h.symm)
        have hgR : gg ≠ R := fun h => by
          rcases hat with h1 | h1
          · exact hnR (h ▸ h1)
          · have := (HR.out.frm hsa id).lt; omega
        have hgD : gg ≠ D := fun h => by
          rcases hat with h1 | h1
          · exact hnD (h ▸ h1)
          · have := (HT.out.frm hsa id).lt; omega
        have HOb := Lib.hid hOb
        have HSb := Lib.hid (Same.app (HS.out) hsa hgb (HF.out))
        have HFb := Lib.hid (fresh_app (HS.out) hsa (HF.out) hat)
        have HBRb := Lib.hid hbr
        have HBTb := Lib.hid hbt
        have hcT0 : wb.cell? ⟨D, 0, none⟩ = some (.int .i64 3) := hbt.cell 0
        have hcT1 : wb.cell? ⟨D, 1, none⟩ = some (.slice A2 k C2) := hbt.cell 1
        have hfT1 := hbt.free 1
        have hlT := hbt.lt
        clear hOb hgb hat hsa hN hbr hbt hnR hnD
        go_wp2
        go_roundw
        case rel =>
          refine ⟨k + 1, some ⟨gg, 0, none⟩, cap, by omega, by go_num, HSb.out.setNew 1 _ hwD, HBRb.out.far (p := ⟨D, 1, none⟩) hRD _, ?_, HFb.out, fun b ⟨a, h, h2⟩ => by injection h with h; subst h; subst h2; exact ⟨hgR, hgD⟩, ?_⟩
          · have := HBTb.out.set 1 (.slice (some ⟨gg, 0, none⟩) (k + 1) cap)
            simpa using this
          · rw [HNX.out]
            exact Own.far (p := ⟨D, 1, none⟩) HOb.out (fun a h => by injection h with h; subst h; exact hgD) _
        case measure => simp [intOf]; omega
      · have hm1 : (0 : Int) < us.length := by omega
        obtain ⟨d, hd⟩ : ∃ d, k % us.length = d := ⟨_, rfl⟩
        have hdl : d < us.length := by rw [← hd]; exact Nat.mod_lt _ (by omega)
        have hdk : d ≤ k := by rw [← hd]; exact Nat.mod_le _ _
        have hq2 : IntKind.i64.wrap (d : Int) = d := IntWalk.i64_in _ (by omega)
        obtain ⟨y, hy⟩ : ∃ y, us[d]? = some y := ⟨_, List.getElem?_eq_getElem hdl⟩
        have hyl := HSM.out.at1 hy
        have hz : tblW 3 us k = y % 256 := by unfold tblW; rw [hd, List.getD_eq_getElem?_getD, hy]; rfl
        rw [hz] at HNX
        obtain ⟨b, off, rfl, hb, hc⟩ := WL.at1 (Sl.same H.out HS.out) hy
        have hq0 : ¬ ((us.length : Nat) : Int) = 0 := by omega
        have hq1 : (k : Int).tmod ((us.length : Nat) : Int) = (d : Int) := by rw [← hd]; exact (Int.natCast_emod k us.length).symm ▸ (Int.tmod_eq_emod_of_nonneg (by omega))
        have hq3 : (k : Int) % ((us.length : Nat) : Int) = (d : Int) := by rw [← hd]; exact (Int.natCast_emod k us.length).symm
        have hd0 : (0 : Int) ≤ d := by omega
        have hd1 : (d : Int) < us.length := by omega
        have hmk : bits .and .u64 (y : Int) 255 = ((y % 256 : Nat) : Int) := by
          have h := u64_and_nat y 255 hyl (by omega)
          rw [show y &&& 255 = y % 256 from Nat.and_two_pow_sub_one_eq_mod y 8] at h
          exact h
        clear hz hd hy
        go_upto_region 13 with fail
        have hm2 : (y : Int) % 256 = ((y % 256 : Nat) : Int) := by omega
        simp only [hm2]
        clear hm2
        clear hmk
        obtain ⟨z, hz⟩ : ∃ z, y % 256 = z := ⟨_, rfl⟩
        simp only [hz] at HNX ⊢
        clear hz
        have hcT1 : wr.cell? ⟨D, 1, none⟩ = some (.slice A2 k C2) := HT.out.cell 1
        have hlT := HT.out.lt
        refine wp_read 3 ?_
        simp only [List.take_succ_cons, List.take_zero, List.drop_succ_cons, List.drop_zero]
        repeat (any_goals (first | go_big_quiet_step (fail) | quiet_step (fail)))
        refine wpQuiet_nil ?_
        refine wpList_plain rfl fun K hK => ?_
        go_simp
        refine hK _ _ ?_
        clear hK K
        refine list_world fun wa hwa => ?_
        have hN := Blk.new wr 23 #[.int .u64 (z : Int)]
        have hsa : Same wr wa := by rw [hwa]; exact (Frm.refl _ _).alloc _
        rw [← hwa] at hN
        clear hwa hcT1 hlT
        refine Own.append_list (f := ucell) rfl (.tmp 40) (.tmp 42) _ rfl Try.underlying22 info_u64 rfl (by omega) rfl ((HO.out).frm hsa (fun _ _ => id)) (fun _ => rfl) z wr.heap.size 1 rfl hN (by simp [Value.oneCell', ucell]) (by rw [HLK.out]; simp [maxLen]; omega) (by rw [HLK.out]; omega) ?_
        intro gg cap wb hOb hgb hat
        have hnR : (Value.slice A2 k C2).ownBlock ≠ some R := fun h => (HNE.out R (ownBlock_row.1 h)).1 rfl
        have hnD : (Value.slice A2 k C2).ownBlock ≠ some D := fun h => (HNE.out D (ownBlock_row.1 h)).2 rfl
        have hbr := (HR.out.frm hsa id).grown hgb (fun h => hnR h.symm)
        have hbt := (HT.out.frm hsa id).grown hgb (fun h => hnD h.symm)
        have hgR : gg ≠ R := fun h => by
          rcases hat with h1 | h1
          · exact hnR (h ▸ h1)
          · have := (HR.out.frm hsa id).lt; omega
        have hgD : gg ≠ D := fun h => by
          rcases hat with h1 | h1
          · exact hnD (h ▸ h1)
          · have := (HT.out.frm hsa id).lt; omega
        have HOb := Lib.hid hOb
        have HSb := Lib.hid (Same.app (HS.out) hsa hgb (HF.out))
        have HFb := Lib.hid (fresh_app (HS.out) hsa (HF.out) hat)
        have HBRb := Lib.hid hbr
        have HBTb := Lib.hid hbt
        have hcT0 : wb.cell? ⟨D, 0, none⟩ = some (.int .i64 3) := hbt.cell 0
        have hcT1 : wb.cell? ⟨D, 1, none⟩ = some (.slice A2 k C2) := hbt.cell 1
        have hfT1 := hbt.free 1
        have hlT := hbt.lt
        clear hOb hgb hat hsa hN hbr hbt hnR hnD
        go_wp2
        go_roundw
        case rel =>
          refine ⟨k + 1, some ⟨gg, 0, none⟩, cap, by omega, by go_num, HSb.out.setNew 1 _ hwD, HBRb.out.far (p := ⟨D, 1, none⟩) hRD _, ?_, HFb.out, fun b ⟨a, h, h2⟩ => by injection h with h; subst h; subst h2; exact ⟨hgR, hgD⟩, ?_⟩
          · have := HBTb.out.set 1 (.slice (some ⟨gg, 0, none⟩) (k + 1) cap)
            simpa using this
          · rw [HNX.out]
            exact Own.far (p := ⟨D, 1, none⟩) HOb.out (fun a h => by injection h with h; subst h; exact hgD) _
        case measure => simp [intOf]; omega
    · obtain rfl : k = 1 := by omega
      have hfull := HO.out
      rw [List.take_of_length_le (by rw [tabW_len, HNW.out]; exact Nat.le_refl _)] at hfull
      have hcR0 : wr.cell? ⟨R, 0, none⟩ = some (.int .i64 0) := HR.out.cell 0
      have hcR1 : wr.cell? ⟨R, 1, none⟩ = some (.slice none 0 0) := HR.out.cell 1
      have hcT0 : wr.cell? ⟨D, 0, none⟩ = some (.int .i64 3) := HT.out.cell 0
      have hcT1 : wr.cell? ⟨D, 1, none⟩ = some (.slice A2 1 C2) := HT.out.cell 1
      have hfR0 := HR.out.free 0
      have hfR1 := HR.out.free 1
      have hlR := HR.out.lt
      have hlT := HT.out.lt
      have HFU := Lib.hid hfull
      clear hfull
      go_wp2
      refine wp_post fun we hwe => ?_
      have hBE : Blk we R 26 #[.int .i64 3, .slice A2 1 C2] := by
        rw [hwe]
        have := (HR.out.set 0 (.int .i64 3)).set 1 (.slice A2 1 C2)
        simpa using this
      have hSE : Same w we := by rw [hwe]; exact (HS.out.setNew 0 _ hwR).setNew 1 _ hwR
      have hnR : ∀ a, A2 = some a → a.block ≠ R := fun a ha => (HNE.out a.block ⟨a, ha, rfl⟩).1
      have hOE : OwnW we A2 1 C2 (tabW 3 us) := by
        rw [hwe]
        exact Own.far (p := ⟨R, 1, none⟩) (Own.far (p := ⟨R, 0, none⟩) HFU.out hnR _) hnR _
      have hr0 : we.cell? ⟨R, 0, none⟩ = some (.int .i64 3) := hBE.cell 0
      have hr1 : we.cell? ⟨R, 1, none⟩ = some (.slice A2 1 C2) := hBE.cell 1
      clear hwe hBE
      refine bodyPost_ret (v := .agg #[.int .i64 3, .slice A2 1 C2]) (by simp [results, Try.results4, go_sem, hr0, hr1]) rfl ?_
      have hll : (tabW 3 us).length = 1 := by rw [tabW_len]; exact HNW.out
      exact ⟨A2, C2, by rw [hll], by rw [← hll] at hOE; exact ⟨hOE, HF.out, hSE⟩⟩
set_option maxRecDepth 100000 in
set_option maxHeartbeats 16000000 in
theorem table_4 (A : Option Addr) (m C : Nat) (us : List Nat) (w : World) (h : WL w A m us) (hsm : Small us) : Calls Try.prog 4 #[.int .i64 4, .slice A m C] w (RetT w 4 (tabW 4 us)) := by
  obtain rfl := h.len
  have H := Lib.hid h
  have HSM := Lib.hid hsm
  clear h hsm
  have hnw : nw 4 = 1 := by decide
  have HNW := Lib.hid hnw
  clear hnw
  go_enter Try.func4, Try.ntmps4
  go_upto_region 3 with fail
  refine wp_world fun w1 hw1 => ?_
  have hs1 : Same w w1 := by rw [hw1]; exact ((Frm.refl _ _).alloc _).alloc _
  have hBR : Blk w1 (w.heap.size) 26 #[.int .i64 0, .slice none 0 0] := by
    rw [hw1]
    have := ((Blk.new w 26 #[.int .i64 0, .slice none 0 0]).alloc (.cells #[.int .i64 4, .slice none 0 0] 26))
    simpa using this
  have hBT : Blk w1 (w.heap.size + 1) 26 #[.int .i64 4, .slice none 0 0] := by
    rw [hw1]
    have := (Blk.new (w.alloc (.cells #[.int .i64 0, .slice none 0 0] 26)) 26 #[.int .i64 4, .slice none 0 0])
    simpa using this
  clear hw1
  obtain ⟨R, hR⟩ : ∃ b, w.heap.size = b := ⟨_, rfl⟩
  obtain ⟨D, hD⟩ : ∃ b, w.heap.size + 1 = b := ⟨_, rfl⟩
  rw [hD] at hBT ⊢
  rw [hR] at hBR ⊢
  have hRD : R ≠ D := by omega
  have hwR : w.heap.size ≤ R := by omega
  have hwD : w.heap.size ≤ D := by omega
  clear hR hD
  have HS1 := Lib.hid hs1
  have HBR := Lib.hid hBR
  have HBT := Lib.hid hBT
  clear hs1 hBR hBT
  go_wp2
  go_loopw [7, 8] (fun i _x wr => ∃ (k : Nat) (A2 : Option Addr) (C2 : Nat), k ≤ 1 ∧ i = .int .i64 k ∧ Same w wr ∧ Blk wr R 26 #[.int .i64 0, .slice none 0 0] ∧ Blk wr D 26 #[.int .i64 4, .slice A2 k C2] ∧ Fresh w.heap.size A2 ∧ (∀ b, rowOf A2 b → b ≠ R ∧ b ≠ D) ∧ OwnW wr A2 k C2 ((tabW 4 us).take k)) (fun i _ _ => 1 - (intOf i).toNat)
  case atStart => exact ⟨0, none, 0, by omega, rfl, HS1.out, HBR.out, HBT.out, fresh_none _, fun b ⟨a, h, _⟩ => (by cases h), Own.nil _ _ _ _⟩
  case round =>
    obtain ⟨k, A2, C2, hk, rfl, hs, hbr, hbt, hf, hne, ho⟩ := hrel
    have HS := Lib.hid hs
    have HR := Lib.hid hbr
    have HT := Lib.hid hbt
    have HF := Lib.hid hf
    have HNE := Lib.hid hne
    have HO := Lib.hid ho
    have hlk : ((tabW 4 us).take k).length = k := by rw [List.length_take, tabW_len, HNW.out]; omega
    have HLK := Lib.hid hlk
    clear hs hbr hbt hf hne ho hlk
    by_cases hlt : k < 1
    · have hi1 : (k : Int) < 1 := by omega
      have hi0 : (0 : Int) ≤ k := by omega
      have hnx := take_snoc (tabW_get (n := 4) (us := us) (show k < nw 4 by rw [HNW.out]; exact hlt))
      have HNX := Lib.hid hnx
      clear hnx
      by_cases hm0 : us.length = 0
      · have hz : tblW 4 us k = 0 := by
          obtain rfl : us = [] := List.length_eq_zero_iff.1 hm0
          unfold tblW; simp
        rw [hz] at HNX
        have hm1 : ¬ (0 : Int) < us.length := by omega
        have hm2 : ¬ 0 < us.length := by omega
        clear hz hm0
        go_upto_region 13 with fail
        simp only [show bits .and .u64 (0 : Int) 65535 = 0 by decide]
        have hcT1 : wr.cell? ⟨D, 1, none⟩ = some (.slice A2 k C2) := HT.out.cell 1
        have hlT := HT.out.lt
        refine wp_read 3 ?_
        simp only [List.take_succ_cons, List.take_zero, List.drop_succ_cons, List.drop_zero]
        repeat (any_goals (first | go_big_quiet_step (fail) | quiet_step (fail)))
        refine wpQuiet_nil ?_
        refine wpList_plain rfl fun K hK => ?_
        go_simp
        refine hK _ _ ?_
        clear hK K
        refine list_world fun wa hwa => ?_
        have hN := Blk.new wr 23 #[.int .u64 0]
        have hsa : Same wr wa := by rw [hwa]; exact (Frm.refl _ _).alloc _
        rw [← hwa] at hN
        clear hwa hcT1 hlT
        refine Own.append_list (f := ucell) rfl (.tmp 40) (.tmp 42) _ rfl Try.underlying22 info_u64 rfl (by omega) rfl ((HO.out).frm hsa (fun _ _ => id)) (fun _ => rfl) 0 wr.heap.size 1 rfl hN (by simp [Value.oneCell', ucell]) (by rw [HLK.out]; simp [maxLen]; omega) (by rw [HLK.out]; omega) ?_
        intro gg cap wb hOb hgb hat
        have hnR : (Value.slice A2 k C2).ownBlock ≠ some R := fun h => (HNE.out R (ownBlock_row.1 h)).1 rfl
        have hnD : (Value.slice A2 k C2).ownBlock ≠ some D := fun h => (HNE.out D (ownBlock_row.1 h)).2 rfl
        have hbr := (HR.out.frm hsa id).grown hgb (fun h => hnR h.symm)
        have hbt := (HT.out.frm hsa id).grown hgb (fun h => hnD h.symm)
        have hgR : gg ≠ R := fun h => by
          rcases hat with h1 | h1
          · exact hnR (h ▸ h1)
          · have := (HR.out.frm hsa id).lt; omega
        have hgD : gg ≠ D := fun h => by
          rcases hat with h1 | h1
          · exact hnD (h ▸ h1)
          · have := (HT.out.frm hsa id).lt; omega
        have HOb := Lib.hid hOb
        have HSb := Lib.hid (Same.app (HS.out) hsa hgb (HF.out))
        have HFb := Lib.hid (fresh_app (HS.out) hsa (HF.out) hat)
        have HBRb := Lib.hid hbr
        have HBTb := Lib.hid hbt
        have hcT0 : wb.cell? ⟨D, 0, none⟩ = some (.int .i64 4) := hbt.cell 0
        have hcT1 : wb.cell? ⟨D, 1, none⟩ = some (.slice A2 k C2) := hbt.cell 1
        have hfT1 := hbt.free 1
        have hlT := hbt.lt
        clear hOb hgb hat hsa hN hbr hbt hnR hnD
        go_wp2
        go_roundw
        case rel =>
          refine ⟨k + 1, some ⟨gg, 0, none⟩, cap, by omega, by go_num, HSb.out.setNew 1 _ hwD, HBRb.out.far (p := ⟨D, 1, none⟩) hRD _, ?_, HFb.out, fun b ⟨a, h, h2⟩ => by injection h with h; subst h; subst h2; exact ⟨hgR, hgD⟩, ?_⟩
          · have := HBTb.out.set 1 (.slice (some ⟨gg, 0, none⟩) (k + 1) cap)
            simpa using this
          · rw [HNX.out]
            exact Own.far (p := ⟨D, 1, none⟩) HOb.out (fun a h => by injection h with h; subst h; exact hgD) _
        case measure => simp [intOf]; omega
      · have hm1 : (0 : Int) < us.length := by omega
        obtain ⟨d, hd⟩ : ∃ d, k % us.length = d := ⟨_, rfl⟩
        have hdl : d < us.length := by rw [← hd]; exact Nat.mod_lt _ (by omega)
        have hdk : d ≤ k := by rw [← hd]; exact Nat.mod_le _ _
        have hq2 : IntKind.i64.wrap (d : Int) = d := IntWalk.i64_in _ (by omega)
        obtain ⟨y, hy⟩ : ∃ y, us[d]? = some y := ⟨_, List.getElem?_eq_getElem hdl⟩
        have hyl := HSM.out.at1 hy
        have hz : tblW 4 us k = y % 65536 := by unfold tblW; rw [hd, List.getD_eq_getElem?_getD, hy]; rfl
        rw [hz] at HNX
        obtain ⟨b, off, rfl, hb, hc⟩ := WL.at1 (Sl.same H.out HS.out) hy
        have hq0 : ¬ ((us.length : Nat) : Int) = 0 := by omega
        have hq1 : (k : Int).tmod ((us.length : Nat) : Int) = (d : Int) := by rw [← hd]; exact (Int.natCast_emod k us.length).symm ▸ (Int.tmod_eq_emod_of_nonneg (by omega))
        have hq3 : (k : Int) % ((us.length : Nat) : Int) = (d : Int) := by rw [← hd]; exact (Int.natCast_emod k us.length).symm
        have hd0 : (0 : Int) ≤ d := by omega
        have hd1 : (d : Int) < us.length := by omega
        have hmk : bits .and .u64 (y : Int) 65535 = ((y % 65536 : Nat) : Int) := by
          have h := u64_and_nat y 65535 hyl (by omega)
          rw [show y &&& 65535 = y % 65536 from Nat.and_two_pow_sub_one_eq_mod y 16] at h
          exact h
        clear hz hd hy
        go_upto_region 13 with fail
        have hm2 : (y : Int) % 65536 = ((y % 65536 : Nat) : Int) := by omega
        simp only [hm2]
        clear hm2
        clear hmk
        obtain ⟨z, hz⟩ : ∃ z, y % 65536 = z := ⟨_, rfl⟩
        simp only [hz] at HNX ⊢
        clear hz
        have hcT1 : wr.cell? ⟨D, 1, none⟩ = some (.slice A2 k C2) := HT.out.cell 1
        have hlT := HT.out.lt
        refine wp_read 3 ?_
        simp only [List.take_succ_cons, List.take_zero, List.drop_succ_cons, List.drop_zero]
        repeat (any_goals (first | go_big_quiet_step (fail) | quiet_step (fail)))
        refine wpQuiet_nil ?_
        refine wpList_plain rfl fun K hK => ?_
        go_simp
        refine hK _ _ ?_
        clear hK K
        refine list_world fun wa hwa => ?_
        have hN := Blk.new wr 23 #[.int .u64 (z : Int)]
        have hsa : Same wr wa := by rw [hwa]; exact (Frm.refl _ _).alloc _
        rw [← hwa] at hN
        clear hwa hcT1 hlT
        refine Own.append_list (f := ucell) rfl (.tmp 40) (.tmp 42) _ rfl Try.underlying22 info_u64 rfl (by omega) rfl ((HO.out).frm hsa (fun _ _ => id)) (fun _ => rfl) z wr.heap.size 1 rfl hN (by simp [Value.oneCell', ucell]) (by rw [HLK.out]; simp [maxLen]; omega) (by rw [HLK.out]; omega) ?_
        intro gg cap wb hOb hgb hat
        have hnR : (Value.slice A2 k C2).ownBlock ≠ some R := fun h => (HNE.out R (ownBlock_row.1 h)).1 rfl
        have hnD : (Value.slice A2 k C2).ownBlock ≠ some D := fun h => (HNE.out D (ownBlock_row.1 h)).2 rfl
        have hbr := (HR.out.frm hsa id).grown hgb (fun h => hnR h.symm)
        have hbt := (HT.out.frm hsa id).grown hgb (fun h => hnD h.symm)
        have hgR : gg ≠ R := fun h => by
          rcases hat with h1 | h1
          · exact hnR (h ▸ h1)
          · have := (HR.out.frm hsa id).lt; omega
        have hgD : gg ≠ D := fun h => by
          rcases hat with h1 | h1
          · exact hnD (h ▸ h1)
          · have := (HT.out.frm hsa id).lt; omega
        have HOb := Lib.hid hOb
        have HSb := Lib.hid (Same.app (HS.out) hsa hgb (HF.out))
        have HFb := Lib.hid (fresh_app (HS.out) hsa (HF.out) hat)
        have HBRb := Lib.hid hbr
        have HBTb := Lib.hid hbt
        have hcT0 : wb.cell? ⟨D, 0, none⟩ = some (.int .i64 4) := hbt.cell 0
        have hcT1 : wb.cell? ⟨D, 1, none⟩ = some (.slice A2 k C2) := hbt.cell 1
        have hfT1 := hbt.free 1
        have hlT := hbt.lt
        clear hOb hgb hat hsa hN hbr hbt hnR hnD
        go_wp2
        go_roundw
        case rel =>
          refine ⟨k + 1, some ⟨gg, 0, none⟩, cap, by omega, by go_num, HSb.out.setNew 1 _ hwD, HBRb.out.far (p := ⟨D, 1, none⟩) hRD _, ?_, HFb.out, fun b ⟨a, h, h2⟩ => by injection h with h; subst h; subst h2; exact ⟨hgR, hgD⟩, ?_⟩
          · have := HBTb.out.set 1 (.slice (some ⟨gg, 0, none⟩) (k + 1) cap)
            simpa using this
          · rw [HNX.out]
            exact Own.far (p := ⟨D, 1, none⟩) HOb.out (fun a h => by injection h with h; subst h; exact hgD) _
        case measure => simp [intOf]; omega
    · obtain rfl : k = 1 := by omega
      have hfull := HO.out
      rw [List.take_of_length_le (by rw [tabW_len, HNW.out]; exact Nat.le_refl _)] at hfull
      have hcR0 : wr.cell? ⟨R, 0, none⟩ = some (.int .i64 0) := HR.out.cell 0
      have hcR1 : wr.cell? ⟨R, 1, none⟩ = some (.slice none 0 0) := HR.out.cell 1
      have hcT0 : wr.cell? ⟨D, 0, none⟩ = some (.int .i64 4) := HT.out.cell 0
      have hcT1 : wr.cell? ⟨D, 1, none⟩ = some (.slice A2 1 C2) := HT.out.cell 1
      have hfR0 := HR.out.free 0
      have hfR1 := HR.out.free 1
      have hlR := HR.out.lt
      have hlT := HT.out.lt
      have HFU := Lib.hid hfull
      clear hfull
      go_wp2
      refine wp_post fun we hwe => ?_
      have hBE : Blk we R 26 #[.int .i64 4, .slice A2 1 C2] := by
        rw [hwe]
        have := (HR.out.set 0 (.int .i64 4)).set 1 (.slice A2 1 C2)
        simpa using this
      have hSE : Same w we := by rw [hwe]; exact (HS.out.setNew 0 _ hwR).setNew 1 _ hwR
      have hnR : ∀ a, A2 = some a → a.block ≠ R := fun a ha => (HNE.out a.block ⟨a, ha, rfl⟩).1
      have hOE : OwnW we A2 1 C2 (tabW 4 us) := by
        rw [hwe]
        exact Own.far (p := ⟨R, 1, none⟩) (Own.far (p := ⟨R, 0, none⟩) HFU.out hnR _) hnR _
      have hr0 : we.cell? ⟨R, 0, none⟩ = some (.int .i64 4) := hBE.cell 0
      have hr1 : we.cell? ⟨R, 1, none⟩ = some (.slice A2 1 C2) := hBE.cell 1
      clear hwe hBE
      refine bodyPost_ret (v := .agg #[.int .i64 4, .slice A2 1 C2]) (by simp [results, Try.results4, go_sem, hr0, hr1]) rfl ?_
      have hll : (tabW 4 us).length = 1 := by rw [tabW_len]; exact HNW.out
      exact ⟨A2, C2, by rw [hll], by rw [← hll] at hOE; exact ⟨hOE, HF.out, hSE⟩⟩
set_option maxRecDepth 100000 in
set_option maxHeartbeats 16000000 in
theorem table_5 (A : Option Addr) (m C : Nat) (us : List Nat) (w : World) (h : WL w A m us) (hsm : Small us) : Calls Try.prog 4 #[.int .i64 5, .slice A m C] w (RetT w 5 (tabW 5 us)) := by
  obtain rfl := h.len
  have H := Lib.hid h
  have HSM := Lib.hid hsm
  clear h hsm
  have hnw : nw 5 = 1 := by decide
  have HNW := Lib.hid hnw
  clear hnw
  go_enter Try.func4, Try.ntmps4
  go_upto_region 3 with fail
  refine wp_world fun w1 hw1 => ?_
  have hs1 : Same w w1 := by rw [hw1]; exact ((Frm.refl _ _).alloc _).alloc _
  have hBR : Blk w1 (w.heap.size) 26 #[.int .i64 0, .slice none 0 0] := by
    rw [hw1]
    have := ((Blk.new w 26 #[.int .i64 0, .slice none 0 0]).alloc (.cells #[.int .i64 5, .slice none 0 0] 26))
    simpa using this
  have hBT : Blk w1 (w.heap.size + 1) 26 #[.int .i64 5, .slice none 0 0] := by
    rw [hw1]
    have := (Blk.new (w.alloc (.cells #[.int .i64 0, .slice none 0 0] 26)) 26 #[.int .i64 5, .slice none 0 0])
    simpa using this
  clear hw1
  obtain ⟨R, hR⟩ : ∃ b, w.heap.size = b := ⟨_, rfl⟩
  obtain ⟨D, hD⟩ : ∃ b, w.heap.size + 1 = b := ⟨_, rfl⟩
  rw [hD] at hBT ⊢
  rw [hR] at hBR ⊢
  have hRD : R ≠ D := by omega
  have hwR : w.heap.size ≤ R := by omega
  have hwD : w.heap.size ≤ D := by omega
  clear hR hD
  have HS1 := Lib.hid hs1
  have HBR := Lib.hid hBR
  have HBT := Lib.hid hBT
  clear hs1 hBR hBT
  go_wp2
  go_loopw [7, 8] (fun i _x wr => ∃ (k : Nat) (A2 : Option Addr) (C2 : Nat), k ≤ 1 ∧ i = .int .i64 k ∧ Same w wr ∧ Blk wr R 26 #[.int .i64 0, .slice none 0 0] ∧ Blk wr D 26 #[.int .i64 5, .slice A2 k C2] ∧ Fresh w.heap.size A2 ∧ (∀ b, rowOf A2 b → b ≠ R ∧ b ≠ D) ∧ OwnW wr A2 k C2 ((tabW 5 us).take k)) (fun i _ _ => 1 - (intOf i).toNat)
  case atStart => exact ⟨0, none, 0, by omega, rfl, HS1.out, HBR.out, HBT.out, fresh_none _, fun b ⟨a, h, _⟩ => (by cases h), Own.nil _ _ _ _⟩
  case round =>
    obtain ⟨k, A2, C2, hk, rfl, hs, hbr, hbt, hf, hne, ho⟩ := hrel
    have HS := Lib.hid hs
    have HR := Lib.hid hbr
    have HT := Lib.hid hbt
    have HF := Lib.hid hf
    have HNE := Lib.hid hne
    have HO := Lib.hid ho
    have hlk : ((tabW 5 us).take k).length = k := by rw [List.length_take, tabW_len, HNW.out]; omega
    have HLK := Lib.hid hlk
    clear hs hbr hbt hf hne ho hlk
    by_cases hlt : k < 1
    · have hi1 : (k : Int) < 1 := by omega
      have hi0 : (0 : Int) ≤ k := by omega
      have hnx := take_snoc (tabW_get (n := 5) (us := us) (show k < nw 5 by rw [HNW.out]; exact hlt))
      have HNX := Lib.hid hnx
      clear hnx
      by_cases hm0 : us.length = 0
      · have hz : tblW 5 us k = 0 := by
          obtain rfl : us = [] := List.length_eq_zero_iff.1 hm0
          unfold tblW; simp
        rw [hz] at HNX
        have hm1 : ¬ (0 : Int) < us.length := by omega
        have hm2 : ¬ 0 < us.length := by omega
        clear hz hm0
        go_upto_region 13 with fail
        simp only [show bits .and .u64 (0 : Int) 4294967295 = 0 by decide]
        have hcT1 : wr.cell? ⟨D, 1, none⟩ = some (.slice A2 k C2) := HT.out.cell 1
        have hlT := HT.out.lt
        refine wp_read 3 ?_
        simp only [List.take_succ_cons, List.take_zero, List.drop_succ_cons, List.drop_zero]
        repeat (any_goals (first | go_big_quiet_step (fail) | quiet_step (fail)))
        refine wpQuiet_nil ?_
        refine wpList_plain rfl fun K hK => ?_
        go_simp
        refine hK _ _ ?_
        clear hK K
        refine list_world fun wa hwa => ?_
        have hN := Blk.new wr 23 #[.int .u64 0]
        have hsa : Same wr wa := by rw [hwa]; exact (Frm.refl _ _).alloc _
        rw [← hwa] at hN
        clear hwa hcT1 hlT
        refine Own.append_list (f := ucell) rfl (.tmp 40) (.tmp 42) _ rfl Try.underlying22 info_u64 rfl (by omega) rfl ((HO.out).frm hsa (fun _ _ => id)) (fun _ => rfl) 0 wr.heap.size 1 rfl hN (by simp [Value.oneCell', ucell]) (by rw [HLK.out]; simp [maxLen]; omega) (by rw [HLK.out]; omega) ?_
        intro gg cap wb hOb hgb hat
        have hnR : (Value.slice A2 k C2).ownBlock ≠ some R := fun h => (HNE.out R (ownBlock_row.1 h)).1 rfl
        have hnD : (Value.slice A2 k C2).ownBlock ≠ some D := fun h => (HNE.out D (ownBlock_row.1 h)).2 rfl
        have hbr := (HR.out.frm hsa id).grown hgb (fun h => hnR h.symm)
        have hbt := (HT.out.frm hsa id).grown hgb (fun h => hnD h.symm)
        have hgR : gg ≠ R := fun h => by
          rcases hat with h1 | h1
          · exact hnR (h ▸ h1)
          · have := (HR.out.frm hsa id).lt; omega
        have hgD : gg ≠ D := fun h => by
          rcases hat with h1 | h1
          · exact hnD (h ▸ h1)
          · have := (HT.out.frm hsa id).lt; omega
        have HOb := Lib.hid hOb
        have HSb := Lib.hid (Same.app (HS.out) hsa hgb (HF.out))
        have HFb := Lib.hid (fresh_app (HS.out) hsa (HF.out) hat)
        have HBRb := Lib.hid hbr
        have HBTb := Lib.hid hbt
        have hcT0 : wb.cell? ⟨D, 0, none⟩ = some (.int .i64 5) := hbt.cell 0
        have hcT1 : wb.cell? ⟨D, 1, none⟩ = some (.slice A2 k C2) := hbt.cell 1
        have hfT1 := hbt.free 1
        have hlT := hbt.lt
        clear hOb hgb hat hsa hN hbr hbt hnR hnD
        go_wp2
        go_roundw
        case rel =>
          refine ⟨k + 1, some ⟨gg, 0, none⟩, cap, by omega, by go_num, HSb.out.setNew 1 _ hwD, HBRb.out.far (p := ⟨D, 1, none⟩) hRD _, ?_, HFb.out, fun b ⟨a, h, h2⟩ => by injection h with h; subst h; subst h2; exact ⟨hgR, hgD⟩, ?_⟩
          · have := HBTb.out.set 1 (.slice (some ⟨gg, 0, none⟩) (k + 1) cap)
            simpa using this
          · rw [HNX.out]
            exact Own.far (p := ⟨D, 1, none⟩) HOb.out (fun a h => by injection h with h; subst h; exact hgD) _
        case measure => simp [intOf]; omega
      · have hm1 : (0 : Int) < us.length := by omega
        obtain ⟨d, hd⟩ : ∃ d, k % us.length = d := ⟨_, rfl⟩
        have hdl : d < us.length := by rw [← hd]; exact Nat.mod_lt _ (by omega)
        have hdk : d ≤ k := by rw [← hd]; exact Nat.mod_le _ _
        have hq2 : IntKind.i64.wrap (d : Int) = d := IntWalk.i64_in _ (by omega)
        obtain ⟨y, hy⟩ : ∃ y, us[d]? = some y := ⟨_, List.getElem?_eq_getElem hdl⟩
        have hyl := HSM.out.at1 hy
        have hz : tblW 5 us k = y % 4294967296 := by unfold tblW; rw [hd, List.getD_eq_getElem?_getD, hy]; rfl
        rw [hz] at HNX
        obtain ⟨b, off, rfl, hb, hc⟩ := WL.at1 (Sl.same H.out HS.out) hy
        have hq0 : ¬ ((us.length : Nat) : Int) = 0 := by omega
        have hq1 : (k : Int).tmod ((us.length : Nat) : Int) = (d : Int) := by rw [← hd]; exact (Int.natCast_emod k us.length).symm ▸ (Int.tmod_eq_emod_of_nonneg (by omega))
        have hq3 : (k : Int) % ((us.length : Nat) : Int) = (d : Int) := by rw [← hd]; exact (Int.natCast_emod k us.length).symm
        have hd0 : (0 : Int) ≤ d := by omega
        have hd1 : (d : Int) < us.length := by omega
        have hmk : bits .and .u64 (y : Int) 4294967295 = ((y % 4294967296 : Nat) : Int) := by
          have h := u64_and_nat y 4294967295 hyl (by omega)
          rw [show y &&& 4294967295 = y % 4294967296 from Nat.and_two_pow_sub_one_eq_mod y 32] at h
          exact h
        clear hz hd hy
        go_upto_region 13 with fail
        have hm2 : (y : Int) % 4294967296 = ((y % 4294967296 : Nat) : Int) := by omega
        simp only [hm2]
        clear hm2
        clear hmk
        obtain ⟨z, hz⟩ : ∃ z, y % 4294967296 = z := ⟨_, rfl⟩
        simp only [hz] at HNX ⊢
        clear hz
        have hcT1 : wr.cell? ⟨D, 1, none⟩ = some (.slice A2 k C2) := HT.out.cell 1
        have hlT := HT.out.lt
        refine wp_read 3 ?_
        simp only [List.take_succ_cons, List.take_zero, List.drop_succ_cons, List.drop_zero]
        repeat (any_goals (first | go_big_quiet_step (fail) | quiet_step (fail)))
        refine wpQuiet_nil ?_
        refine wpList_plain rfl fun K hK => ?_
        go_simp
        refine hK _ _ ?_
        clear hK K
        refine list_world fun wa hwa => ?_
        have hN := Blk.new wr 23 #[.int .u64 (z : Int)]
        have hsa : Same wr wa := by rw [hwa]; exact (Frm.refl _ _).alloc _
        rw [← hwa] at hN
        clear hwa hcT1 hlT
        refine Own.append_list (f := ucell) rfl (.tmp 40) (.tmp 42) _ rfl Try.underlying22 info_u64 rfl (by omega) rfl ((HO.out).frm hsa (fun _ _ => id)) (fun _ => rfl) z wr.heap.size 1 rfl hN (by simp [Value.oneCell', ucell]) (by rw [HLK.out]; simp [maxLen]; omega) (by rw [HLK.out]; omega) ?_
        intro gg cap wb hOb hgb hat
        have hnR : (Value.slice A2 k C2).ownBlock ≠ some R := fun h => (HNE.out R (ownBlock_row.1 h)).1 rfl
        have hnD : (Value.slice A2 k C2).ownBlock ≠ some D := fun h => (HNE.out D (ownBlock_row.1 h)).2 rfl
        have hbr := (HR.out.frm hsa id).grown hgb (fun h => hnR h.symm)
        have hbt := (HT.out.frm hsa id).grown hgb (fun h => hnD h.symm)
        have hgR : gg ≠ R := fun h => by
          rcases hat with h1 | h1
          · exact hnR (h ▸ h1)
          · have := (HR.out.frm hsa id).lt; omega
        have hgD : gg ≠ D := fun h => by
          rcases hat with h1 | h1
          · exact hnD (h ▸ h1)
          · have := (HT.out.frm hsa id).lt; omega
        have HOb := Lib.hid hOb
        have HSb := Lib.hid (Same.app (HS.out) hsa hgb (HF.out))
        have HFb := Lib.hid (fresh_app (HS.out) hsa (HF.out) hat)
        have HBRb := Lib.hid hbr
        have HBTb := Lib.hid hbt
        have hcT0 : wb.cell? ⟨D, 0, none⟩ = some (.int .i64 5) := hbt.cell 0
        have hcT1 : wb.cell? ⟨D, 1, none⟩ = some (.slice A2 k C2) := hbt.cell 1
        have hfT1 := hbt.free 1
        have hlT := hbt.lt
        clear hOb hgb hat hsa hN hbr hbt hnR hnD
        go_wp2
        go_roundw
        case rel =>
          refine ⟨k + 1, some ⟨gg, 0, none⟩, cap, by omega, by go_num, HSb.out.setNew 1 _ hwD, HBRb.out.far (p := ⟨D, 1, none⟩) hRD _, ?_, HFb.out, fun b ⟨a, h, h2⟩ => by injection h with h; subst h; subst h2; exact ⟨hgR, hgD⟩, ?_⟩
          · have := HBTb.out.set 1 (.slice (some ⟨gg, 0, none⟩) (k + 1) cap)
            simpa using this
          · rw [HNX.out]
            exact Own.far (p := ⟨D, 1, none⟩) HOb.out (fun a h => by injection h with h; subst h; exact hgD) _
        case measure => simp [intOf]; omega
    · obtain rfl : k = 1 := by omega
      have hfull := HO.out
      rw [List.take_of_length_le (by rw [tabW_len, HNW.out]; exact Nat.le_refl _)] at hfull
      have hcR0 : wr.cell? ⟨R, 0, none⟩ = some (.int .i64 0) := HR.out.cell 0
      have hcR1 : wr.cell? ⟨R, 1, none⟩ = some (.slice none 0 0) := HR.out.cell 1
      have hcT0 : wr.cell? ⟨D, 0, none⟩ = some (.int .i64 5) := HT.out.cell 0
      have hcT1 : wr.cell? ⟨D, 1, none⟩ = some (.slice A2 1 C2) := HT.out.cell 1
      have hfR0 := HR.out.free 0
      have hfR1 := HR.out.free 1
      have hlR := HR.out.lt
      have hlT := HT.out.lt
      have HFU := Lib.hid hfull
      clear hfull
      go_wp2
      refine wp_post fun we hwe => ?_
      have hBE : Blk we R 26 #[.int .i64 5, .slice A2 1 C2] := by
        rw [hwe]
        have := (HR.out.set 0 (.int .i64 5)).set 1 (.slice A2 1 C2)
        simpa using this
      have hSE : Same w we := by rw [hwe]; exact (HS.out.setNew 0 _ hwR).setNew 1 _ hwR
      have hnR : ∀ a, A2 = some a → a.block ≠ R := fun a ha => (HNE.out a.block ⟨a, ha, rfl⟩).1
      have hOE : OwnW we A2 1 C2 (tabW 5 us) := by
        rw [hwe]
        exact Own.far (p := ⟨R, 1, none⟩) (Own.far (p := ⟨R, 0, none⟩) HFU.out hnR _) hnR _
      have hr0 : we.cell? ⟨R, 0, none⟩ = some (.int .i64 5) := hBE.cell 0
      have hr1 : we.cell? ⟨R, 1, none⟩ = some (.slice A2 1 C2) := hBE.cell 1
      clear hwe hBE
      refine bodyPost_ret (v := .agg #[.int .i64 5, .slice A2 1 C2]) (by simp [results, Try.results4, go_sem, hr0, hr1]) rfl ?_
      have hll : (tabW 5 us).length = 1 := by rw [tabW_len]; exact HNW.out
      exact ⟨A2, C2, by rw [hll], by rw [← hll] at hOE; exact ⟨hOE, HF.out, hSE⟩⟩
set_option maxRecDepth 100000 in
set_option maxHeartbeats 16000000 in
theorem table_6 (A : Option Addr) (m C : Nat) (us : List Nat) (w : World) (h : WL w A m us) (hsm : Small us) : Calls Try.prog 4 #[.int .i64 6, .slice A m C] w (RetT w 6 (tabW 6 us)) := by
  obtain rfl := h.len
  have H := Lib.hid h
  have HSM := Lib.hid hsm
  clear h hsm
  have hnw : nw 6 = 1 := by decide
  have HNW := Lib.hid hnw
  clear hnw
  go_enter Try.func4, Try.ntmps4
  go_upto_region 3 with fail
  refine wp_world fun w1 hw1 => ?_
  have hs1 : Same w w1 := by rw [hw1]; exact ((Frm.refl _ _).alloc _).alloc _
  have hBR : Blk w1 (w.heap.size) 26 #[.int .i64 0, .slice none 0 0] := by
    rw [hw1]
    have := ((Blk.new w 26 #[.int .i64 0, .slice none 0 0]).alloc (.cells #[.int .i64 6, .slice none 0 0] 26))
    simpa using this
  have hBT : Blk w1 (w.heap.size + 1) 26 #[.int .i64 6, .slice none 0 0] := by
    rw [hw1]
    have := (Blk.new (w.alloc (.cells #[.int .i64 0, .slice none 0 0] 26)) 26 #[.int .i64 6, .slice none 0 0])
    simpa using this
  clear hw1
  obtain ⟨R, hR⟩ : ∃ b, w.heap.size = b := ⟨_, rfl⟩
  obtain ⟨D, hD⟩ : ∃ b, w.heap.size + 1 = b := ⟨_, rfl⟩
  rw [hD] at hBT ⊢
  rw [hR] at hBR ⊢
  have hRD : R ≠ D := by omega
  have hwR : w.heap.size ≤ R := by omega
  have hwD : w.heap.size ≤ D := by omega
  clear hR hD
  have HS1 := Lib.hid hs1
  have HBR := Lib.hid hBR
  have HBT := Lib.hid hBT
  clear hs1 hBR hBT
  go_wp2
  go_loopw [7, 8] (fun i _x wr => ∃ (k : Nat) (A2 : Option Addr) (C2 : Nat), k ≤ 1 ∧ i = .int .i64 k ∧ Same w wr ∧ Blk wr R 26 #[.int .i64 0, .slice none 0 0] ∧ Blk wr D 26 #[.int .i64 6, .slice A2 k C2] ∧ Fresh w.heap.size A2 ∧ (∀ b, rowOf A2 b → b ≠ R ∧ b ≠ D) ∧ OwnW wr A2 k C2 ((tabW 6 us).take k)) (fun i _ _ => 1 - (intOf i).toNat)
  case atStart => exact ⟨0, none, 0, by omega, rfl, HS1.out, HBR.out, HBT.out, fresh_none _, fun b ⟨a, h, _⟩ => (by cases h), Own.nil _ _ _ _⟩
  case round =>
    obtain ⟨k, A2, C2, hk, rfl, hs, hbr, hbt, hf, hne, ho⟩ := hrel
    have HS := Lib.hid hs
    have HR := Lib.hid hbr
    have HT := Lib.hid hbt
    have HF := Lib.hid hf
    have HNE := Lib.hid hne
    have HO := Lib.hid ho
    have hlk : ((tabW 6 us).take k).length = k := by rw [List.length_take, tabW_len, HNW.out]; omega
    have HLK := Lib.hid hlk
    clear hs hbr hbt hf hne ho hlk
    by_cases hlt : k < 1
    · have hi1 : (k : Int) < 1 := by omega
      have hi0 : (0 : Int) ≤ k := by omega
      have hnx := take_snoc (tabW_get (n := 6) (us := us) (show k < nw 6 by rw [HNW.out]; exact hlt))
      have HNX := Lib.hid hnx
      clear hnx
      by_cases hm0 : us.length = 0
      · have hz : tblW 6 us k = 0 := by
          obtain rfl : us = [] := List.length_eq_zero_iff.1 hm0
          unfold tblW; simp
        rw [hz] at HNX
        have hm1 : ¬ (0 : Int) < us.length := by omega
        have hm2 : ¬ 0 < us.length := by omega
        clear hz hm0
        go_upto_region 13 with fail
        have hcT1 : wr.cell? ⟨D, 1, none⟩ = some (.slice A2 k C2) := HT.out.cell 1
        have hlT := HT.out.lt
        refine wp_read 3 ?_
        simp only [List.take_succ_cons, List.take_zero, List.drop_succ_cons, List.drop_zero]
        repeat (any_goals (first | go_big_quiet_step (fail) | quiet_step (fail)))
        refine wpQuiet_nil ?_
        refine wpList_plain rfl fun K hK => ?_
        go_simp
        refine hK _ _ ?_
        clear hK K
        refine list_world fun wa hwa => ?_
        have hN := Blk.new wr 23 #[.int .u64 0]
        have hsa : Same wr wa := by rw [hwa]; exact (Frm.refl _ _).alloc _
        rw [← hwa] at hN
        clear hwa hcT1 hlT
        refine Own.append_list (f := ucell) rfl (.tmp 40) (.tmp 42) _ rfl Try.underlying22 info_u64 rfl (by omega) rfl ((HO.out).frm hsa (fun _ _ => id)) (fun _ => rfl) 0 wr.heap.size 1 rfl hN (by simp [Value.oneCell', ucell]) (by rw [HLK.out]; simp [maxLen]; omega) (by rw [HLK.out]; omega) ?_
        intro gg cap wb hOb hgb hat
        have hnR : (Value.slice A2 k C2).ownBlock ≠ some R := fun h => (HNE.out R (ownBlock_row.1 h)).1 rfl
        have hnD : (Value.slice A2 k C2).ownBlock ≠ some D := fun h => (HNE.out D (ownBlock_row.1 h)).2 rfl
        have hbr := (HR.out.frm hsa id).grown hgb (fun h => hnR h.symm)
        have hbt := (HT.out.frm hsa id).grown hgb (fun h => hnD h.symm)
        have hgR : gg ≠ R := fun h => by
          rcases hat with h1 | h1
          · exact hnR (h ▸ h1)
          · have := (HR.out.frm hsa id).lt; omega
        have hgD : gg ≠ D := fun h => by
          rcases hat with h1 | h1
          · exact hnD (h ▸ h1)
          · have := (HT.out.frm hsa id).lt; omega
        have HOb := Lib.hid hOb
        have HSb := Lib.hid (Same.app (HS.out) hsa hgb (HF.out))
        have HFb := Lib.hid (fresh_app (HS.out) hsa (HF.out) hat)
        have HBRb := Lib.hid hbr
        have HBTb := Lib.hid hbt
        have hcT0 : wb.cell? ⟨D, 0, none⟩ = some (.int .i64 6) := hbt.cell 0
        have hcT1 : wb.cell? ⟨D, 1, none⟩ = some (.slice A2 k C2) := hbt.cell 1
        have hfT1 := hbt.free 1
        have hlT := hbt.lt
        clear hOb hgb hat hsa hN hbr hbt hnR hnD
        go_wp2
        go_roundw
        case rel =>
          refine ⟨k + 1, some ⟨gg, 0, none⟩, cap, by omega, by go_num, HSb.out.setNew 1 _ hwD, HBRb.out.far (p := ⟨D, 1, none⟩) hRD _, ?_, HFb.out, fun b ⟨a, h, h2⟩ => by injection h with h; subst h; subst h2; exact ⟨hgR, hgD⟩, ?_⟩
          · have := HBTb.out.set 1 (.slice (some ⟨gg, 0, none⟩) (k + 1) cap)
            simpa using this
          · rw [HNX.out]
            exact Own.far (p := ⟨D, 1, none⟩) HOb.out (fun a h => by injection h with h; subst h; exact hgD) _
        case measure => simp [intOf]; omega
      · have hm1 : (0 : Int) < us.length := by omega
        obtain ⟨d, hd⟩ : ∃ d, k % us.length = d := ⟨_, rfl⟩
        have hdl : d < us.length := by rw [← hd]; exact Nat.mod_lt _ (by omega)
        have hdk : d ≤ k := by rw [← hd]; exact Nat.mod_le _ _
        have hq2 : IntKind.i64.wrap (d : Int) = d := IntWalk.i64_in _ (by omega)
        obtain ⟨y, hy⟩ : ∃ y, us[d]? = some y := ⟨_, List.getElem?_eq_getElem hdl⟩
        have hyl := HSM.out.at1 hy
        have hz : tblW 6 us k = y % 18446744073709551616 := by unfold tblW; rw [hd, List.getD_eq_getElem?_getD, hy]; rfl
        rw [hz] at HNX
        obtain ⟨b, off, rfl, hb, hc⟩ := WL.at1 (Sl.same H.out HS.out) hy
        have hq0 : ¬ ((us.length : Nat) : Int) = 0 := by omega
        have hq1 : (k : Int).tmod ((us.length : Nat) : Int) = (d : Int) := by rw [← hd]; exact (Int.natCast_emod k us.length).symm ▸ (Int.tmod_eq_emod_of_nonneg (by omega))
        have hq3 : (k : Int) % ((us.length : Nat) : Int) = (d : Int) := by rw [← hd]; exact (Int.natCast_emod k us.length).symm
        have hd0 : (0 : Int) ≤ d := by omega
        have hd1 : (d : Int) < us.length := by omega
        have hzy : y % 18446744073709551616 = y := Nat.mod_eq_of_lt hyl
        rw [hzy] at HNX
        clear hz hd hy hzy
        go_upto_region 13 with fail
        have hcT1 : wr.cell? ⟨D, 1, none⟩ = some (.slice A2 k C2) := HT.out.cell 1
        have hlT := HT.out.lt
        refine wp_read 3 ?_
        simp only [List.take_succ_cons, List.take_zero, List.drop_succ_cons, List.drop_zero]
        repeat (any_goals (first | go_big_quiet_step (fail) | quiet_step (fail)))
        refine wpQuiet_nil ?_
        refine wpList_plain rfl fun K hK => ?_
        go_simp
        refine hK _ _ ?_
        clear hK K
        refine list_world fun wa hwa => ?_
        have hN := Blk.new wr 23 #[.int .u64 (y : Int)]
        have hsa : Same wr wa := by rw [hwa]; exact (Frm.refl _ _).alloc _
        rw [← hwa] at hN
        clear hwa hcT1 hlT
        refine Own.append_list (f := ucell) rfl (.tmp 40) (.tmp 42) _ rfl Try.underlying22 info_u64 rfl (by omega) rfl ((HO.out).frm hsa (fun _ _ => id)) (fun _ => rfl) y wr.heap.size 1 rfl hN (by simp [Value.oneCell', ucell]) (by rw [HLK.out]; simp [maxLen]; omega) (by rw [HLK.out]; omega) ?_
        intro gg cap wb hOb hgb hat
        have hnR : (Value.slice A2 k C2).ownBlock ≠ some R := fun h => (HNE.out R (ownBlock_row.1 h)).1 rfl
        have hnD : (Value.slice A2 k C2).ownBlock ≠ some D := fun h => (HNE.out D (ownBlock_row.1 h)).2 rfl
        have hbr := (HR.out.frm hsa id).grown hgb (fun h => hnR h.symm)
        have hbt := (HT.out.frm hsa id).grown hgb (fun h => hnD h.symm)
        have hgR : gg ≠ R := fun h => by
          rcases hat with h1 | h1
          · exact hnR (h ▸ h1)
          · have := (HR.out.frm hsa id).lt; omega
        have hgD : gg ≠ D := fun h => by
          rcases hat with h1 | h1
          · exact hnD (h ▸ h1)
          · have := (HT.out.frm hsa id).lt; omega
        have HOb := Lib.hid hOb
        have HSb := Lib.hid (Same.app (HS.out) hsa hgb (HF.out))
        have HFb := Lib.hid (fresh_app (HS.out) hsa (HF.out) hat)
        have HBRb := Lib.hid hbr
        have HBTb := Lib.hid hbt
        have hcT0 : wb.cell? ⟨D, 0, none⟩ = some (.int .i64 6) := hbt.cell 0
        have hcT1 : wb.cell? ⟨D, 1, none⟩ = some (.slice A2 k C2) := hbt.cell 1
        have hfT1 := hbt.free 1
        have hlT := hbt.lt
        clear hOb hgb hat hsa hN hbr hbt hnR hnD
        go_wp2
        go_roundw
        case rel =>
          refine ⟨k + 1, some ⟨gg, 0, none⟩, cap, by omega, by go_num, HSb.out.setNew 1 _ hwD, HBRb.out.far (p := ⟨D, 1, none⟩) hRD _, ?_, HFb.out, fun b ⟨a, h, h2⟩ => by injection h with h; subst h; subst h2; exact ⟨hgR, hgD⟩, ?_⟩
          · have := HBTb.out.set 1 (.slice (some ⟨gg, 0, none⟩) (k + 1) cap)
            simpa using this
          · rw [HNX.out]
            exact Own.far (p := ⟨D, 1, none⟩) HOb.out (fun a h => by injection h with h; subst h; exact hgD) _
        case measure => simp [intOf]; omega
    · obtain rfl : k = 1 := by omega
      have hfull := HO.out
      rw [List.take_of_length_le (by rw [tabW_len, HNW.out]; exact Nat.le_refl _)] at hfull
      have hcR0 : wr.cell? ⟨R, 0, none⟩ = some (.int .i64 0) := HR.out.cell 0
      have hcR1 : wr.cell? ⟨R, 1, none⟩ = some (.slice none 0 0) := HR.out.cell 1
      have hcT0 : wr.cell? ⟨D, 0, none⟩ = some (.int .i64 6) := HT.out.cell 0
      have hcT1 : wr.cell? ⟨D, 1, none⟩ = some (.slice A2 1 C2) := HT.out.cell 1
      have hfR0 := HR.out.free 0
      have hfR1 := HR.out.free 1
      have hlR := HR.out.lt
      have hlT := HT.out.lt
      have HFU := Lib.hid hfull
      clear hfull
      go_wp2
      refine wp_post fun we hwe => ?_
      have hBE : Blk we R 26 #[.int .i64 6, .slice A2 1 C2] := by
        rw [hwe]
        have := (HR.out.set 0 (.int .i64 6)).set 1 (.slice A2 1 C2)
        simpa using this
      have hSE : Same w we := by rw [hwe]; exact (HS.out.setNew 0 _ hwR).setNew 1 _ hwR
      have hnR : ∀ a, A2 = some a → a.block ≠ R := fun a ha => (HNE.out a.block ⟨a, ha, rfl⟩).1
      have hOE : OwnW we A2 1 C2 (tabW 6 us) := by
        rw [hwe]
        exact Own.far (p := ⟨R, 1, none⟩) (Own.far (p := ⟨R, 0, none⟩) HFU.out hnR _) hnR _
      have hr0 : we.cell? ⟨R, 0, none⟩ = some (.int .i64 6) := hBE.cell 0
      have hr1 : we.cell? ⟨R, 1, none⟩ = some (.slice A2 1 C2) := hBE.cell 1
      clear hwe hBE
      refine bodyPost_ret (v := .agg #[.int .i64 6, .slice A2 1 C2]) (by simp [results, Try.results4, go_sem, hr0, hr1]) rfl ?_
      have hll : (tabW 6 us).length = 1 := by rw [tabW_len]; exact HNW.out
      exact ⟨A2, C2, by rw [hll], by rw [← hll] at hOE; exact ⟨hOE, HF.out, hSE⟩⟩
set_option maxRecDepth 100000 in
set_option maxHeartbeats 16000000 in
theorem table_7 (A : Option Addr) (m C : Nat) (us : List Nat) (w : World) (h : WL w A m us) (hsm : Small us) : Calls Try.prog 4 #[.int .i64 7, .slice A m C] w (RetT w 7 (tabW 7 us)) := by
  obtain rfl := h.len
  have H := Lib.hid h
  have HSM := Lib.hid hsm
  clear h hsm
  have hnw : nw 7 = 2 := by decide
  have HNW := Lib.hid hnw
  clear hnw
  go_enter Try.func4, Try.ntmps4
  go_upto_region 3 with fail
  refine wp_world fun w1 hw1 => ?_
  have hs1 : Same w w1 := by rw [hw1]; exact ((Frm.refl _ _).alloc _).alloc _
  have hBR : Blk w1 (w.heap.size) 26 #[.int .i64 0, .slice none 0 0] := by
    rw [hw1]
    have := ((Blk.new w 26 #[.int .i64 0, .slice none 0 0]).alloc (.cells #[.int .i64 7, .slice none 0 0] 26))
    simpa using this
  have hBT : Blk w1 (w.heap.size + 1) 26 #[.int .i64 7, .slice none 0 0] := by
    rw [hw1]
    have := (Blk.new (w.alloc (.cells #[.int .i64 0, .slice none 0 0] 26)) 26 #[.int .i64 7, .slice none 0 0])
    simpa using this
  clear hw1
  obtain ⟨R, hR⟩ : ∃ b, w.heap.size = b := ⟨_, rfl⟩
  obtain ⟨D, hD⟩ : ∃ b, w.heap.size + 1 = b := ⟨_, rfl⟩
  rw [hD] at hBT ⊢
  rw [hR] at hBR ⊢
  have hRD : R ≠ D := by omega
  have hwR : w.heap.size ≤ R := by omega
  have hwD : w.heap.size ≤ D := by omega
  clear hR hD
  have HS1 := Lib.hid hs1
  have HBR := Lib.hid hBR
  have HBT := Lib.hid hBT
  clear hs1 hBR hBT
  go_wp2
  go_loopw [7, 8] (fun i _x wr => ∃ (k : Nat) (A2 : Option Addr) (C2 : Nat), k ≤ 2 ∧ i = .int .i64 k ∧ Same w wr ∧ Blk wr R 26 #[.int .i64 0, .slice none 0 0] ∧ Blk wr D 26 #[.int .i64 7, .slice A2 k C2] ∧ Fresh w.heap.size A2 ∧ (∀ b, rowOf A2 b → b ≠ R ∧ b ≠ D) ∧ OwnW wr A2 k C2 ((tabW 7 us).take k)) (fun i _ _ => 2 - (intOf i).toNat)
  case atStart => exact ⟨0, none, 0, by omega, rfl, HS1.out, HBR.out, HBT.out, fresh_none _, fun b ⟨a, h, _⟩ => (by cases h), Own.nil _ _ _ _⟩
  case round =>
    obtain ⟨k, A2, C2, hk, rfl, hs, hbr, hbt, hf, hne, ho⟩ := hrel
    have HS := Lib.hid hs
    have HR := Lib.hid hbr
    have HT := Lib.hid hbt
    have HF := Lib.hid hf
    have HNE := Lib.hid hne
    have HO := Lib.hid ho
    have hlk : ((tabW 7 us).take k).length = k := by rw [List.length_take, tabW_len, HNW.out]; omega
    have HLK := Lib.hid hlk
    clear hs hbr hbt hf hne ho hlk
    by_cases hlt : k < 2
    · have hi1 : (k : Int) < 2 := by omega
      have hi0 : (0 : Int) ≤ k := by omega
      have hnx := take_snoc (tabW_get (n := 7) (us := us) (show k < nw 7 by rw [HNW.out]; exact hlt))
      have HNX := Lib.hid hnx
      clear hnx
      by_cases hm0 : us.length = 0
      · have hz : tblW 7 us k = 0 := by
          obtain rfl : us = [] := List.length_eq_zero_iff.1 hm0
          unfold tblW; simp
        rw [hz] at HNX
        have hm1 : ¬ (0 : Int) < us.length := by omega
        have hm2 : ¬ 0 < us.length := by omega
        clear hz hm0
        go_upto_region 13 with fail
        have hcT1 : wr.cell? ⟨D, 1, none⟩ = some (.slice A2 k C2) := HT.out.cell 1
        have hlT := HT.out.lt
        refine wp_read 3 ?_
        simp only [List.take_succ_cons, List.take_zero, List.drop_succ_cons, List.drop_zero]
        repeat (any_goals (first | go_big_quiet_step (fail) | quiet_step (fail)))
        refine wpQuiet_nil ?_
        refine wpList_plain rfl fun K hK => ?_
        go_simp
        refine hK _ _ ?_
        clear hK K
        refine list_world fun wa hwa => ?_
        have hN := Blk.new wr 23 #[.int .u64 0]
        have hsa : Same wr wa := by rw [hwa]; exact (Frm.refl _ _).alloc _
        rw [← hwa] at hN
        clear hwa hcT1 hlT
        refine Own.append_list (f := ucell) rfl (.tmp 40) (.tmp 42) _ rfl Try.underlying22 info_u64 rfl (by omega) rfl ((HO.out).frm hsa (fun _ _ => id)) (fun _ => rfl) 0 wr.heap.size 1 rfl hN (by simp [Value.oneCell', ucell]) (by rw [HLK.out]; simp [maxLen]; omega) (by rw [HLK.out]; omega) ?_
        intro gg cap wb hOb hgb hat
        have hnR : (Value.slice A2 k C2).ownBlock ≠ some R := fun h => (HNE.out R (ownBlock_row.1 h)).1 rfl
        have hnD : (Value.slice A2 k C2).ownBlock ≠ some D := fun h => (HNE.out D (ownBlock_row.1 h)).2 rfl
        have hbr := (HR.out.frm hsa id).grown hgb (fun h => hnR h.symm)
        have hbt := (HT.out.frm hsa id).grown hgb (fun h => hnD h.symm)
        have hgR : gg ≠ R := fun h => by
          rcases hat with h1 | h1
          · exact hnR (h ▸ h1)
          · have := (HR.out.frm hsa id).lt; omega
        have hgD : gg ≠ D := fun h => by
          rcases hat with h1 | h1
          · exact hnD (h ▸ h1)
          · have := (HT.out.frm hsa id).lt; omega
        have HOb := Lib.hid hOb
        have HSb := Lib.hid (Same.app (HS.out) hsa hgb (HF.out))
        have HFb := Lib.hid (fresh_app (HS.out) hsa (HF.out) hat)
        have HBRb := Lib.hid hbr
        have HBTb := Lib.hid hbt
        have hcT0 : wb.cell? ⟨D, 0, none⟩ = some (.int .i64 7) := hbt.cell 0
        have hcT1 : wb.cell? ⟨D, 1, none⟩ = some (.slice A2 k C2) := hbt.cell 1
        have hfT1 := hbt.free 1
        have hlT := hbt.lt
        clear hOb hgb hat hsa hN hbr hbt hnR hnD
        go_wp2
        go_roundw
        case rel =>
          refine ⟨k + 1, some ⟨gg, 0, none⟩, cap, by omega, by go_num, HSb.out.setNew 1 _ hwD, HBRb.out.far (p := ⟨D, 1, none⟩) hRD _, ?_, HFb.out, fun b ⟨a, h, h2⟩ => by injection h with h; subst h; subst h2; exact ⟨hgR, hgD⟩, ?_⟩
          · have := HBTb.out.set 1 (.slice (some ⟨gg, 0, none⟩) (k + 1) cap)
            simpa using this
          · rw [HNX.out]
            exact Own.far (p := ⟨D, 1, none⟩) HOb.out (fun a h => by injection h with h; subst h; exact hgD) _
        case measure => simp [intOf]; omega
      · have hm1 : (0 : Int) < us.length := by omega
        obtain ⟨d, hd⟩ : ∃ d, k % us.length = d := ⟨_, rfl⟩
        have hdl : d < us.length := by rw [← hd]; exact Nat.mod_lt _ (by omega)
        have hdk : d ≤ k := by rw [← hd]; exact Nat.mod_le _ _
        have hq2 : IntKind.i64.wrap (d : Int) = d := IntWalk.i64_in _ (by omega)
        obtain ⟨y, hy⟩ : ∃ y, us[d]? = some y := ⟨_, List.getElem?_eq_getElem hdl⟩
        have hyl := HSM.out.at1 hy
        have hz : tblW 7 us k = y % 18446744073709551616 := by unfold tblW; rw [hd, List.getD_eq_getElem?_getD, hy]; rfl
        rw [hz] at HNX
        obtain ⟨b, off, rfl, hb, hc⟩ := WL.at1 (Sl.same H.out HS.out) hy
        have hq0 : ¬ ((us.length : Nat) : Int) = 0 := by omega
        have hq1 : (k : Int).tmod ((us.length : Nat) : Int) = (d : Int) := by rw [← hd]; exact (Int.natCast_emod k us.length).symm ▸ (Int.tmod_eq_emod_of_nonneg (by omega))
        have hq3 : (k : Int) % ((us.length : Nat) : Int) = (d : Int) := by rw [← hd]; exact (Int.natCast_emod k us.length).symm
        have hd0 : (0 : Int) ≤ d := by omega
        have hd1 : (d : Int) < us.length := by omega
        have hzy : y % 18446744073709551616 = y := Nat.mod_eq_of_lt hyl
        rw [hzy] at HNX
        clear hz hd hy hzy
        go_upto_region 13 with fail
        have hcT1 : wr.cell? ⟨D, 1, none⟩ = some (.slice A2 k C2) := HT.out.cell 1
        have hlT := HT.out.lt
        refine wp_read 3 ?_
        simp only [List.take_succ_cons, List.take_zero, List.drop_succ_cons, List.drop_zero]
        repeat (any_goals (first | go_big_quiet_step (fail) | quiet_step (fail)))
        refine wpQuiet_nil ?_
        refine wpList_plain rfl fun K hK => ?_
        go_simp
        refine hK _ _ ?_
        clear hK K
        refine list_world fun wa hwa => ?_
        have hN := Blk.new wr 23 #[.int .u64 (y : Int)]
        have hsa : Same wr wa := by rw [hwa]; exact (Frm.refl _ _).alloc _
        rw [← hwa] at hN
        clear hwa hcT1 hlT
        refine Own.append_list (f := ucell) rfl (.tmp 40) (.tmp 42) _ rfl Try.underlying22 info_u64 rfl (by omega) rfl ((HO.out).frm hsa (fun _ _ => id)) (fun _ => rfl) y wr.heap.size 1 rfl hN (by simp [Value.oneCell', ucell]) (by rw [HLK.out]; simp [maxLen]; omega) (by rw [HLK.out]; omega) ?_
        intro gg cap wb hOb hgb hat
        have hnR : (Value.slice A2 k C2).ownBlock ≠ some R := fun h => (HNE.out R (ownBlock_row.1 h)).1 rfl
        have hnD : (Value.slice A2 k C2).ownBlock ≠ some D := fun h => (HNE.out D (ownBlock_row.1 h)).2 rfl
        have hbr := (HR.out.frm hsa id).grown hgb (fun h => hnR h.symm)
        have hbt := (HT.out.frm hsa id).grown hgb (fun h => hnD h.symm)
        have hgR : gg ≠ R := fun h => by
          rcases hat with h1 | h1
          · exact hnR (h ▸ h1)
          · have := (HR.out.frm hsa id).lt; omega
        have hgD : gg ≠ D := fun h => by
          rcases hat with h1 | h1
          · exact hnD (h ▸ h1)
          · have := (HT.out.frm hsa id).lt; omega
        have HOb := Lib.hid hOb
        have HSb := Lib.hid (Same.app (HS.out) hsa hgb (HF.out))
        have HFb := Lib.hid (fresh_app (HS.out) hsa (HF.out) hat)
        have HBRb := Lib.hid hbr
        have HBTb := Lib.hid hbt
        have hcT0 : wb.cell? ⟨D, 0, none⟩ = some (.int .i64 7) := hbt.cell 0
        have hcT1 : wb.cell? ⟨D, 1, none⟩ = some (.slice A2 k C2) := hbt.cell 1
        have hfT1 := hbt.free 1
        have hlT := hbt.lt
        clear hOb hgb hat hsa hN hbr hbt hnR hnD
        go_wp2
        go_roundw
        case rel =>
          refine ⟨k + 1, some ⟨gg, 0, none⟩, cap, by omega, by go_num, HSb.out.setNew 1 _ hwD, HBRb.out.far (p := ⟨D, 1, none⟩) hRD _, ?_, HFb.out, fun b ⟨a, h, h2⟩ => by injection h with h; subst h; subst h2; exact ⟨hgR, hgD⟩, ?_⟩
          · have := HBTb.out.set 1 (.slice (some ⟨gg, 0, none⟩) (k + 1) cap)
            simpa using this
          · rw [HNX.out]
            exact Own.far (p := ⟨D, 1, none⟩) HOb.out (fun a h => by injection h with h; subst h; exact hgD) _
        case measure => simp [intOf]; omega
    · obtain rfl : k = 2 := by omega
      have hfull := HO.out
      rw [List.take_of_length_le (by rw [tabW_len, HNW.out]; exact Nat.le_refl _)] at hfull
      have hcR0 : wr.cell? ⟨R, 0, none⟩ = some (.int .i64 0) := HR.out.cell 0
      have hcR1 : wr.cell? ⟨R, 1, none⟩ = some (.slice none 0 0) := HR.out.cell 1
      have hcT0 : wr.cell? ⟨D, 0, none⟩ = some (.int .i64 7) := HT.out.cell 0
      have hcT1 : wr.cell? ⟨D, 1, none⟩ = some (.slice A2 2 C2) := HT.out.cell 1
      have hfR0 := HR.out.free 0
      have hfR1 := HR.out.free 1
      have hlR := HR.out.lt
      have hlT := HT.out.lt
      have HFU := Lib.hid hfull
      clear hfull
      go_wp2
      refine wp_post fun we hwe => ?_
      have hBE : Blk we R 26 #[.int .i64 7, .slice A2 2 C2] := by
        rw [hwe]
        have := (HR.out.set 0 (.int .i64 7)).set 1 (.slice A2 2 C2)
        simpa using this
      have hSE : Same w we := by rw [hwe]; exact (HS.out.setNew 0 _ hwR).setNew 1 _ hwR
      have hnR : ∀ a, A2 = some a → a.block ≠ R := fun a ha => (HNE.out a.block ⟨a, ha, rfl⟩).1
      have hOE : OwnW we A2 2 C2 (tabW 7 us) := by
        rw [hwe]
        exact Own.far (p := ⟨R, 1, none⟩) (Own.far (p := ⟨R, 0, none⟩) HFU.out hnR _) hnR _
      have hr0 : we.cell? ⟨R, 0, none⟩ = some (.int .i64 7) := hBE.cell 0
      have hr1 : we.cell? ⟨R, 1, none⟩ = some (.slice A2 2 C2) := hBE.cell 1
      clear hwe hBE
      refine bodyPost_ret (v := .agg #[.int .i64 7, .slice A2 2 C2]) (by simp [results, Try.results4, go_sem, hr0, hr1]) rfl ?_
      have hll : (tabW 7 us).length = 2 := by rw [tabW_len]; exact HNW.out
      exact ⟨A2, C2, by rw [hll], by rw [← hll] at hOE; exact ⟨hOE, HF.out, hSE⟩⟩
set_option maxRecDepth 100000 in
set_option maxHeartbeats 16000000 in
theorem table_8 (A : Option Addr) (m C : Nat) (us : List Nat) (w : World) (h : WL w A m us) (hsm : Small us) : Calls Try.prog 4 #[.int .i64 8, .slice A m C] w (RetT w 8 (tabW 8 us)) := by
  obtain rfl := h.len
  have H := Lib.hid h
  have HSM := Lib.hid hsm
  clear h hsm
  have hnw : nw 8 = 4 := by decide
  have HNW := Lib.hid hnw
  clear hnw
  go_enter Try.func4, Try.ntmps4
  go_upto_region 3 with fail
  refine wp_world fun w1 hw1 => ?_
  have hs1 : Same w w1 := by rw [hw1]; exact ((Frm.refl _ _).alloc _).alloc _
  have hBR : Blk w1 (w.heap.size) 26 #[.int .i64 0, .slice none 0 0] := by
    rw [hw1]
    have := ((Blk.new w 26 #[.int .i64 0, .slice none 0 0]).alloc (.cells #[.int .i64 8, .slice none 0 0] 26))
    simpa using this
  have hBT : Blk w1 (w.heap.size + 1) 26 #[.int .i64 8, .slice none 0 0] := by
    rw [hw1]
    have := (Blk.new (w.alloc (.cells #[.int .i64 0, .slice none 0 0] 26)) 26 #[.int .i64 8, .slice none 0 0])
    simpa using this
  clear hw1
  obtain ⟨R, hR⟩ : ∃ b, w.heap.size = b := ⟨_, rfl⟩
  obtain ⟨D, hD⟩ : ∃ b, w.heap.size + 1 = b := ⟨_, rfl⟩
  rw [hD] at hBT ⊢
  rw [hR] at hBR ⊢
  have hRD : R ≠ D := by omega
  have hwR : w.heap.size ≤ R := by omega
  have hwD : w.heap.size ≤ D := by omega
  clear hR hD
  have HS1 := Lib.hid hs1
  have HBR := Lib.hid hBR
  have HBT := Lib.hid hBT
  clear hs1 hBR hBT
  go_wp2
  go_loopw [7, 8] (fun i _x wr => ∃ (k : Nat) (A2 : Option Addr) (C2 : Nat), k ≤ 4 ∧ i = .int .i64 k ∧ Same w wr ∧ Blk wr R 26 #[.int .i64 0, .slice none 0 0] ∧ Blk wr D 26 #[.int .i64 8, .slice A2 k C2] ∧ Fresh w.heap.size A2 ∧ (∀ b, rowOf A2 b → b ≠ R ∧ b ≠ D) ∧ OwnW wr A2 k C2 ((tabW 8 us).take k)) (fun i _ _ => 4 - (intOf i).toNat)
  case atStart => exact ⟨0, none, 0, by omega, rfl, HS1.out, HBR.out, HBT.out, fresh_none _, fun b ⟨a, h, _⟩ => (by cases h), Own.nil _ _ _ _⟩
  case round =>
    obtain ⟨k, A2, C2, hk, rfl, hs, hbr, hbt, hf, hne, ho⟩ := hrel
    have HS := Lib.hid hs
    have HR := Lib.hid hbr
    have HT := Lib.hid hbt
    have HF := Lib.hid hf
    have HNE := Lib.hid hne
    have HO := Lib.hid ho
    have hlk : ((tabW 8 us).take k).length = k := by rw [List.length_take, tabW_len, HNW.out]; omega
    have HLK := Lib.hid hlk
    clear hs hbr hbt hf hne ho hlk
    by_cases hlt : k < 4
    · have hi1 : (k : Int) < 4 := by omega
      have hi0 : (0 : Int) ≤ k := by omega
      have hnx := take_snoc (tabW_get (n := 8) (us := us) (show k < nw 8 by rw [HNW.out]; exact hlt))
      have HNX := Lib.hid hnx
      clear hnx
      by_cases hm0 : us.length = 0
      · have hz : tblW 8 us k = 0 := by
          obtain rfl : us = [] := List.length_eq_zero_iff.1 hm0
          unfold tblW; simp
        rw [hz] at HNX
        have hm1 : ¬ (0 : Int) < us.length := by omega
        have hm2 : ¬ 0 < us.length := by omega
        clear hz hm0
        go_upto_region 13 with fail
        have hcT1 : wr.cell? ⟨D, 1, none⟩ = some (.slice A2 k C2) := HT.out.cell 1
        have hlT := HT.out.lt
        refine wp_read 3 ?_
        simp only [List.take_succ_cons, List.take_zero, List.drop_succ_cons, List.drop_zero]
        repeat (any_goals (first | go_big_quiet_step (fail) | quiet_step (fail)))
        refine wpQuiet_nil ?_
        refine wpList_plain rfl fun K hK => ?_
        go_simp
        refine hK _ _ ?_
        clear hK K
        refine list_world fun wa hwa => ?_
        have hN := Blk.new wr 23 #[.int .u64 0]
        have hsa : Same wr wa := by rw [hwa]; exact (Frm.refl _ _).alloc _
        rw [← hwa] at hN
        clear hwa hcT1 hlT
        refine Own.append_list (f := ucell) rfl (.tmp 40) (.tmp 42) _ rfl Try.underlying22 info_u64 rfl (by omega) rfl ((HO.out).frm hsa (fun _ _ => id)) (fun _ => rfl) 0 wr.heap.size 1 rfl hN (by simp [Value.oneCell', ucell]) (by rw [HLK.out]; simp [maxLen]; omega) (by rw [HLK.out]; omega) ?_
        intro gg cap wb hOb hgb hat
        have hnR : (Value.slice A2 k C2).ownBlock ≠ some R := fun h => (HNE.out R (ownBlock_row.1 h)).1 rfl
        have hnD : (Value.slice A2 k C2).ownBlock ≠ some D := fun h => (HNE.out D (ownBlock_row.1 h)).2 rfl
        have hbr := (HR.out.frm hsa id).grown hgb (fun h => hnR h.symm)
        have hbt := (HT.out.frm hsa id).grown hgb (fun h => hnD h.symm)
        have hgR : gg ≠ R := fun h => by
          rcases hat with h1 | h1
          · exact hnR (h ▸ h1)
          · have := (HR.out.frm hsa id).lt; omega
        have hgD : gg ≠ D := fun h => by
          rcases hat with h1 | h1
          · exact hnD (h ▸ h1)
          · have := (HT.out.frm hsa id).lt; omega
        have HOb := Lib.hid hOb
        have HSb := Lib.hid (Same.app (HS.out) hsa hgb (HF.out))
        have HFb := Lib.hid (fresh_app (HS.out) hsa (HF.out) hat)
        have HBRb := Lib.hid hbr
        have HBTb := Lib.hid hbt
        have hcT0 : wb.cell? ⟨D, 0, none⟩ = some (.int .i64 8) := hbt.cell 0
        have hcT1 : wb.cell? ⟨D, 1, none⟩ = some (.slice A2 k C2) := hbt.cell 1
        have hfT1 := hbt.free 1
        have hlT := hbt.lt
        clear hOb hgb hat hsa hN hbr hbt hnR hnD
        go_wp2
        go_roundw
        case rel =>
          refine ⟨k + 1, some ⟨gg, 0, none⟩, cap, by omega, by go_num, HSb.out.setNew 1 _ hwD, HBRb.out.far (p := ⟨D, 1, none⟩) hRD _, ?_, HFb.out, fun b ⟨a, h, h2⟩ => by injection h with h; subst h; subst h2; exact ⟨hgR, hgD⟩, ?_⟩
          · have := HBTb.out.set 1 (.slice (some ⟨gg, 0, none⟩) (k + 1) cap)
            simpa using this
          · rw [HNX.out]
            exact Own.far (p := ⟨D, 1, none⟩) HOb.out (fun a h => by injection h with h; subst h; exact hgD) _
        case measure => simp [intOf]; omega
      · have hm1 : (0 : Int) < us.length := by omega
        obtain ⟨d, hd⟩ : ∃ d, k % us.length = d := ⟨_, rfl⟩
        have hdl : d < us.length := by rw [← hd]; exact Nat.mod_lt _ (by omega)
        have hdk : d ≤ k := by rw [← hd]; exact Nat.mod_le _ _
        have hq2 : IntKind.i64.wrap (d : Int) = d := IntWalk.i64_in _ (by omega)
        obtain ⟨y, hy⟩ : ∃ y, us[d]? = some y := ⟨_, List.getElem?_eq_getElem hdl⟩
        have hyl := HSM.out.at1 hy
        have hz : tblW 8 us k = y % 18446744073709551616 := by unfold tblW; rw [hd, List.getD_eq_getElem?_getD, hy]; rfl
        rw [hz] at HNX
        obtain ⟨b, off, rfl, hb, hc⟩ := WL.at1 (Sl.same H.out HS.out) hy
        have hq0 : ¬ ((us.length : Nat) : Int) = 0 := by omega
        have hq1 : (k : Int).tmod ((us.length : Nat) : Int) = (d : Int) := by rw [← hd]; exact (Int.natCast_emod k us.length).symm ▸ (Int.tmod_eq_emod_of_nonneg (by omega))
        have hq3 : (k : Int) % ((us.length : Nat) : Int) = (d : Int) := by rw [← hd]; exact (Int.natCast_emod k us.length).symm
        have hd0 : (0 : Int) ≤ d := by omega
        have hd1 : (d : Int) < us.length := by omega
        have hzy : y % 18446744073709551616 = y := Nat.mod_eq_of_lt hyl
        rw [hzy] at HNX
        clear hz hd hy hzy
        go_upto_region 13 with fail
        have hcT1 : wr.cell? ⟨D, 1, none⟩ = some (.slice A2 k C2) := HT.out.cell 1
        have hlT := HT.out.lt
        refine wp_read 3 ?_
        simp only [List.take_succ_cons, List.take_zero, List.drop_succ_cons, List.drop_zero]
        repeat (any_goals (first | go_big_quiet_step (fail) | quiet_step (fail)))
        refine wpQuiet_nil ?_
        refine wpList_plain rfl fun K hK => ?_
        go_simp
        refine hK _ _ ?_
        clear hK K
        refine list_world fun wa hwa => ?_
        have hN := Blk.new wr 23 #[.int .u64 (y : Int)]
        have hsa : Same wr wa := by rw [hwa]; exact (Frm.refl _ _).alloc _
        rw [← hwa] at hN
        clear hwa hcT1 hlT
        refine Own.append_list (f := ucell) rfl (.tmp 40) (.tmp 42) _ rfl Try.underlying22 info_u64 rfl (by omega) rfl ((HO.out).frm hsa (fun _ _ => id)) (fun _ => rfl) y wr.heap.size 1 rfl hN (by simp [Value.oneCell', ucell]) (by rw [HLK.out]; simp [maxLen]; omega) (by rw [HLK.out]; omega) ?_
        intro gg cap wb hOb hgb hat
        have hnR : (Value.slice A2 k C2).ownBlock ≠ some R := fun h => (HNE.out R (ownBlock_row.1 h)).1 rfl
        have hnD : (Value.slice A2 k C2).ownBlock ≠ some D := fun h => (HNE.out D (ownBlock_row.1 h)).2 rfl
        have hbr := (HR.out.frm hsa id).grown hgb (fun h => hnR h.symm)
        have hbt := (HT.out.frm hsa id).grown hgb (fun h => hnD h.symm)
        have hgR : gg ≠ R := fun h => by
          rcases hat with h1 | h1
          · exact hnR (h ▸ h1)
          · have := (HR.out.frm hsa id).lt; omega
        have hgD : gg ≠ D := fun h => by
          rcases hat with h1 | h1
          · exact hnD (h ▸ h1)
          · have := (HT.out.frm hsa id).lt; omega
        have HOb := Lib.hid hOb
        have HSb := Lib.hid (Same.app (HS.out) hsa hgb (HF.out))
        have HFb := Lib.hid (fresh_app (HS.out) hsa (HF.out) hat)
        have HBRb := Lib.hid hbr
        have HBTb := Lib.hid hbt
        have hcT0 : wb.cell? ⟨D, 0, none⟩ = some (.int .i64 8) := hbt.cell 0
        have hcT1 : wb.cell? ⟨D, 1, none⟩ = some (.slice A2 k C2) := hbt.cell 1
        have hfT1 := hbt.free 1
        have hlT := hbt.lt
        clear hOb hgb hat hsa hN hbr hbt hnR hnD
        go_wp2
        go_roundw
        case rel =>
          refine ⟨k + 1, some ⟨gg, 0, none⟩, cap, by omega, by go_num, HSb.out.setNew 1 _ hwD, HBRb.out.far (p := ⟨D, 1, none⟩) hRD _, ?_, HFb.out, fun b ⟨a, h, h2⟩ => by injection h with h; subst h; subst h2; exact ⟨hgR, hgD⟩, ?_⟩
          · have := HBTb.out.set 1 (.slice (some ⟨gg, 0, none⟩) (k + 1) cap)
            simpa using this
          · rw [HNX.out]
            exact Own.far (p := ⟨D, 1, none⟩) HOb.out (fun a h => by injection h with h; subst h; exact hgD) _
        case measure => simp [intOf]; omega
    · obtain rfl : k = 4 := by omega
      have hfull := HO.out
      rw [List.take_of_length_le (by rw [tabW_len, HNW.out]; exact Nat.le_refl _)] at hfull
      have hcR0 : wr.cell? ⟨R, 0, none⟩ = some (.int .i64 0) := HR.out.cell 0
      have hcR1 : wr.cell? ⟨R, 1, none⟩ = some (.slice none 0 0) := HR.out.cell 1
      have hcT0 : wr.cell? ⟨D, 0, none⟩ = some (.int .i64 8) := HT.out.cell 0
      have hcT1 : wr.cell? ⟨D, 1, none⟩ = some (.slice A2 4 C2) := HT.out.cell 1
      have hfR0 := HR.out.free 0
      have hfR1 := HR.out.free 1
      have hlR := HR.out.lt
      have hlT := HT.out.lt
      have HFU := Lib.hid hfull
      clear hfull
      go_wp2
      refine wp_post fun we hwe => ?_
      have hBE : Blk we R 26 #[.int .i64 8, .slice A2 4 C2] := by
        rw [hwe]
        have := (HR.out.set 0 (.int .i64 8)).set 1 (.slice A2 4 C2)
        simpa using this
      have hSE : Same w we := by rw [hwe]; exact (HS.out.setNew 0 _ hwR).setNew 1 _ hwR
      have hnR : ∀ a, A2 = some a → a.block ≠ R := fun a ha => (HNE.out a.block ⟨a, ha, rfl⟩).1
      have hOE : OwnW we A2 4 C2 (tabW 8 us) := by
        rw [hwe]
        exact Own.far (p := ⟨R, 1, none⟩) (Own.far (p := ⟨R, 0, none⟩) HFU.out hnR _) hnR _
      have hr0 : we.cell? ⟨R, 0, none⟩ = some (.int .i64 8) := hBE.cell 0
      have hr1 : we.cell? ⟨R, 1, none⟩ = some (.slice A2 4 C2) := hBE.cell 1
      clear hwe hBE
      refine bodyPost_ret (v := .agg #[.int .i64 8, .slice A2 4 C2]) (by simp [results, Try.results4, go_sem, hr0, hr1]) rfl ?_
      have hll : (tabW 8 us).length = 4 := by rw [tabW_len]; exact HNW.out
      exact ⟨A2, C2, by rw [hll], by rw [← hll] at hOE; exact ⟨hOE, HF.out, hSE⟩⟩
theorem table_any (n : Nat) (A : Option Addr) (m C : Nat) (us : List Nat) (w : World) (hn : n ≤ 8) (h : WL w A m us) (hsm : Small us) : Calls Try.prog 4 #[.int .i64 n, .slice A m C] w (RetT w n (tabW n us)) := by
  obtain rfl | rfl | rfl | rfl | rfl | rfl | rfl | rfl | rfl : n = 0 ∨ n = 1 ∨ n = 2 ∨ n = 3 ∨ n = 4 ∨ n = 5 ∨ n = 6 ∨ n = 7 ∨ n = 8 := by omega
  · exact table_0 A m C us w h hsm
  · exact table_1 A m C us w h hsm
  · exact table_2 A m C us w h hsm
  · exact table_3 A m C us w h hsm
  · exact table_4 A m C us w h hsm
  · exact table_5 A m C us w h hsm
  · exact table_6 A m C us w h hsm
  · exact table_7 A m C us w h hsm
  · exact table_8 A m C us w h hsm
end Go.Proofs.Ytaakjecnompogaa


/- Truth tables: the reference's permutation. -/
namespace Go.Tk
theorem take_add1 {α : Type} {xs : List α} {k : Nat} {x : α} (h : xs[k]? = some x) : xs.take (k + 1) = xs.take k ++ [x] := by
  have hl := lt_get h
  rw [List.getElem?_eq_getElem hl] at h
  injection h with h
  rw [List.take_succ_eq_append_getElem hl, h]
theorem rng_count {n v : Nat} : (rng n).count (v : Int) = if v < n then 1 else 0 := by
  unfold rng
  induction n with
  | zero => simp
  | succ n ih =>
    rw [List.range_succ, List.map_append, List.count_append, ih, List.map_cons, List.map_nil, List.count_singleton]
    by_cases h2 : v = n
    · subst h2; simp
    · have h3 : ((n : Int) == (v : Int)) = false := by
        rw [beq_eq_false_iff_ne]
        omega
      rw [h3]
      by_cases h : v < n
      · rw [if_pos h, if_pos (show v < n + 1 by omega)]; rfl
      · rw [if_neg h, if_neg (show ¬ v < n + 1 by omega)]; rfl
def prmB (n : Nat) (p : List Int) : Bool := decide (p.length = n ∧ IsPerm p)
theorem prmB_true {n : Nat} {p : List Int} : prmB n p = true ↔ PermN n p := by
  unfold prmB
  rw [decide_eq_true_eq]
  exact ⟨fun h => ⟨h.1, h.2⟩, fun h => ⟨h.len, h.perm⟩⟩
theorem PermN.count {n : Nat} {p : List Int} (h : PermN n p) {v : Nat} (hv : v < n) : p.count (v : Int) = 1 := by
  rw [h.perm.perm.count_eq, rng_count, if_pos (by rw [h.len]; exact hv)]
theorem prm_of_count {n : Nat} {p : List Int} (hl : p.length = n) (h : ∀ v : Nat, v < n → p.count (v : Int) = 1) : PermN n p :=
  ⟨hl, isPerm_of_all fun v hv => List.count_pos_iff.1 (by rw [h v (by omega)]; omega)⟩
end Go.Tk
namespace Go.Proofs.Ytaakjecnompogaa
open Go.RowKit Go.Tk

end Go.Proofs.Ytaakjecnompogaa


/- Truth tables: the reference's DocRenamed. -/
namespace Go.Proofs.Ytaakjecnompogaa
open Go.RowKit Go.Tk

def rnE (N : Int) (p : List Int) (ws : List Nat) : Int := if frm N ws then (if prmB N.toNat p then 0 else 4) else 5
theorem renP_zero_vals (n M : Nat) (p : List Int) (ws : List Nat) : vals M (renP n p ws 0) = List.replicate M false := by
  rw [← vals_false M]
  exact vals_congr fun i _ => renP_zero i
end Go.Proofs.Ytaakjecnompogaa


/- Truth tables: Renamed of the program. -/
namespace Go.Tk
/-- which numbers stand among the first k -/
def seenL (xs : List Int) (k n : Nat) : List Bool := (List.range n).map fun j : Nat => decide ((j : Int) ∈ xs.take k)
theorem seenL_len (xs : List Int) (k n : Nat) : (seenL xs k n).length = n := by simp [seenL]
theorem seenL_get (xs : List Int) (k : Nat) {n j : Nat} (h : j < n) : (seenL xs k n)[j]? = some (decide ((j : Int) ∈ xs.take k)) := by simp [seenL, h]
theorem seenL_zero (xs : List Int) (n : Nat) : seenL xs 0 n = List.replicate n false := by
  apply List.ext_getElem?
  intro j
  rcases Nat.lt_or_ge j n with h | h
  · rw [seenL_get xs 0 h]; simp [h]
  · rw [List.getElem?_eq_none (by rw [seenL_len]; exact h), List.getElem?_eq_none (by simpa using h)]
theorem seenL_set {xs : List Int} {k n : Nat} {x : Nat} (h : xs[k]? = some (x : Int)) (hx : x < n) : (seenL xs k n).set x true = seenL xs (k + 1) n := by
  apply List.ext_getElem?
  intro j
  rcases Nat.lt_or_ge j n with hj | hj
  · rw [seenL_get xs (k + 1) hj, List.getElem?_set, seenL_len, seenL_get xs k hj, take_add1 h]
    split
    · rename_i he; subst he; simp
    · rename_i hne
      congr 1
      have : ¬ ((j : Int) = (x : Int)) := by omega
      simp [this]
  · rw [List.getElem?_eq_none (by simp [seenL_len, hj]), List.getElem?_eq_none (by rw [seenL_len]; exact hj)]
def GoodN (n : Nat) (xs : List Int) (k : Nat) : Prop := (∀ x, x ∈ xs.take k → 0 ≤ x ∧ x < n) ∧ (xs.take k).Nodup
theorem GoodN.next {n : Nat} {xs : List Int} {k : Nat} {x : Int} (h : GoodN n xs k) (hx : xs[k]? = some x) (h0 : 0 ≤ x) (h1 : x < n) (hn : x ∉ xs.take k) : GoodN n xs (k + 1) := by
  unfold GoodN
  rw [take_add1 hx]
  refine ⟨fun y hy => ?_, ?_⟩
  · rcases List.mem_append.1 hy with hy | hy
    · exact h.1 y hy
    · simp at hy; subst hy; exact ⟨h0, h1⟩
  · rw [List.nodup_append]
    exact ⟨h.2, by simp, fun a ha b hb => by simp at hb; subst hb; rintro rfl; exact hn ha⟩
theorem prmB_range {n : Nat} {xs : List Int} {k : Nat} {x : Int} (hx : xs[k]? = some x) (h : x < 0 ∨ (n : Int) ≤ x) : prmB n xs = false := by
  cases hp : prmB n xs with
  | false => rfl
  | true =>
    have h1 := prmB_true.1 hp
    have h2 := h1.perm.1 x (List.mem_of_getElem? hx)
    rw [h1.len] at h2
    omega
theorem prmB_dup {n : Nat} {xs : List Int} {k : Nat} {x : Int} (hx : xs[k]? = some x) (h : x ∈ xs.take k) : prmB n xs = false := by
  cases hp : prmB n xs with
  | false => rfl
  | true =>
    have h1 := prmB_true.1 hp
    have h3 : (xs.take (k + 1)).Nodup := h1.perm.2.sublist (List.take_sublist _ _)
    rw [take_add1 hx, List.nodup_append] at h3
    exact absurd rfl (h3.2.2 x h x (by simp))
theorem prmB_good {n : Nat} {xs : List Int} (h : GoodN n xs xs.length) (hl : xs.length = n) : PermN n xs := by
  unfold GoodN at h
  rw [List.take_length] at h
  exact ⟨hl, fun x hx => by rw [hl]; exact h.1 x hx, h.2⟩
theorem prmB_len {n : Nat} {xs : List Int} (h : xs.length ≠ n) : prmB n xs = false := by
  cases hp : prmB n xs with
  | false => rfl
  | true => exact absurd (prmB_true.1 hp).len h
theorem ren_zero (n : Nat) (p : List Int) (ws : List Nat) : ((List.range (nw n)).map fun _ => 0 &&& fullN n) = tab n (renP n p ws 0) := by
  unfold tab
  apply List.map_congr_left
  intro k _
  rw [Nat.zero_and]
  symm
  unfold word
  have : ∀ m, bsum (fun j => decide (64 * k + j < 2 ^ n) && renP n p ws 0 (64 * k + j)) m = 0 := by
    intro m
    induction m with
    | zero => rfl
    | succ m ih => rw [bsum, ih, renP_zero]; simp
  exact this 64
end Go.Tk
namespace Go.Proofs.Ytaakjecnompogaa
open Go.RowKit Go.Tk

theorem mul_le16 {b u : Nat} (hb : b < 2) (hu : u < 16) : b * 2 ^ u ≤ 65536 := by
  have hpu : 2 ^ u ≤ 65536 := pow_le16 (show u ≤ 16 by omega)
  have h01 : b = 0 ∨ b = 1 := by omega
  rcases h01 with rfl | rfl
  · rw [Nat.zero_mul]; exact Nat.zero_le _
  · rw [Nat.one_mul]; exact hpu
theorem step_i {k m u s t : Nat} (hk : k < 65536) (hu : u < 16) (hs : s < 65536) (ht : s ||| (k / 2 ^ m % 2) * 2 ^ u = t) : ∃ q b c : Nat, (k : Int) / 2 ^ m = (q : Int) ∧ bits .and .i64 (q : Int) 1 = (b : Int) ∧ wrap64 ((b : Int) * 2 ^ u) = (c : Int) ∧ IntKind.i64.wrap ((b : Int) * 2 ^ u) = (c : Int) ∧ bits .or .i64 (s : Int) (c : Int) = (t : Int) ∧ c ≤ 65536 ∧ b < 2 ∧ q < 65536 ∧ (b : Int) * 2 ^ u = (c : Int) := by
  have hqk : k / 2 ^ m ≤ k := Nat.div_le_self _ _
  have hd2 := i64_and_nat (k / 2 ^ m) 1 (by omega) (by omega)
  rw [nat_mask1] at hd2
  have hb2 : k / 2 ^ m % 2 < 2 := Nat.mod_lt _ (by omega)
  have hc := mul_le16 hb2 hu
  have hmul : ((k / 2 ^ m % 2 : Nat) : Int) * 2 ^ u = (((k / 2 ^ m % 2) * 2 ^ u : Nat) : Int) := by rw [pow_int, ← Int.natCast_mul]
  refine ⟨k / 2 ^ m, k / 2 ^ m % 2, (k / 2 ^ m % 2) * 2 ^ u, by rw [pow_int]; exact (Int.natCast_ediv _ _).symm, hd2, ?_, ?_, ?_, hc, hb2, by omega, hmul⟩
  · rw [hmul]
    generalize (k / 2 ^ m % 2) * 2 ^ u = c at hc
    exact IntWalk.wrap64_in _ (by omega)
  · rw [hmul]
    generalize (k / 2 ^ m % 2) * 2 ^ u = c at hc
    exact IntWalk.i64_in _ (by omega)
  · rw [← ht]
    generalize (k / 2 ^ m % 2) * 2 ^ u = c at hc
    exact i64_or_nat s c (by omega) (by omega)
theorem step_w {x y r1 r2 : Nat} {v : Bool} (hx : x < 18446744073709551616) (hy : y < 18446744073709551616) (hr : r2 < 64) (hv : v = y.testBit r1) :
    ∃ z b c : Nat, (y : Int) / 2 ^ r1 = (z : Int) ∧ bits .and .u64 (z : Int) 1 = (b : Int) ∧ IntKind.u64.wrap ((b : Int) * 2 ^ r2) = (c : Int) ∧ bits .or .u64 (x : Int) (c : Int) = ((x ||| (if v then 1 else 0) * 2 ^ r2 : Nat) : Int) ∧ b < 2 ∧ z < 18446744073709551616 ∧ c < 18446744073709551616 := by
  have hyq : y / 2 ^ r1 ≤ y := Nat.div_le_self _ _
  have hbit : y / 2 ^ r1 % 2 = if v then 1 else 0 := by
    rw [hv, Nat.testBit_eq_decide_div_mod_eq]
    rcases Nat.mod_two_eq_zero_or_one (y / 2 ^ r1) with h | h <;> rw [h] <;> rfl
  have hb1 : (if v then 1 else 0) < 2 := by split <;> omega
  have he2 := u64_and_nat (y / 2 ^ r1) 1 (by omega) (by omega)
  rw [nat_mask1, hbit] at he2
  have hpr : 2 ^ r2 ≤ 9223372036854775808 := show 2 ^ r2 ≤ 2 ^ 63 from Nat.pow_le_pow_right (by omega) (by omega)
  have hbp : (if v then 1 else 0) * 2 ^ r2 ≤ 9223372036854775808 := by
    cases v
    · rw [if_neg (by decide), Nat.zero_mul]; exact Nat.zero_le _
    · rw [if_pos rfl, Nat.one_mul]; exact hpr
  refine ⟨y / 2 ^ r1, if v then 1 else 0, (if v then 1 else 0) * 2 ^ r2, by rw [pow_int]; exact (Int.natCast_ediv _ _).symm, he2, ?_, ?_, hb1, by omega, by omega⟩
  · rw [pow_int, ← Int.natCast_mul]
    generalize (if v then 1 else 0) * 2 ^ r2 = bp at hbp
    exact IntWalk.u64_in _ (by omega)
  · generalize (if v then 1 else 0) * 2 ^ r2 = bp at hbp
    exact u64_or_nat x bp hx (by omega)
theorem dm64 (k : Nat) : (k : Int) / 64 = ((k / 64 : Nat) : Int) ∧ (k : Int) % 64 = ((k % 64 : Nat) : Int) ∧ k % 64 < 64 ∧ min (k % 64) 64 = k % 64 ∧ (0 : Int) ≤ ((k / 64 : Nat) : Int) := by
  refine ⟨by omega, by omega, by omega, by omega, by omega⟩
theorem ren1_any (i : Nat) (w : World) : Calls Try.prog 27 #[.int .i64 i] w fun e w' => e = .returned (.int .u64 ((0 : Nat) : Int)) ∧ w = w' := by
  go_enter Try.func27, Try.ntmps27
  go_wp2
  go_ret
  exact ⟨rfl, rfl⟩
set_option maxRecDepth 100000 in
set_option maxHeartbeats 16000000 in
theorem Renamed_any (Na : Int) (Aa : Option Addr) (Ca : Nat) (wsa : List Nat) (Ap : Option Addr) (Lp Cp : Nat) (p : List Int) (w : World) (h : TbOk w ⟨Na, Aa, Ca, wsa⟩) (hp : IL w Ap Lp p) (hLp : Lp ≤ 1000000000000000000) : Calls Try.prog 13 #[.agg #[.int .i64 Na, .slice Aa wsa.length Ca], .slice Ap Lp Cp] w (RetA w Na (tab Na.toNat (renF Na.toNat p wsa)) (rnE Na p wsa)) := by
  have H := Lib.hid h
  have HP := Lib.hid hp
  unfold rnE
  cases hfr : frm Na wsa with
  | false =>
    rw [if_neg (by decide)]
    unfold RetA
    rw [show ansN Na 5 = 0 from rfl, show ansL (tab Na.toNat (renF Na.toNat p wsa)) 5 = [] from rfl]
    have HFM := Lib.hid ((frm_one Na Aa Ca wsa).trans hfr)
    clear hfr hp h
    go_enter Try.func13, Try.ntmps13
    go_upto_region 1 with fail
    refine wp_world fun w1 hw1 => ?_
    have hs1 : Same w w1 := by rw [hw1]; exact ((Frm.refl _ _).alloc _).alloc _
    have hBXa : Blk w1 (w.heap.size) 26 #[.int .i64 Na, .slice Aa wsa.length Ca] := by
      rw [hw1]
      have := ((Blk.new w 26 #[.int .i64 Na, .slice Aa wsa.length Ca]).alloc (.cells #[.int .i64 0, .slice none 0 0] 26))
      simpa using this
    have hBR : Blk w1 (w.heap.size + 1) 26 #[.int .i64 0, .slice none 0 0] := by
      rw [hw1]
      have := (Blk.new (w.alloc (.cells #[.int .i64 Na, .slice Aa wsa.length Ca] 26)) 26 #[.int .i64 0, .slice none 0 0])
      simpa using this
    clear hw1
    obtain ⟨R, hR⟩ : ∃ b, w.heap.size + 1 = b := ⟨_, rfl⟩
    rw [hR] at hBR ⊢
    have leR : w.heap.size ≤ R := by omega
    have neXaR : w.heap.size ≠ R := by omega
    clear hR
    have cXa0 : w1.cell? ⟨w.heap.size, 0, none⟩ = some (.int .i64 Na) := hBXa.cell 0
    have cXa1 : w1.cell? ⟨w.heap.size, 1, none⟩ = some (.slice Aa wsa.length Ca) := hBXa.cell 1
    have lXa := hBXa.lt
    have fXa0 := hBXa.free 0
    have fXa1 := hBXa.free 1
    have HBXa := Lib.hid hBXa
    have cR0 : w1.cell? ⟨R, 0, none⟩ = some (.int .i64 0) := hBR.cell 0
    have cR1 : w1.cell? ⟨R, 1, none⟩ = some (.slice none 0 0) := hBR.cell 1
    have lR := hBR.lt
    have fR0 := hBR.free 0
    have fR1 := hBR.free 1
    have HBR := Lib.hid hBR
    have HS1 := Lib.hid hs1
    clear hs1 hBXa hBR
    have HOKa := Lib.hid (H.out.same HS1.out)
    go_wp2_with (fail)
    refine call_world fun w2 hw2 => ?_
    have hs2 : Same w1 w2 := by rw [hw2]; exact (Frm.refl _ _).alloc _
    have hBL : Blk w2 w1.heap.size 26 #[.int .i64 Na, .slice Aa wsa.length Ca] := by rw [hw2]; exact Blk.new _ _ _
    have htbs : Tbs w2 w1.heap.size [⟨Na, Aa, Ca, wsa⟩] := by
      intro i t hi
      match i, hi with
      | 0, hi =>
        simp only [List.getElem?_cons_zero, Option.some.injEq] at hi
        subst hi
        exact ⟨hBL.lt, hBL.cell 0, hBL.cell 1⟩
      | i + 1, hi => simp at hi
    have hfc := form_any w1.heap.size 1 1 [⟨Na, Aa, Ca, wsa⟩] w2 rfl (by decide) htbs (fun t ht => by
      simp only [List.mem_cons, List.not_mem_nil, or_false] at ht
      rcases ht with rfl
      · exact (HOKa.out).same hs2)
    rw [HFM.out] at hfc
    refine hfc.mono ?_
    clear hfc htbs hBL hw2
    rintro e w3 ⟨rfl, hs3⟩
    have hs13 : Same w1 w3 := hs2.trans hs3 (fun _ _ h => h)
    clear hs2 hs3
    replace HBXa := Lib.hid (HBXa.out.frm hs13 id)
    replace cXa0 : w3.cell? ⟨w.heap.size, 0, none⟩ = some (.int .i64 Na) := HBXa.out.cell 0
    replace cXa1 : w3.cell? ⟨w.heap.size, 1, none⟩ = some (.slice Aa wsa.length Ca) := HBXa.out.cell 1
    replace lXa := HBXa.out.lt
    replace fXa0 := HBXa.out.free 0
    replace fXa1 := HBXa.out.free 1
    replace HBR := Lib.hid (HBR.out.frm hs13 id)
    replace cR0 : w3.cell? ⟨R, 0, none⟩ = some (.int .i64 0) := HBR.out.cell 0
    replace cR1 : w3.cell? ⟨R, 1, none⟩ = some (.slice none 0 0) := HBR.out.cell 1
    replace lR := HBR.out.lt
    replace fR0 := HBR.out.free 0
    replace fR1 := HBR.out.free 1
    replace HS1 := Lib.hid (HS1.out.trans hs13 (fun _ _ h => h))
    clear hs13
    go_wp2
    refine wp_post fun we hwe => ?_
    have hBE : Blk we R 26 #[.int .i64 0, .slice none 0 0] := by
      rw [hwe]
      have := (HBR.out.set 0 (.int .i64 0)).set 1 (.slice none 0 0)
      simpa using this
    have hSE : Same w we := by rw [hwe]; exact (HS1.out.setNew 0 _ leR).setNew 1 _ leR
    have hr0 : we.cell? ⟨R, 0, none⟩ = some (.int .i64 0) := hBE.cell 0
    have hr1 : we.cell? ⟨R, 1, none⟩ = some (.slice none 0 0) := hBE.cell 1
    clear hwe hBE
    refine bodyPost_ret (v := .tuple #[.agg #[.int .i64 0, .slice none 0 0], .int .i64 5]) (by simp [results, Try.results13, go_sem, hr0, hr1]) rfl ?_
    exact ⟨none, 0, rfl, NewT.nil hSE⟩
  | true =>
    rw [if_pos rfl]
    obtain ⟨n, rfl, hform⟩ := frm_true hfr
    have HFM := Lib.hid ((frm_one n Aa Ca wsa).trans hfr)
    have hn := hform.n16
    rw [Int.toNat_natCast]
    have hpl := hp.len
    have hmk := fun w => run_make_n (P := Try.prog) Try.underlying55 info_bool .i64 .i64 n (show 1 * n ≤ 281474976710656 by omega) (show n ≤ 9223372036854775807 by omega) w
    obtain ⟨err, herr⟩ : ∃ e : Int, (if prmB n p = true then (0 : Int) else 4) = e := ⟨_, rfl⟩
    rw [herr]
    have HERR := Lib.hid herr
    have HPL := Lib.hid hpl
    have HFa := Lib.hid hform
    clear hfr hp h hpl herr hform
    unfold RetA
    go_enter Try.func13, Try.ntmps13
    go_upto_region 1 with fail
    refine wp_world fun w1 hw1 => ?_
    have hs1 : Same w w1 := by rw [hw1]; exact ((Frm.refl _ _).alloc _).alloc _
    have hBXa : Blk w1 (w.heap.size) 26 #[.int .i64 n, .slice Aa wsa.length Ca] := by
      rw [hw1]
      have := ((Blk.new w 26 #[.int .i64 n, .slice Aa wsa.length Ca]).alloc (.cells #[.int .i64 0, .slice none 0 0] 26))
      simpa using this
    have hBR : Blk w1 (w.heap.size + 1) 26 #[.int .i64 0, .slice none 0 0] := by
      rw [hw1]
      have := (Blk.new (w.alloc (.cells #[.int .i64 n, .slice Aa wsa.length Ca] 26)) 26 #[.int .i64 0, .slice none 0 0])
      simpa using this
    clear hw1
    obtain ⟨R, hR⟩ : ∃ b, w.heap.size + 1 = b := ⟨_, rfl⟩
    rw [hR] at hBR ⊢
    have leR : w.heap.size ≤ R := by omega
    have neXaR : w.heap.size ≠ R := by omega
    clear hR
    have cXa0 : w1.cell? ⟨w.heap.size, 0, none⟩ = some (.int .i64 n) := hBXa.cell 0
    have cXa1 : w1.cell? ⟨w.heap.size, 1, none⟩ = some (.slice Aa wsa.length Ca) := hBXa.cell 1
    have lXa := hBXa.lt
    have fXa0 := hBXa.free 0
    have fXa1 := hBXa.free 1
    have HBXa := Lib.hid hBXa
    have cR0 : w1.cell? ⟨R, 0, none⟩ = some (.int .i64 0) := hBR.cell 0
    have cR1 : w1.cell? ⟨R, 1, none⟩ = some (.slice none 0 0) := hBR.cell 1
    have lR := hBR.lt
    have fR0 := hBR.free 0
    have fR1 := hBR.free 1
    have HBR := Lib.hid hBR
    have HS1 := Lib.hid hs1
    clear hs1 hBXa hBR
    have HOKa := Lib.hid (H.out.same HS1.out)
    go_wp2_with (fail)
    refine call_world fun w2 hw2 => ?_
    have hs2 : Same w1 w2 := by rw [hw2]; exact (Frm.refl _ _).alloc _
    have hBL : Blk w2 w1.heap.size 26 #[.int .i64 n, .slice Aa wsa.length Ca] := by rw [hw2]; exact Blk.new _ _ _
    have htbs : Tbs w2 w1.heap.size [⟨n, Aa, Ca, wsa⟩] := by
      intro i t hi
      match i, hi with
      | 0, hi =>
        simp only [List.getElem?_cons_zero, Option.some.injEq] at hi
        subst hi
        exact ⟨hBL.lt, hBL.cell 0, hBL.cell 1⟩
      | i + 1, hi => simp at hi
    have hfc := form_any w1.heap.size 1 1 [⟨n, Aa, Ca, wsa⟩] w2 rfl (by decide) htbs (fun t ht => by
      simp only [List.mem_cons, List.not_mem_nil, or_false] at ht
      rcases ht with rfl
      · exact (HOKa.out).same hs2)
    rw [HFM.out] at hfc
    refine hfc.mono ?_
    clear hfc htbs hBL hw2
    rintro e w3 ⟨rfl, hs3⟩
    have hs13 : Same w1 w3 := hs2.trans hs3 (fun _ _ h => h)
    clear hs2 hs3
    replace HBXa := Lib.hid (HBXa.out.frm hs13 id)
    replace cXa0 : w3.cell? ⟨w.heap.size, 0, none⟩ = some (.int .i64 n) := HBXa.out.cell 0
    replace cXa1 : w3.cell? ⟨w.heap.size, 1, none⟩ = some (.slice Aa wsa.length Ca) := HBXa.out.cell 1
    replace lXa := HBXa.out.lt
    replace fXa0 := HBXa.out.free 0
    replace fXa1 := HBXa.out.free 1
    replace HBR := Lib.hid (HBR.out.frm hs13 id)
    replace cR0 : w3.cell? ⟨R, 0, none⟩ = some (.int .i64 0) := HBR.out.cell 0
    replace cR1 : w3.cell? ⟨R, 1, none⟩ = some (.slice none 0 0) := HBR.out.cell 1
    replace lR := HBR.out.lt
    replace fR0 := HBR.out.free 0
    replace fR1 := HBR.out.free 1
    replace HS1 := Lib.hid (HS1.out.trans hs13 (fun _ _ h => h))
    clear hs13
    go_upto_region 4 with fail
    refine wp_world fun w5 hw5 => ?_
    have hsv : Same w3 w5 := by rw [hw5]; exact (Frm.refl _ _).alloc _
    have hOD : OwnB w5 (some ⟨w3.heap.size, 0, none⟩) n n (seenL p 0 n) := by
      rw [seenL_zero, hw5]
      have := Own.ofMade (m := 1) w3 4 (fun b : Bool => [.bool b]) (fun _ => rfl) (by decide) false n (show n ≤ 9223372036854775807 by omega) rfl
      simpa using this
    clear hw5 hmk
    obtain ⟨D, hD⟩ : ∃ D, w3.heap.size = D := ⟨_, rfl⟩
    rw [hD] at hOD ⊢
    have hneXaD : w.heap.size ≠ D := by have := HBXa.out.lt; omega
    have hneRD : R ≠ D := by have := HBR.out.lt; omega
    have hDn : w.heap.size ≤ D := by have := HS1.out.size; omega
    have HOD := Lib.hid hOD
    clear hD hOD
    replace HBXa := Lib.hid (HBXa.out.frm hsv id)
    replace cXa0 : w5.cell? ⟨w.heap.size, 0, none⟩ = some (.int .i64 n) := HBXa.out.cell 0
    replace cXa1 : w5.cell? ⟨w.heap.size, 1, none⟩ = some (.slice Aa wsa.length Ca) := HBXa.out.cell 1
    replace lXa := HBXa.out.lt
    replace fXa0 := HBXa.out.free 0
    replace fXa1 := HBXa.out.free 1
    replace HBR := Lib.hid (HBR.out.frm hsv id)
    replace cR0 : w5.cell? ⟨R, 0, none⟩ = some (.int .i64 0) := HBR.out.cell 0
    replace cR1 : w5.cell? ⟨R, 1, none⟩ = some (.slice none 0 0) := HBR.out.cell 1
    replace lR := HBR.out.lt
    replace fR0 := HBR.out.free 0
    replace fR1 := HBR.out.free 1
    replace HS1 := Lib.hid (HS1.out.trans hsv (fun _ _ h => h))
    clear hsv
    go_wp2
    go_loopw [24] (fun i wr => ∃ k : Nat, k ≤ Lp ∧ i = .int .i64 k ∧ GoodN n p k ∧ Same w wr ∧ Blk wr w.heap.size 26 #[.int .i64 n, .slice Aa wsa.length Ca] ∧ Blk wr R 26 #[.int .i64 0, .slice none 0 0] ∧ OwnB wr (some ⟨D, 0, none⟩) n n (seenL p k n)) (fun i _ => Lp - (intOf i).toNat)
    case atStart => exact ⟨0, by omega, rfl, ⟨by simp, by simp⟩, HS1.out, HBXa.out, HBR.out, HOD.out⟩
    case round =>
      obtain ⟨k, hk, rfl, hg, hs, hBXa, hBR, hOD⟩ := hrel
      replace HS1 := Lib.hid hs
      replace HBXa := Lib.hid hBXa
      replace HBR := Lib.hid hBR
      replace HOD := Lib.hid hOD
      have HG := Lib.hid hg
      clear cXa0 cXa1 fXa0 fXa1 lXa cR0 cR1 fR0 fR1 lR hs hBXa hBR hOD hg
      have cXa0 : wr.cell? ⟨w.heap.size, 0, none⟩ = some (.int .i64 n) := HBXa.out.cell 0
      have cXa1 : wr.cell? ⟨w.heap.size, 1, none⟩ = some (.slice Aa wsa.length Ca) := HBXa.out.cell 1
      have lXa := HBXa.out.lt
      have cR0 : wr.cell? ⟨R, 0, none⟩ = some (.int .i64 0) := HBR.out.cell 0
      have cR1 : wr.cell? ⟨R, 1, none⟩ = some (.slice none 0 0) := HBR.out.cell 1
      have lR := HBR.out.lt
      have fR0 := HBR.out.free 0
      have fR1 := HBR.out.free 1
      by_cases hlt : k < Lp
      · obtain ⟨x, hx⟩ : ∃ x, p[k]? = some x := ⟨_, List.getElem?_eq_getElem (by rw [← HPL.out]; exact hlt)⟩
        obtain ⟨bp, op, hA, hb, hc⟩ := (Sl.same HP.out HS1.out).at1 hx
        subst hA
        have hk0 : (0 : Int) ≤ k := by omega
        have hk1 : (k : Int) < Lp := by omega
        have HX := Lib.hid hx
        clear hx
        by_cases h0 : x < 0
        · have he : err = 4 := by rw [← HERR.out, prmB_range HX.out (.inl h0), if_neg (by decide)]
          subst he
          go_wp2
          refine wp_post fun we hwe => ?_
          have hBE : Blk we R 26 #[.int .i64 0, .slice none 0 0] := by
            rw [hwe]
            have := (HBR.out.set 0 (.int .i64 0)).set 1 (.slice none 0 0)
            simpa using this
          have hSE : Same w we := by rw [hwe]; exact (HS1.out.setNew 0 _ leR).setNew 1 _ leR
          have hr0 : we.cell? ⟨R, 0, none⟩ = some (.int .i64 0) := hBE.cell 0
          have hr1 : we.cell? ⟨R, 1, none⟩ = some (.slice none 0 0) := hBE.cell 1
          clear hwe hBE
          refine bodyPost_ret (v := .tuple #[.agg #[.int .i64 0, .slice none 0 0], .int .i64 4]) (by simp [results, Try.results13, go_sem, hr0, hr1]) rfl ?_
          exact ⟨none, 0, rfl, NewT.nil hSE⟩
        by_cases h1 : x ≥ n
        · have he : err = 4 := by rw [← HERR.out, prmB_range HX.out (.inr h1), if_neg (by decide)]
          subst he
          go_wp2
          refine wp_post fun we hwe => ?_
          have hBE : Blk we R 26 #[.int .i64 0, .slice none 0 0] := by
            rw [hwe]
            have := (HBR.out.set 0 (.int .i64 0)).set 1 (.slice none 0 0)
            simpa using this
          have hSE : Same w we := by rw [hwe]; exact (HS1.out.setNew 0 _ leR).setNew 1 _ leR
          have hr0 : we.cell? ⟨R, 0, none⟩ = some (.int .i64 0) := hBE.cell 0
          have hr1 : we.cell? ⟨R, 1, none⟩ = some (.slice none 0 0) := hBE.cell 1
          clear hwe hBE
          refine bodyPost_ret (v := .tuple #[.agg #[.int .i64 0, .slice none 0 0], .int .i64 4]) (by simp [results, Try.results13, go_sem, hr0, hr1]) rfl ?_
          exact ⟨none, 0, rfl, NewT.nil hSE⟩
        obtain ⟨y, rfl⟩ := Int.eq_ofNat_of_zero_le (show 0 ≤ x by omega)
        have hyl : y < n := by omega
        have hyl2 : (y : Int) < n := by omega
        have hy3 : ¬ n ≤ y := by omega
        have hgt := seenL_get p k hyl
        obtain ⟨sb, hsb, hsl, hsc⟩ := Own.at1 (c := fun b : Bool => .bool b) HOD.out hgt
        injection hsb with hsb
        injection hsb with hsb
        subst hsb
        have hfr := Own.free HOD.out y
        clear hgt
        by_cases hd : (y : Int) ∈ p.take k
        · have hd' : decide ((y : Int) ∈ p.take k) = true := by simpa using hd
          rw [hd'] at hsc
          have he : err = 4 := by rw [← HERR.out, prmB_dup HX.out hd, if_neg (by decide)]
          subst he
          clear hd hd'
          go_wp2
          refine wp_post fun we hwe => ?_
          have hBE : Blk we R 26 #[.int .i64 0, .slice none 0 0] := by
            rw [hwe]
            have := (HBR.out.set 0 (.int .i64 0)).set 1 (.slice none 0 0)
            simpa using this
          have hSE : Same w we := by rw [hwe]; exact (HS1.out.setNew 0 _ leR).setNew 1 _ leR
          have hr0 : we.cell? ⟨R, 0, none⟩ = some (.int .i64 0) := hBE.cell 0
          have hr1 : we.cell? ⟨R, 1, none⟩ = some (.slice none 0 0) := hBE.cell 1
          clear hwe hBE
          refine bodyPost_ret (v := .tuple #[.agg #[.int .i64 0, .slice none 0 0], .int .i64 4]) (by simp [results, Try.results13, go_sem, hr0, hr1]) rfl ?_
          exact ⟨none, 0, rfl, NewT.nil hSE⟩
        · have hd' : decide ((y : Int) ∈ p.take k) = false := by simpa using hd
          rw [hd'] at hsc
          have HD := Lib.hid hd
          clear hd hd'
          have hst := Own.put1 (c := fun b : Bool => .bool b) HOD.out (i := y) (by rw [seenL_len]; exact hyl) true
          rw [seenL_set HX.out hyl] at hst
          have HST := Lib.hid hst
          clear hst
          go_wp2
          go_roundw
          case rel => exact ⟨k + 1, by omega, by go_num, HG.out.next HX.out (by omega) (by omega) HD.out, HS1.out.setNew y _ hDn, HBXa.out.far (p := ⟨D, y, none⟩) hneXaD _, HBR.out.far (p := ⟨D, y, none⟩) hneRD _, HST.out⟩
          case measure => simp [intOf]; omega
      · obtain rfl : k = Lp := by omega
        by_cases hln : k ≠ n
        · have he : err = 4 := by rw [← HERR.out, prmB_len (by rw [← HPL.out]; exact hln), if_neg (by decide)]
          subst he
          have hln2 : (k : Int) ≠ n := by omega
          go_wp2
          refine wp_post fun we hwe => ?_
          have hBE : Blk we R 26 #[.int .i64 0, .slice none 0 0] := by
            rw [hwe]
            have := (HBR.out.set 0 (.int .i64 0)).set 1 (.slice none 0 0)
            simpa using this
          have hSE : Same w we := by rw [hwe]; exact (HS1.out.setNew 0 _ leR).setNew 1 _ leR
          have hr0 : we.cell? ⟨R, 0, none⟩ = some (.int .i64 0) := hBE.cell 0
          have hr1 : we.cell? ⟨R, 1, none⟩ = some (.slice none 0 0) := hBE.cell 1
          clear hwe hBE
          refine bodyPost_ret (v := .tuple #[.agg #[.int .i64 0, .slice none 0 0], .int .i64 4]) (by simp [results, Try.results13, go_sem, hr0, hr1]) rfl ?_
          exact ⟨none, 0, rfl, NewT.nil hSE⟩
        obtain rfl : n = k := by omega
        have hPN : PermN n p := prmB_good (by rw [← HPL.out]; exact HG.out) HPL.out.symm
        have he : err = 0 := by rw [← HERR.out, prmB_true.2 hPN, if_pos rfl]
        subst he
        rw [show ansN n 0 = n from rfl, show ansL (tab n (renF n p wsa)) 0 = tab n (renF n p wsa) from rfl]
        have hsgl := fun (j k : Nat) (h : k ≤ n) => sg_lt hPN j k h
        have hsgo := fun (j k : Nat) (h : k < n) => sg_or hPN j h
        have hpvl := fun (v : Nat) (h : v < n) => hPN.lt h
        have hp0 : ∀ x ∈ p, 0 ≤ x := fun x hx => (hPN.perm.1 x hx).1
        have hset := fun (k : Nat) (h : k < 2 ^ n) => ren_word (ws := wsa) hPN h
        have hfull : tab n (renP n p wsa (2 ^ n)) = tab n (renF n p wsa) := tab_congr fun i _ => renP_full i
        have hdl : ∀ i, i < 2 ^ n → i / 64 < nw n := fun i hi => div_lt_nw hi
        have hdl2 : ∀ i, i < 2 ^ n → ∃ x, wsa[i / 64]? = some x := fun i hi => ⟨_, List.getElem?_eq_getElem (by rw [HFa.out.len]; exact div_lt_nw hi)⟩
        have hsw := pow_lt_shift hn
        have hsw2 := pow_lt_shift2 hn
        have hp16 := pow_le16 hn
        have hn0 : (0 : Int) ≤ n := by omega
        have hmn : min n 64 = n := by omega
        have hen : ∀ (args : Array Value) (w : World), (callFunc 27 args).run Try.prog w = .ok (.enter 27 args) w := enters_of Try.func27 (by kernel_rfl) rfl
        have HEN := Lib.hid hen
        have htl : Tells wr n 27 #[] (fun _ => 0) := fun i hi => ⟨by show (0 : Nat) < 18446744073709551616; omega, fun w' hs' => by
          refine (ren1_any i w').mono ?_
          rintro e w'' ⟨rfl, rfl⟩
          exact ⟨rfl, Frm.refl _ _⟩⟩
        have HTL := Lib.hid htl
        have hmf : ∀ (fn : Fn) (first cap : Array Value) (w : World), (Instr.makeFunc fn first cap).run Try.prog w = .ok (.func fn first cap) w := fun _ _ _ _ => rfl
        obtain ⟨M, hM⟩ : ∃ M, 2 ^ n = M := ⟨_, rfl⟩
        rw [hM] at hsgl hset hfull hdl hdl2 hsw hsw2 hp16
        have HSG := Lib.hid hsgl
        have HSO := Lib.hid hsgo
        have HPV := Lib.hid hpvl
        have HP0 := Lib.hid hp0
        have HSET := Lib.hid hset
        have HFULL := Lib.hid hfull
        have HDL := Lib.hid hdl
        have HDL2 := Lib.hid hdl2
        clear hsgl hsgo hpvl hp0 hset hfull hdl hdl2 hen htl hM hPN
        go_wp2_with (fail)
        refine (laid_any n 27 #[] (fun _ => 0) wr hn HEN.out HTL.out).mono ?_
        rintro e w6 ⟨Aq, Cq, rfl, hNT⟩
        rw [ren_zero n p wsa] at hNT ⊢
        obtain ⟨sb, rfl, hsbl⟩ := Own.form1 hNT.1 (by rw [tab_len]; exact nw_pos n)
        have hsbn : wr.heap.size ≤ sb := hNT.2.1 sb ⟨_, rfl, rfl⟩
        have hOT := hNT.1
        have hsv := hNT.2.2
        rw [tab_len] at hOT ⊢
        obtain ⟨K, hK⟩ : ∃ K, nw n = K := ⟨_, rfl⟩
        rw [hK] at hOT HDL ⊢
        have hneXs : w.heap.size ≠ sb := by omega
        have hneRs : R ≠ sb := by omega
        have hsbW : w.heap.size ≤ sb := by omega
        have HOT := Lib.hid hOT
        have hKl : (ansL (tab n (renF n p wsa)) 0).length = K := by rw [show ansL (tab n (renF n p wsa)) 0 = tab n (renF n p wsa) from rfl, tab_len, hK]
        have HKL := Lib.hid hKl
        have hKn := fun k => (tab_len n (renP n p wsa k)).trans hK
        have HKN := Lib.hid hKn
        clear hNT hOT hK hKl hKn hneXaD hneRD hDn HOD
        replace HBXa := Lib.hid (HBXa.out.frm hsv id)
        replace HBR := Lib.hid (HBR.out.frm hsv id)
        replace HS1 := Lib.hid (HS1.out.trans hsv (fun _ _ h => h))
        clear cXa0 cXa1 lXa cR0 cR1 lR fR0 fR1
        have cXa0 : w6.cell? ⟨w.heap.size, 0, none⟩ = some (.int .i64 n) := HBXa.out.cell 0
        have cXa1 : w6.cell? ⟨w.heap.size, 1, none⟩ = some (.slice Aa wsa.length Ca) := HBXa.out.cell 1
        have lXa := HBXa.out.lt
        have cR0 : w6.cell? ⟨R, 0, none⟩ = some (.int .i64 0) := HBR.out.cell 0
        have cR1 : w6.cell? ⟨R, 1, none⟩ = some (.slice none 0 0) := HBR.out.cell 1
        have lR := HBR.out.lt
        have fR0 := HBR.out.free 0
        have fR1 := HBR.out.free 1
        go_upto_region 14 with fail
        refine wp_world fun w7 hw7 => ?_
        have hsv : Same w6 w7 := by rw [hw7]; exact (Frm.refl _ _).alloc _
        have hBT : Blk w7 w6.heap.size 26 #[.int .i64 n, .slice (some ⟨sb, 0, none⟩) K Cq] := by rw [hw7]; exact Blk.new _ _ _
        clear hw7
        replace HBXa := Lib.hid (HBXa.out.frm hsv id)
        replace HBR := Lib.hid (HBR.out.frm hsv id)
        replace HS1 := Lib.hid (HS1.out.trans hsv (fun _ _ h => h))
        replace HOT := Lib.hid (Own.frm HOT.out hsv (fun _ _ => id))
        obtain ⟨T, hT⟩ : ∃ b, w6.heap.size = b := ⟨_, rfl⟩
        rw [hT] at hBT ⊢
        have hneTs : T ≠ sb := by omega
        have HBT := Lib.hid hBT
        clear hT hBT hsv hsbl cXa0 cXa1 lXa cR0 cR1 lR fR0 fR1
        have cXa0 : w7.cell? ⟨w.heap.size, 0, none⟩ = some (.int .i64 n) := HBXa.out.cell 0
        have cXa1 : w7.cell? ⟨w.heap.size, 1, none⟩ = some (.slice Aa wsa.length Ca) := HBXa.out.cell 1
        have lXa := HBXa.out.lt
        have cR0 : w7.cell? ⟨R, 0, none⟩ = some (.int .i64 0) := HBR.out.cell 0
        have cR1 : w7.cell? ⟨R, 1, none⟩ = some (.slice none 0 0) := HBR.out.cell 1
        have lR := HBR.out.lt
        have fR0 := HBR.out.free 0
        have fR1 := HBR.out.free 1
        go_wp2
        go_loopw [59] (fun i wr => ∃ k : Nat, k ≤ M ∧ i = .int .i64 k ∧ Same w wr ∧ Blk wr w.heap.size 26 #[.int .i64 n, .slice Aa wsa.length Ca] ∧ Blk wr R 26 #[.int .i64 0, .slice none 0 0] ∧ Blk wr T 26 #[.int .i64 n, .slice (some ⟨sb, 0, none⟩) K Cq] ∧ OwnW wr (some ⟨sb, 0, none⟩) K Cq (tab n (renP n p wsa k))) (fun i _ => M - (intOf i).toNat)
        case atStart => exact ⟨0, by omega, rfl, HS1.out, HBXa.out, HBR.out, HBT.out, HOT.out⟩
        case round =>
          obtain ⟨k, hk, rfl, hs, hBXa, hBR, hBT, hOT⟩ := hrel
          replace HS1 := Lib.hid hs
          replace HBXa := Lib.hid hBXa
          replace HBR := Lib.hid hBR
          replace HBT := Lib.hid hBT
          replace HOT := Lib.hid hOT
          clear cXa0 cXa1 lXa cR0 cR1 lR fR0 fR1 hs hBXa hBR hBT hOT
          by_cases hltM : k < M
          · have hk0 : (0 : Int) ≤ k := by omega
            have hk1 : (k : Int) < M := by omega
            go_wp2
            refine wp_world fun wq hwq => ?_
            subst hwq
            go_loopw [11, 64] (fun s i wi => ∃ m : Nat, m ≤ n ∧ i = .int .i64 m ∧ s = .int .i64 (sg p k m : Nat) ∧ wq = wi) (fun _ i _ => n - (intOf i).toNat)
            case atStart => exact ⟨0, by omega, rfl, rfl, rfl⟩
            case round =>
              obtain ⟨m, hm, rfl, rfl, rfl⟩ := hrel
              have hsl := HSG.out k m (by omega)
              by_cases hlm : m < n
              · obtain ⟨x, hx⟩ : ∃ x, p[m]? = some x := ⟨_, List.getElem?_eq_getElem (by rw [← HPL.out]; exact hlm)⟩
                obtain ⟨bp, op, hA, hb, hc⟩ := (Sl.same HP.out HS1.out).at1 hx
                have hpv := HPV.out m hlm
                have hx0 := HP0.out x (List.mem_of_getElem? hx)
                have hor := HSO.out k m hlm
                rw [pv_get hx] at hpv hor
                obtain ⟨u, rfl⟩ := Int.eq_ofNat_of_zero_le hx0
                rw [Int.toNat_natCast] at hpv hor
                subst hA
                have hm0 : (0 : Int) ≤ m := by omega
                have hm1 : (m : Int) < n := by omega
                obtain ⟨q, b, c, hd1, hd2, hd3, hd5, hd4, hc16, hb2, hq16, hd6⟩ := step_i (k := k) (m := m) (u := u) (by omega) (by omega) (by omega) hor
                have hu0 : (0 : Int) ≤ u := by omega
                have hmu : min u 64 = u := by omega
                have hmm : min m 64 = m := by omega
                clear hor hx
                go_wp2
                go_roundw
                case rel => exact ⟨m + 1, by omega, by go_num, rfl, trivial⟩
                case measure => simp [intOf]; omega
              · have hmn : m = n := by omega
                subst hmn
                obtain ⟨y, hy⟩ := HDL2.out k hltM
                have hyl := H.out.small.at1 hy
                have hkl : k / 64 < wsa.length := lt_get hy
                have hvb : vb wsa k = y.testBit (k % 64) := by unfold vb; rw [List.getD_eq_getElem?_getD, hy]; rfl
                obtain ⟨ba, offa, hAa, hbla, hca⟩ := WL.at1 (Sl.same H.out.wl HS1.out) hy
                simp only at hAa
                subst hAa
                have hset := HSET.out k hltM
                have hdk := HDL.out (sg p k m) hsl
                have hget : (tab m (renP m p wsa k))[sg p k m / 64]? = some (word m (renP m p wsa k) (sg p k m / 64)) := tab_get (by have := HKN.out k; rw [tab_len] at this; rw [this]; exact hdk)
                have hwl := word_lt m (renP m p wsa k) (sg p k m / 64)
                obtain ⟨sb', hsb', hsl2, hsc⟩ := HOT.out.at1 (c := fun x : Nat => .int .u64 (x : Int)) hget
                injection hsb' with hsb'
                injection hsb' with hsb'
                subst hsb'
                have hst := fun (w' : World) (hs' : Same wq w') => Own.put1 (c := fun x : Nat => .int .u64 (x : Int)) (Own.frm HOT.out hs' (fun _ _ => id)) (i := sg p k m / 64) (by rw [HKN.out]; exact hdk) (word m (renP m p wsa k) (sg p k m / 64) ||| (if vb wsa k then 1 else 0) * 2 ^ (sg p k m % 64))
                rw [hset] at hst
                obtain ⟨hn1, hn2, hr1, hm1, hq2⟩ := dm64 k
                obtain ⟨hn3, hn4, hr2, hm2, hq4⟩ := dm64 (sg p k m)
                have hq1 : ((k / 64 : Nat) : Int) < wsa.length := Int.ofNat_lt.2 hkl
                have hq3 : ((sg p k m / 64 : Nat) : Int) < K := Int.ofNat_lt.2 hdk
                have hcT : _ = some (Value.slice (some ⟨sb, 0, none⟩) K Cq) := HBT.out.cell 1
                have hlT := HBT.out.lt
                have hcX : _ = some (Value.slice (some ⟨ba, offa, none⟩) wsa.length Ca) := HBXa.out.cell 1
                have hlX := HBXa.out.lt
                obtain ⟨z, b, bp, he1, he2, he3, he4, hb1, hz64, hbp64⟩ := step_w (x := word m (renP m p wsa k) (sg p k m / 64)) (y := y) (r1 := k % 64) (r2 := sg p k m % 64) (v := vb wsa k) hwl hyl hr2 hvb
                have hHST := Lib.hid hst
                clear hst hset hget hy hvb
                generalize word m (renP m p wsa k) (sg p k m / 64) ||| (if vb wsa k then 1 else 0) * 2 ^ (sg p k m % 64) = nx at *
                generalize word m (renP m p wsa k) (sg p k m / 64) = x at *
                generalize sg p k m % 64 = r2 at *
                generalize sg p k m / 64 = q2 at *
                generalize sg p k m = sk at *
                generalize k % 64 = r1 at *
                generalize k / 64 = q1 at *
                go_upto_region 23 with fail
                refine wp_quiet_tail 21 (by kernel_rfl) (by kernel_rfl) ?_
                simp only [List.take_succ_cons, List.take_zero, List.drop_succ_cons, List.drop_zero]
                repeat (any_goals (first | go_big_quiet_step (fail) | quiet_step (fail)))
                refine wpQuiet_nil ?_
                rintro wz ⟨q, hq⟩
                have hsz : Same wq wz := by rw [hq]; exact more_same _ q
                have hfz := Own.free (Own.frm HOT.out hsz (fun _ _ => id)) q2
                have hcz := (hsz.cell (p := ⟨sb, q2, none⟩) hsl2 id).trans hsc
                have HSZ := Lib.hid ((HS1.out.trans hsz (fun _ _ h => h)).setNew (g := sb) q2 (.int .u64 (nx : Int)) hsbW)
                have HBXz := Lib.hid ((HBXa.out.frm hsz id).far (p := ⟨sb, q2, none⟩) hneXs (.int .u64 (nx : Int)))
                have HBRz := Lib.hid ((HBR.out.frm hsz id).far (p := ⟨sb, q2, none⟩) hneRs (.int .u64 (nx : Int)))
                have HBTz := Lib.hid ((HBT.out.frm hsz id).far (p := ⟨sb, q2, none⟩) hneTs (.int .u64 (nx : Int)))
                have HOZ := Lib.hid (hHST.out wz hsz)
                have hsbz : sb < wz.heap.size := Nat.lt_of_lt_of_le hsl2 hsz.size
                clear hq hsz hsc hsl2 hcT hlT hcX hlX hca hbla hn1 hn2 hn3 hn4 he1 he2 he3 he4 hm1 hm2
                go_wp2
                go_roundw
                case rel => exact ⟨k + 1, hltM, by go_num, HSZ.out, HBXz.out, HBRz.out, HBTz.out, HOZ.out⟩
                case measure => simp [intOf]; omega
          · obtain rfl : k = M := by omega
            rw [HFULL.out] at HOT
            have cT0 : _ = some (Value.int .i64 n) := HBT.out.cell 0
            have cT1 : _ = some (Value.slice (some ⟨sb, 0, none⟩) K Cq) := HBT.out.cell 1
            have lT := HBT.out.lt
            have cR0 : wr.cell? ⟨R, 0, none⟩ = some (.int .i64 0) := HBR.out.cell 0
            have cR1 : wr.cell? ⟨R, 1, none⟩ = some (.slice none 0 0) := HBR.out.cell 1
            have lR := HBR.out.lt
            have fR0 := HBR.out.free 0
            have fR1 := HBR.out.free 1
            go_wp2
            refine wp_post fun we hwe => ?_
            have hBE : Blk we R 26 #[.int .i64 n, .slice (some ⟨sb, 0, none⟩) K Cq] := by
              rw [hwe]
              have := (HBR.out.set 0 (.int .i64 n)).set 1 (.slice (some ⟨sb, 0, none⟩) K Cq)
              simpa using this
            have hSE : Same w we := by rw [hwe]; exact (HS1.out.setNew 0 _ leR).setNew 1 _ leR
            have hOE : OwnW we (some ⟨sb, 0, none⟩) K Cq (tab n (renF n p wsa)) := by
              rw [hwe]
              exact (Own.far (p := ⟨R, 0, none⟩) HOT.out (fun a ha h => by injection ha with ha; subst ha; exact hneRs h.symm) _).far (p := ⟨R, 1, none⟩) (fun a ha h => by injection ha with ha; subst ha; exact hneRs h.symm) _
            have hr0 : we.cell? ⟨R, 0, none⟩ = some (.int .i64 n) := hBE.cell 0
            have hr1 : we.cell? ⟨R, 1, none⟩ = some (.slice (some ⟨sb, 0, none⟩) K Cq) := hBE.cell 1
            clear hwe hBE
            refine bodyPost_ret (v := .tuple #[.agg #[.int .i64 n, .slice (some ⟨sb, 0, none⟩) K Cq], .int .i64 0]) (by simp [results, Try.results13, go_sem, hr0, hr1]) rfl ?_
            refine ⟨some ⟨sb, 0, none⟩, Cq, by rw [HKL.out]; rfl, ?_, fresh_some hsbW, hSE⟩
            rw [HKL.out]
            exact hOE
end Go.Proofs.Ytaakjecnompogaa


/- Truth tables: renamings there, back, one behind the other: plain. -/
namespace Go.Tk

/-- back, after k variables -/
def bkL (n : Nat) (p : List Int) : Nat → List Int
  | 0 => List.replicate n 0
  | k + 1 => (bkL n p k).set (pv p k) (k : Int)
/-- both, after k variables -/
def boL (n : Nat) (p q : List Int) : Nat → List Int
  | 0 => List.replicate n 0
  | k + 1 => (boL n p q k).set k (q.getD (pv p k) 0)
theorem bkL_len (n : Nat) (p : List Int) : ∀ k, (bkL n p k).length = n
  | 0 => by simp [bkL]
  | k + 1 => by rw [bkL, List.length_set, bkL_len n p k]
theorem boL_len (n : Nat) (p q : List Int) : ∀ k, (boL n p q k).length = n
  | 0 => by simp [boL]
  | k + 1 => by rw [boL, List.length_set, boL_len n p q k]
theorem bkL_get {n : Nat} {p : List Int} (h : PermN n p) : ∀ k, k ≤ n → ∀ v, v < k → (bkL n p k)[pv p v]? = some (v : Int)
  | 0, _, v, hv => by omega
  | k + 1, hk, v, hv => by
    have hl := h.lt (v := v) (by omega)
    rw [bkL, List.getElem?_set, bkL_len]
    by_cases he : pv p k = pv p v
    · obtain rfl := h.inj (by omega) (by omega) he
      rw [if_pos he, if_pos hl]
    · rw [if_neg he]
      exact bkL_get h k (by omega) v (by
        have : v ≠ k := fun hvk => he (by rw [hvk])
        omega)
theorem boL_get {n : Nat} {p q : List Int} : ∀ k, k ≤ n → ∀ v, v < k → (boL n p q k)[v]? = some (q.getD (pv p v) 0)
  | 0, _, v, hv => by omega
  | k + 1, hk, v, hv => by
    rw [boL, List.getElem?_set, boL_len]
    by_cases he : k = v
    · subst he
      rw [if_pos rfl, if_pos (by omega)]
    · rw [if_neg he]
      exact boL_get k (by omega) v (by omega)
theorem permN_of {n : Nat} {l : List Int} (hl : l.length = n) (h : ∀ t, t < n → ∃ u : Nat, u < n ∧ l[t]? = some (u : Int)) (inj : ∀ s t, s < n → t < n → l[s]? = l[t]? → s = t) : PermN n l := by
  refine ⟨hl, fun x hx => ?_, ?_⟩
  · obtain ⟨t, ht⟩ := List.getElem?_of_mem hx
    have htl := lt_get ht
    obtain ⟨u, hu, he⟩ := h t (by omega)
    rw [ht] at he
    injection he with he
    omega
  · rw [List.nodup_iff_pairwise_ne, List.pairwise_iff_getElem]
    intro i j hi hj hij he
    have := inj i j (by omega) (by omega) (by rw [List.getElem?_eq_getElem hi, List.getElem?_eq_getElem hj, he])
    omega
theorem PermN.get {n : Nat} {p : List Int} (h : PermN n p) {v : Nat} (hv : v < n) : p[v]? = some (pv p v : Int) := by
  have hg : p[v]? = some p[v]! := by
    rw [List.getElem?_eq_getElem (by rw [h.len]; exact hv)]
    simp [List.getElem!_eq_getElem?_getD, List.getElem?_eq_getElem (show v < p.length by rw [h.len]; exact hv)]
  rw [hg, pv_get hg]
  have := h.perm.1 _ (List.mem_of_getElem? hg)
  congr 1
  omega
theorem bkL_perm {n : Nat} {p : List Int} (h : PermN n p) : PermN n (bkL n p n) := by
  refine permN_of (bkL_len _ _ _) (fun t ht => ?_) fun s t hs ht he => ?_
  · obtain ⟨v, hv, rfl⟩ := h.onto ht
    exact ⟨v, hv, bkL_get h n (Nat.le_refl _) v hv⟩
  · obtain ⟨u, hu, rfl⟩ := h.onto hs
    obtain ⟨v, hv, rfl⟩ := h.onto ht
    rw [bkL_get h n (Nat.le_refl _) u hu, bkL_get h n (Nat.le_refl _) v hv] at he
    injection he with he
    have : u = v := by omega
    rw [this]
theorem boL_perm {n : Nat} {p q : List Int} (h : PermN n p) (hq : PermN n q) : PermN n (boL n p q n) := by
  have hg : ∀ v, v < n → (boL n p q n)[v]? = some (pv q (pv p v) : Int) := fun v hv => by
    rw [boL_get n (Nat.le_refl _) v hv, List.getD_eq_getElem?_getD, hq.get (h.lt hv)]
    rfl
  refine permN_of (boL_len _ _ _ _) (fun t ht => ⟨_, hq.lt (h.lt ht), hg t ht⟩) fun s t hs ht he => ?_
  rw [hg s hs, hg t ht] at he
  injection he with he
  exact h.inj hs ht (hq.inj (h.lt hs) (h.lt ht) (by omega))
theorem tau_bit {n : Nat} {p : List Int} (i v : Nat) : (tau n p i).testBit v = (decide (v < n) && i.testBit (pv p v)) := bsum_bit _ _ _
theorem tau_lt {n : Nat} {p : List Int} (i : Nat) : tau n p i < 2 ^ n := bsum_lt _ _
theorem pv_bk {n : Nat} {p : List Int} (h : PermN n p) {v : Nat} (hv : v < n) : pv (bkL n p n) (pv p v) = v := by
  rw [pv_get (bkL_get h n (Nat.le_refl _) v hv)]
  simp
theorem pv_bo {n : Nat} {p q : List Int} (h : PermN n p) (hq : PermN n q) {v : Nat} (hv : v < n) : pv (boL n p q n) v = pv q (pv p v) := by
  rw [pv_get (boL_get n (Nat.le_refl _) v hv), List.getD_eq_getElem?_getD, hq.get (h.lt hv)]
  simp
theorem high_bit {n i t : Nat} (hi : i < 2 ^ n) (ht : ¬ t < n) : i.testBit t = false := Nat.testBit_lt_two_pow (Nat.lt_of_lt_of_le hi (Nat.pow_le_pow_right (by omega) (by omega)))
theorem ren_back {n : Nat} {p : List Int} {ws : List Nat} (hf : FormN n ws) (hb : ∀ x ∈ ws, x < 18446744073709551616) (h : PermN n p) : tab n (renF n (bkL n p n) (tab n (renF n p ws))) = ws := by
  refine Eq.trans (tab_congr fun i hi => ?_) (tab_vb hf hb)
  unfold renF
  rw [vb_tab (tau_lt i)]
  congr 1
  apply Nat.eq_of_testBit_eq
  intro v
  rw [tau_bit]
  by_cases hv : v < n
  · rw [tau_bit, pv_bk h hv]
    simp [hv, h.lt hv]
  · rw [high_bit hi hv]
    simp [hv]
theorem ren_both {n : Nat} {p q : List Int} {ws : List Nat} (h : PermN n p) (hq : PermN n q) : tab n (renF n q (tab n (renF n p ws))) = tab n (renF n (boL n p q n) ws) := by
  refine tab_congr fun i hi => ?_
  unfold renF
  rw [vb_tab (tau_lt i)]
  congr 1
  apply Nat.eq_of_testBit_eq
  intro v
  rw [tau_bit, tau_bit]
  by_cases hv : v < n
  · rw [tau_bit, pv_bo h hq hv]
    simp [h.lt hv, hv]
  · simp [hv, tau_bit]
theorem tau_inj {n : Nat} {p : List Int} (h : PermN n p) {i j : Nat} (hi : i < 2 ^ n) (hj : j < 2 ^ n) (he : tau n p i = tau n p j) : i = j := by rw [← sg_tau h hi, he, sg_tau h hj]
theorem ren_cnt {n : Nat} {p : List Int} {ws : List Nat} (h : PermN n p) : cntB (vb (tab n (renF n p ws))) (2 ^ n) = cntB (vb ws) (2 ^ n) := by
  rw [cntB_congr (G := fun i => vb ws (tau n p i)) fun j hj => by rw [vb_tab hj]; rfl]
  exact cntB_perm (fun i _ => tau_lt i) fun i j hi hj he => tau_inj h hi hj he
theorem tau_wth {n : Nat} {p : List Int} (h : PermN n p) {v : Nat} (hv : v < n) (i : Nat) (b : Bool) : tau n p (wth i (pv p v) b) = wth (tau n p i) v b := by
  refine wth_of fun j => ?_
  rw [tau_bit, tau_bit, wth_bit]
  by_cases hj : j = v
  · subst hj; simp [hv]
  · rw [if_neg hj]
    by_cases hjn : j < n
    · rw [if_neg (fun he => hj (h.inj hjn hv he))]
    · simp [hjn]
end Go.Tk
namespace Go.Proofs.Ytaakjecnompogaa
open Go.RowKit Go.Tk

theorem ren_dep {n : Nat} {p : List Int} {ws : List Nat} (h : PermN n p) {v : Nat} (hv : v < n) : depB n (tab n (renF n p ws)) (pv p v) = depB n ws v := by
  have key : ∀ i, i < 2 ^ n → ∀ b, hfF (pv p v) b (tab n (renF n p ws)) i = hfF v b ws (tau n p i) := fun i hi b => by
    unfold hfF
    rw [vb_tab (wth_lt hi (h.lt hv))]
    unfold renF
    rw [tau_wth h hv]
  cases hd : depB n ws v with
  | false =>
    refine depB_false fun i hi => ?_
    rw [key i hi, key i hi]
    exact depB_eq hd (tau_lt i)
  | true =>
    by_cases hall : ∀ i, i < 2 ^ n → hfF v false ws i = hfF v true ws i
    · rw [depB_false hall] at hd; cases hd
    · obtain ⟨i, hi⟩ := Classical.not_forall.1 hall
      obtain ⟨hin, hne⟩ := Classical.not_imp.1 hi
      have hsl := sg_lt h i n (Nat.le_refl _)
      refine depB_true hsl ?_
      rw [key _ hsl, key _ hsl, tau_sg h hin]
      exact hne
theorem ren_sup {n : Nat} {p : List Int} {ws : List Nat} (h : PermN n p) : bsum (depB n (tab n (renF n p ws))) n = sg p (bsum (depB n ws) n) n := by
  obtain ⟨h1, h2⟩ := sg_bits h (bsum (depB n ws) n) n (Nat.le_refl _)
  apply Nat.eq_of_testBit_eq
  intro t
  rw [bsum_bit]
  by_cases ht : t < n
  · obtain ⟨v, hv, rfl⟩ := h.onto ht
    rw [h1 v hv, bsum_bit, ren_dep h hv]
    simp [hv, ht]
  · rw [h2 t fun v hv he => ht (by rw [← he]; exact h.lt hv)]
    simp [ht]
theorem step_u {k u s m t : Nat} (hs : s < 18446744073709551616) (hu : u < 16) (hm : m < 65536) (ht : m ||| (s / 2 ^ k % 2) * 2 ^ u = t) :
    ∃ q b c : Nat, (s : Int) / 2 ^ k = (q : Int) ∧ bits .and .u64 (q : Int) 1 = (b : Int) ∧ IntKind.u64.wrap ((b : Int) * 2 ^ u) = (c : Int) ∧ bits .or .u64 (m : Int) (c : Int) = (t : Int) ∧ b < 2 ∧ q < 18446744073709551616 ∧ c < 18446744073709551616 := by
  have hqk : s / 2 ^ k ≤ s := Nat.div_le_self _ _
  have hd2 := u64_and_nat (s / 2 ^ k) 1 (by omega) (by omega)
  rw [nat_mask1] at hd2
  have hb2 : s / 2 ^ k % 2 < 2 := Nat.mod_lt _ (by omega)
  have hc := mul_le16 hb2 hu
  refine ⟨s / 2 ^ k, s / 2 ^ k % 2, (s / 2 ^ k % 2) * 2 ^ u, by rw [pow_int]; exact (Int.natCast_ediv _ _).symm, hd2, ?_, ?_, hb2, by omega, by omega⟩
  · rw [pow_int, ← Int.natCast_mul]
    generalize (s / 2 ^ k % 2) * 2 ^ u = c at hc
    exact IntWalk.u64_in _ (by omega)
  · rw [← ht]
    generalize (s / 2 ^ k % 2) * 2 ^ u = c at hc
    exact u64_or_nat m c (by omega) (by omega)
end Go.Proofs.Ytaakjecnompogaa


/- Permutations: Swapped of the program; Turned and DocSwapped of the reference. -/
namespace Go.Proofs.Ytaakjecnompogaa
open Go.RowKit Go.Tk

theorem swp_get (p : List Int) (l : Nat) {a b : Int} (ha : p[l]? = some a) (hb : p[l + 1]? = some b) : swp p l = (p.set l b).set (l + 1) a := by
  unfold swp
  simp [List.getD_eq_getElem?_getD, ha, hb]
/-- what Swapped answers -/
def swE (p : List Int) (l : Int) : Int := if l < 0 ∨ (p.length : Int) - 2 < l then 1 else chk p
def swL (p : List Int) (l : Int) : List Int := if swE p l = 0 then swp p l.toNat else []

end Go.Proofs.Ytaakjecnompogaa


/- Permutations: Identity, Inverse, Compose, Changes of both. -/
namespace Go.Proofs.Ytaakjecnompogaa
open Go.RowKit Go.Tk

/-- f at the first k places, noughts behind them -/
def fillL (f : Nat → Int) (n k : Nat) : List Int := (List.range n).map fun j : Nat => if j < k then f j else 0
theorem fillL_len (f : Nat → Int) (n k : Nat) : (fillL f n k).length = n := by simp [fillL]
theorem fillL_zero (f : Nat → Int) (n : Nat) : fillL f n 0 = List.replicate n 0 := by
  apply List.ext_getElem?
  intro j
  rcases Nat.lt_or_ge j n with h | h
  · simp [fillL, h]
  · rw [List.getElem?_eq_none (by rw [fillL_len]; exact h), List.getElem?_eq_none (by simpa using h)]
theorem fillL_full (f : Nat → Int) {n : Nat} {ys : List Int} (hl : ys.length = n) (h : ∀ j, j < n → ys[j]? = some (f j)) : fillL f n n = ys := by
  apply List.ext_getElem?
  intro j
  rcases Nat.lt_or_ge j n with hj | hj
  · rw [h j hj]; simp [fillL, hj]
  · rw [List.getElem?_eq_none (by rw [fillL_len]; exact hj), List.getElem?_eq_none (by omega)]
theorem fillL_set (f : Nat → Int) {n k : Nat} : (fillL f n k).set k (f k) = fillL f n (k + 1) := by
  apply List.ext_getElem?
  intro j
  rcases Nat.lt_or_ge j n with hj | hj
  · rw [List.getElem?_set, fillL_len]
    simp only [fillL, List.getElem?_map, List.getElem?_range hj, Option.map_some]
    split
    · rename_i he; subst he; simp; omega
    · rename_i he
      congr 1
      by_cases h : j < k
      · rw [if_pos h, if_pos (by omega)]
      · rw [if_neg h, if_neg (by omega)]
  · rw [List.getElem?_eq_none (by simp [fillL_len, hj]), List.getElem?_eq_none (by rw [fillL_len]; exact hj)]
/-- the places of the first k things -/
def invP (p : List Int) (k : Nat) : List Int := (List.range p.length).map fun j : Nat => if (j : Int) ∈ p.take k then plc p j else 0
theorem invP_len (p : List Int) (k : Nat) : (invP p k).length = p.length := by simp [invP]
theorem invP_zero (p : List Int) : invP p 0 = List.replicate p.length 0 := by
  apply List.ext_getElem?
  intro j
  rcases Nat.lt_or_ge j p.length with h | h
  · simp [invP, h]
  · rw [List.getElem?_eq_none (by rw [invP_len]; exact h), List.getElem?_eq_none (by simpa using h)]
theorem invL_get (p : List Int) {j : Nat} (h : j < p.length) : (invL p)[j]? = some (plc p j) := by simp [invL, rng_get h]
theorem invP_full {p : List Int} (h : IsPerm p) : invP p p.length = invL p := by
  apply List.ext_getElem?
  intro j
  rcases Nat.lt_or_ge j p.length with hj | hj
  · rw [invL_get p hj]
    simp [invP, hj, h.mem hj]
  · rw [List.getElem?_eq_none (by rw [invP_len]; exact hj), List.getElem?_eq_none (by rw [invL_len]; exact hj)]
theorem invP_set {p : List Int} (hn : p.Nodup) {k x : Nat} (h : p[k]? = some (x : Int)) : (invP p k).set x (k : Int) = invP p (k + 1) := by
  apply List.ext_getElem?
  intro j
  rcases Nat.lt_or_ge j p.length with hj | hj
  · rw [List.getElem?_set, invP_len]
    simp only [invP, List.getElem?_map, List.getElem?_range hj, Option.map_some, take_snoc h, List.mem_append, List.mem_singleton]
    split
    · rename_i he; subst he; simp [plc_get hn h]; omega
    · rename_i he
      have : ¬ ((j : Int) = (x : Int)) := by omega
      simp [this]
  · rw [List.getElem?_eq_none (by simp [invP_len, hj]), List.getElem?_eq_none (by rw [invP_len]; exact hj)]

def inE (p : List Int) : Int := chk p
def inL (p : List Int) : List Int := if chk p = 0 then invL p else []
end Go.Proofs.Ytaakjecnompogaa


/- Permutations: Inversions of both. -/
namespace Go.Proofs.Ytaakjecnompogaa
open Go.RowKit Go.Tk

theorem invC_le (p : List Int) : invC p ≤ p.length * p.length := by
  induction p with
  | nil => simp [invC]
  | cons x p ih =>
    have := List.countP_le_length (p := fun y => decide (x > y)) (l := p)
    simp only [invC, List.length_cons]
    rw [Nat.add_mul, Nat.mul_add]
    omega
theorem invC_le64 {p : List Int} (h : p.length ≤ 64) : invC p ≤ 4096 := Nat.le_trans (invC_le p) (Nat.mul_le_mul h h)
def incN (xs : List Int) : Nat := if chk xs = 0 then invC xs else 0
theorem countP_snoc {α : Type} (f : α → Bool) (l : List α) (x : α) : (l ++ [x]).countP f = l.countP f + if f x then 1 else 0 := by
  rw [List.countP_append, List.countP_cons, List.countP_nil, Nat.zero_add]

theorem drop_cons {α : Type} {l : List α} {k : Nat} {x : α} (h : l[k]? = some x) : l.drop k = x :: l.drop (k + 1) := by
  have hl := lt_of_get h
  rw [List.getElem?_eq_getElem hl] at h
  injection h with h
  rw [List.drop_eq_getElem_cons hl, h]
end Go.Proofs.Ytaakjecnompogaa


/- Permutations: Compose, Identity, Changes of both. -/
namespace Go.Proofs.Ytaakjecnompogaa
open Go.RowKit Go.Tk

theorem compL_len (p q : List Int) : (compL p q).length = q.length := by simp [compL]
theorem compL_get (p q : List Int) {j : Nat} {x : Int} (h : q[j]? = some x) : (compL p q)[j]? = some (p.getD x.toNat 0) := by simp [compL, h]
def coL (p q : List Int) : List Int := if both p q = 0 then compL p q else []
end Go.Proofs.Ytaakjecnompogaa


/- Permutations: Identity, Changes of both. -/
namespace Go.Proofs.Ytaakjecnompogaa
open Go.RowKit Go.Tk

/-- what Identity answers -/
def idE (n : Int) : Int := if n < 0 ∨ 64 < n then 1 else 0
def idR (n : Int) : List Int := if n < 0 ∨ 64 < n then [] else rng n.toNat
/-- the exchanges that go through all orders -/
def chL (k : Int) : List Int := if k = 2 then [0] else if k = 3 then [1, 0, 1, 0, 1] else if k = 4 then [2, 1, 0, 2, 0, 1, 2, 0, 2, 1, 0, 2, 0, 1, 2, 0, 2, 1, 0, 2, 0, 1, 2] else []
def chE (k : Int) : Int := if k = 2 ∨ k = 3 ∨ k = 4 then 0 else 1
theorem lit_new (w : World) (ys : List Int) (hm : ys.length ≤ 1000) {cs : Array Value} (hcs : cs = (ys.flatMap icell).toArray) : NewL w ys (some ⟨w.heap.size, 0, none⟩) ys.length (w.alloc (.cells cs 3)) :=
  ⟨Own.lit w 3 icell (fun _ => rfl) ys (show ys.length ≤ 9223372036854775807 by omega) hcs, fresh_some (Nat.le_refl _), (Frm.refl _ _).alloc _⟩
end Go.Proofs.Ytaakjecnompogaa


/- Permutations: Path of both. -/
namespace Go.Proofs.Ytaakjecnompogaa
open Go.RowKit Go.Tk

theorem plc_lt (p : List Int) (x : Int) : plc p x < p.length := by
  unfold plc
  split <;> omega
theorem plc_ge (p : List Int) (x : Int) : -1 ≤ plc p x := by unfold plc; split <;> omega
theorem pst_path_le (p q : List Int) : ∀ k, (pst p q k).2.length ≤ k * p.length
  | 0 => by simp [pst]
  | k + 1 => by
    rw [pst, bub_path, Nat.add_mul, Nat.one_mul]
    have := pst_path_le p q k
    have h1 := plc_lt (pst p q k).1 (q.getD k 0)
    rw [pst_len] at h1
    omega
theorem pst_path64 {p q : List Int} {k : Nat} (h : p.length ≤ 64) (hk : k ≤ 64) : (pst p q k).2.length ≤ 4096 := Nat.le_trans (pst_path_le p q k) (Nat.mul_le_mul hk h)
def paL (p q : List Int) : List Int := if both p q = 0 then pathL p q else []

end Go.Proofs.Ytaakjecnompogaa


/- Permutations: the reference's DocPath. -/
namespace Go.Tk
theorem Sl.frm {w w' : World} {S : Nat → Prop} {m : Nat} {α : Type} {f : α → List Value} {A : Option Addr} {n : Nat} {xs : List α} (h : Sl w m f A n xs) (hf : Frm S w w') (hs : 0 < xs.length → ∀ b, rowOf A b → ¬ S b) : Sl w' m f A n xs :=
  ⟨h.len, fun i x hi => by
    obtain ⟨b, off, h1, h2, h3⟩ := h.get i x hi
    have hl := lt_of_get hi
    exact ⟨b, off, h1, Nat.lt_of_lt_of_le h2 hf.size, fun j hj => by rw [← h3 j hj]; exact hf.cell (p := ⟨b, _, none⟩) h2 (hs (by omega) b ⟨_, h1, rfl⟩)⟩⟩
theorem Sl.row {w : World} {m : Nat} {α : Type} {f : α → List Value} {A : Option Addr} {n : Nat} {xs : List α} (h : Sl w m f A n xs) (h0 : 0 < xs.length) : ∀ b, rowOf A b → b < w.heap.size := by
  rintro b ⟨a, ha, rfl⟩
  obtain ⟨b, off, h1, h2, h3⟩ := h.get 0 _ (List.getElem?_eq_getElem h0)
  rw [h1] at ha
  injection ha with ha
  subst ha
  exact h2
end Go.Tk
namespace Go.Proofs.Ytaakjecnompogaa
open Go.RowKit Go.Tk

end Go.Proofs.Ytaakjecnompogaa


/- Permutations: Same of the reference; Rank of the program. -/
namespace Go.Proofs.Ytaakjecnompogaa
open Go.RowKit Go.Tk

/-- how many less ones follow the i-th -/
def lessC (xs : List Int) (i : Nat) : Nat := (xs.drop (i + 1)).countP (fun y => decide (y < xs.getD i 0))
def rkS (xs : List Int) : Nat → Nat
  | 0 => 0
  | k + 1 => rkS xs k * (xs.length - k) + lessC xs k
def fact : Nat → Nat
  | 0 => 1
  | n + 1 => (n + 1) * fact n
/-- n (n-1) .. (n-k+1) -/
def dsc (n : Nat) : Nat → Nat
  | 0 => 1
  | k + 1 => dsc n k * (n - k)
theorem fact_pos : ∀ n, 0 < fact n
  | 0 => by decide
  | n + 1 => by unfold fact; exact Nat.mul_pos (by omega) (fact_pos n)
theorem dsc_fact (n : Nat) : ∀ k, k ≤ n → dsc n k * fact (n - k) = fact n
  | 0, _ => by simp [dsc]
  | k + 1, h => by
    have ih := dsc_fact n k (by omega)
    rw [show n - k = (n - (k + 1)) + 1 by omega, fact] at ih
    rw [dsc, Nat.mul_assoc, show n - k = n - (k + 1) + 1 by omega]
    exact ih
theorem fact_le20 {n : Nat} (h : n ≤ 20) : fact n ≤ 2432902008176640000 := by
  have : ∀ n, n ≤ 20 → fact n ≤ 2432902008176640000 := by decide
  exact this n h
theorem dsc_le {n k : Nat} (h : n ≤ 20) (hk : k ≤ n) : dsc n k ≤ 2432902008176640000 := by
  have h1 := dsc_fact n k hk
  have h2 := Nat.le_mul_of_pos_right (dsc n k) (fact_pos (n - k))
  have h3 := fact_le20 h
  omega
theorem lessC_lt (xs : List Int) {k : Nat} (h : k < xs.length) : lessC xs k + k < xs.length := by
  unfold lessC
  have := List.countP_le_length (p := fun y => decide (y < xs.getD k 0)) (l := xs.drop (k + 1))
  rw [List.length_drop] at this
  omega
theorem rkS_lt (xs : List Int) : ∀ k, k ≤ xs.length → rkS xs k < dsc xs.length k
  | 0, _ => by simp [rkS, dsc]
  | k + 1, h => by
    have ih := rkS_lt xs k (by omega)
    have hl := lessC_lt xs (show k < xs.length by omega)
    rw [rkS, dsc]
    have h1 : (rkS xs k + 1) * (xs.length - k) ≤ dsc xs.length k * (xs.length - k) := Nat.mul_le_mul_right _ ih
    rw [Nat.add_mul, Nat.one_mul] at h1
    omega
def rkE (xs : List Int) : Int := if chk xs = 4 then 4 else if 20 < xs.length then 6 else 0
def rkV (xs : List Int) : Nat := if rkE xs = 0 then rkS xs xs.length else 0
end Go.Proofs.Ytaakjecnompogaa


/- Permutations: Rank of the program. -/
namespace Go.Tk
theorem IL.drop {w : World} {A : Option Addr} {n C : Nat} {xs : List Int} {b off k : Nat} (h : IL w (some ⟨b, off, none⟩) n xs) (hA : A = if C = k then some ⟨b, off, none⟩ else some ⟨b, off + k, none⟩) (hC : n ≤ C) : IL w A (n - k) (xs.drop k) := by
  obtain rfl := h.len
  refine ⟨by rw [List.length_drop], fun i x hi => ?_⟩
  rw [List.getElem?_drop] at hi
  have hl := lt_of_get hi
  obtain ⟨b', off', h1, h2, h3⟩ := h.get (k + i) x hi
  injection h1 with h1
  injection h1 with h1 h4
  subst h1 h4
  rw [if_neg (by omega)] at hA
  refine ⟨b, off + k, hA, h2, fun j hj => ?_⟩
  have := h3 j hj
  rwa [show off + k + i * 1 + j = off + (k + i) * 1 + j by omega]
end Go.Tk
namespace Go.Proofs.Ytaakjecnompogaa
open Go.RowKit Go.Tk

end Go.Proofs.Ytaakjecnompogaa


/- Permutations: the first look of the laws. -/
namespace Go.Proofs.Ytaakjecnompogaa
open Go.RowKit Go.Tk

theorem NewL.il {w w' : World} {ys : List Int} {A : Option Addr} {C : Nat} (h : NewL w ys A C w') : IL w' A ys.length ys := Own.il h.1
theorem lit_il {w w' : World} (ys : List Int) (hm : ys.length ≤ 1000) {cs : Array Value} (hcs : cs = (ys.flatMap icell).toArray) (hw : w' = w.alloc (.cells cs 3)) : IL w' (some ⟨w.heap.size, 0, none⟩) ys.length ys := by
  rw [hw]
  exact (lit_new w ys hm hcs).il
end Go.Proofs.Ytaakjecnompogaa


/- PermTwos: its walk. -/
namespace Go.Proofs.Ytaakjecnompogaa
open Go.RowKit Go.Tk

theorem coL_le (p q : List Int) : (coL p q).length ≤ q.length := by unfold coL; split <;> simp [compL]
theorem paL_le (p q : List Int) : (paL p q).length ≤ 4096 := by
  unfold paL
  split
  · rename_i h
    obtain ⟨_, _, h1, h2⟩ := both_ok h
    exact pst_path64 h2 (by omega)
  · simp
abbrev intKs : List Leaf := [.int .i64]
theorem icell_of {w : World} (l : List Value) (h : CellsOk w intKs l) : ∃ x : Int, l = icell x := by
  simp only [CellsOk, CellOk] at h
  obtain ⟨v0, l0, rfl, ⟨n0, rfl, _⟩, rfl⟩ := h
  exact ⟨n0, rfl⟩
end Go.Proofs.Ytaakjecnompogaa


/- PermUndoes: its walk. -/
namespace Go.Proofs.Ytaakjecnompogaa
open Go.RowKit Go.Tk

theorem both_of {xs ys : List Int} (hp : IsPerm xs) (hq : IsPerm ys) (hl : xs.length = ys.length) (h64 : xs.length ≤ 64) : both xs ys = 0 := by
  have h1 := chk_ok.2 ⟨hp, h64⟩
  have h2 := chk_ok.2 ⟨hq, by omega⟩
  unfold both
  rw [h1, h2, if_neg (by simp [hl])]
  rfl
end Go.Proofs.Ytaakjecnompogaa


/- PermLeads: its walk. -/
namespace Go.Proofs.Ytaakjecnompogaa
open Go.RowKit Go.Tk

end Go.Proofs.Ytaakjecnompogaa


/- PermAll: its walk. -/
namespace Go.Proofs.Ytaakjecnompogaa
open Go.RowKit Go.Tk

/-- the order behind i exchanges -/
def atL (k i : Nat) : List Int := swps (rng k) ((chL k).take i)
def rkL (k i : Nat) : List Nat := (List.range i).map fun j => rkV (atL k j)
def seenR (k i n : Nat) : List Bool := (List.range n).map fun r => decide (r ∈ rkL k i)
theorem seenR_len (k i n : Nat) : (seenR k i n).length = n := by simp [seenR]
theorem seenR_get (k i : Nat) {n r : Nat} (h : r < n) : (seenR k i n)[r]? = some (decide (r ∈ rkL k i)) := by simp [seenR, h]
theorem seenR_zero (k n : Nat) : seenR k 0 n = List.replicate n false := by
  apply List.ext_getElem?
  intro j
  rcases Nat.lt_or_ge j n with h | h
  · rw [seenR_get k 0 h]; simp [rkL, h]
  · rw [List.getElem?_eq_none (by rw [seenR_len]; exact h), List.getElem?_eq_none (by simpa using h)]
theorem rkL_succ (k i : Nat) : rkL k (i + 1) = rkL k i ++ [rkV (atL k i)] := by simp [rkL, List.range_succ]
theorem seenR_set {k i n r : Nat} (hr : rkV (atL k i) = r) (h : r < n) : (seenR k i n).set r true = seenR k (i + 1) n := by
  apply List.ext_getElem?
  intro j
  rcases Nat.lt_or_ge j n with hj | hj
  · rw [List.getElem?_set, seenR_len, seenR_get k (i + 1) hj, seenR_get k i hj, rkL_succ, hr]
    split
    · rename_i he; subst he; simp
    · rename_i he
      have : ¬ j = r := fun h => he h.symm
      simp [this]
  · rw [List.getElem?_eq_none (by simp [seenR_len, hj]), List.getElem?_eq_none (by rw [seenR_len]; exact hj)]
theorem all_facts (k : Nat) (h2 : 2 ≤ k) (h4 : k ≤ 4) : (chL k).length + 1 = fact k ∧ chE k = 0 ∧ (∀ i, i < fact k → rkE (atL k i) = 0 ∧ rkV (atL k i) < fact k ∧ rkV (atL k i) ∉ rkL k i ∧ (atL k i).length = k) ∧
    (∀ i, i < (chL k).length → swE (atL k i) ((chL k).getD i 0) = 0) := by
  obtain rfl | rfl | rfl : k = 2 ∨ k = 3 ∨ k = 4 := by omega
  · decide +kernel
  · decide +kernel
  · decide +kernel
theorem atL_succ {k i : Nat} {l : Int} (h : (chL k)[i]? = some l) : swp (atL k i) l.toNat = atL k (i + 1) := by
  unfold atL
  rw [take_snoc h, swps_snoc]
theorem fact_small {k : Nat} (h : k ≤ 4) : fact k ≤ 24 := by
  have : ∀ k, k ≤ 4 → fact k ≤ 24 := by decide
  exact this k h
end Go.Proofs.Ytaakjecnompogaa


/- slices.Delete of one thing, in place. -/
namespace Go.Proofs.Ytaakjecnompogaa
open Go.RowKit Go.Tk

theorem run_clear_one (w : World) (ty : TypeId) (sb o c : Nat) (h : ∃ v, w.cell? ⟨sb, o, none⟩ = some v) (hf : w.frozen? ⟨sb, o, none⟩ = false) :
    (Builtin.clear_ #[38] ty #[.slice (some ⟨sb, o, none⟩) 1 c]).run Try.prog w = .ok (.tuple #[]) (w.setCell ⟨sb, o, none⟩ (.int .i64 0)) := by
  obtain ⟨v, hv⟩ := h
  obtain ⟨i, hi, hz, hs, hb⟩ := info_parts info_int
  simp [Builtin.clear_, run_underlying Try.underlying38, zeroValue, typeInfo, hi, hz, Builtin.zeroCells, storeCells, hv, hf, go_sem]
end Go.Proofs.Ytaakjecnompogaa


/- Permutations: the reference's Factorial and DocRank. -/
namespace Go.Proofs.Ytaakjecnompogaa
open Go.RowKit Go.Tk

theorem fact_mono {a b : Nat} (h : a ≤ b) : fact a ≤ fact b := by
  induction b with
  | zero => rw [show a = 0 by omega]; exact Nat.le_refl _
  | succ b ih =>
    rcases Nat.lt_or_ge a (b + 1) with h1 | h1
    · have := ih (by omega)
      rw [show fact (b + 1) = (b + 1) * fact b from rfl]
      have h2 := Nat.le_mul_of_pos_left (fact b) (show 0 < b + 1 by omega)
      omega
    · rw [show a = b + 1 by omega]; exact Nat.le_refl _
/-- the document's sum -/
def rdS (xs : List Int) : Nat → Nat
  | 0 => 0
  | k + 1 => rdS xs k + lessC xs k * fact (xs.length - 1 - k)
theorem rdS_eq (xs : List Int) : ∀ k, k ≤ xs.length → rkS xs k * fact (xs.length - k) = rdS xs k
  | 0, _ => by simp [rkS, rdS]
  | k + 1, h => by
    have ih := rdS_eq xs k (by omega)
    rw [rkS, rdS, ← ih, Nat.add_mul, Nat.mul_assoc, show xs.length - (k + 1) = xs.length - 1 - k by omega]
    congr 1
    rw [show xs.length - k = (xs.length - 1 - k) + 1 by omega]
    rfl
theorem rdS_full (xs : List Int) : rdS xs xs.length = rkS xs xs.length := by
  rw [← rdS_eq xs xs.length (Nat.le_refl _), Nat.sub_self]
  simp [fact]
theorem rdS_lt {xs : List Int} (h : xs.length ≤ 20) {k : Nat} (hk : k ≤ xs.length) : rdS xs k < 2432902008176640000 := by
  rw [← rdS_eq xs k hk]
  have h1 := rkS_lt xs k hk
  have h2 := dsc_fact xs.length k hk
  have h3 := fact_le20 h
  have h4 : (rkS xs k + 1) * fact (xs.length - k) ≤ dsc xs.length k * fact (xs.length - k) := Nat.mul_le_mul_right _ h1
  have h5 := fact_pos (xs.length - k)
  rw [Nat.add_mul, Nat.one_mul] at h4
  omega

end Go.Proofs.Ytaakjecnompogaa


/- Unrank: what both compute. Plain, and the program's digits. -/
namespace Go.Proofs.Ytaakjecnompogaa
open Go.RowKit Go.Tk

def rq (r : Nat) : Nat → Nat
  | 0 => r
  | i + 1 => rq r i / (i + 1)
theorem rq_div (r : Nat) : ∀ i, rq r i = r / fact i
  | 0 => by simp [rq, fact]
  | i + 1 => by rw [rq, rq_div r i, Nat.div_div_eq_div_mul, fact, Nat.mul_comm]
def dg (r i : Nat) : Nat := rq r i % (i + 1)
theorem dg_lt (r i : Nat) : dg r i ≤ i := by
  unfold dg
  have := Nat.mod_lt (rq r i) (show 0 < i + 1 by omega)
  omega
theorem dg_doc (r m : Nat) : (r % fact (m + 1)) / fact m = dg r m := by
  unfold dg
  rw [rq_div, fact, Nat.mul_comm, Nat.mod_mul_right_div_self]
theorem rq_le (r : Nat) : ∀ i, rq r i ≤ r
  | 0 => Nat.le_refl _
  | i + 1 => Nat.le_trans (Nat.div_le_self _ _) (rq_le r i)
/-- the things taken, and those left, behind k digits -/
def dcd (f : Nat → Nat) (n : Nat) : Nat → List Int × List Int
  | 0 => ([], rng n)
  | k + 1 => ((dcd f n k).1 ++ [(dcd f n k).2.getD (f k) 0], (dcd f n k).2.take (f k) ++ (dcd f n k).2.drop (f k + 1))
def dgs (n r : Nat) (k : Nat) : Nat := dg r (n - 1 - k)
theorem dcd_len {f : Nat → Nat} {n : Nat} (hf : ∀ k, k < n → f k + k < n) : ∀ k, k ≤ n → (dcd f n k).1.length = k ∧ (dcd f n k).2.length = n - k
  | 0, _ => by simp [dcd, rng_len]
  | k + 1, h => by
    have ih := dcd_len hf k (by omega)
    have := hf k (by omega)
    simp only [dcd, List.length_append, List.length_singleton, List.length_take, List.length_drop]
    omega
theorem dgs_ok {n r : Nat} : ∀ k, k < n → dgs n r k + k < n := fun k hk => by
  unfold dgs
  have := dg_lt r (n - 1 - k)
  omega
def unL (n r : Nat) : List Int := (dcd (dgs n r) n n).1
/-- the error: too many, or no such place -/
def unE (n : Int) (r : Nat) : Int := if n < 0 ∨ 20 < n then 1 else if fact n.toNat ≤ r then 1 else 0
def unR (n : Int) (r : Nat) : List Int := if unE n r = 0 then unL n.toNat r else []
/-- the digits from the end on -/
def dgL (n r i : Nat) : List Int := (List.range n).map fun j : Nat => if n - i ≤ j then (dg r (n - 1 - j) : Int) else 0
theorem dgL_len (n r i : Nat) : (dgL n r i).length = n := by simp [dgL]
theorem dgL_zero (n r : Nat) : dgL n r 0 = List.replicate n 0 := by
  apply List.ext_getElem?
  intro j
  rcases Nat.lt_or_ge j n with h | h
  · simp [dgL, h]
    omega
  · rw [List.getElem?_eq_none (by rw [dgL_len]; exact h), List.getElem?_eq_none (by simpa using h)]
theorem dgL_set {n r i : Nat} (h : i < n) : (dgL n r i).set (n - 1 - i) (dg r i : Int) = dgL n r (i + 1) := by
  apply List.ext_getElem?
  intro j
  rcases Nat.lt_or_ge j n with hj | hj
  · rw [List.getElem?_set, dgL_len]
    simp only [dgL, List.getElem?_map, List.getElem?_range hj, Option.map_some]
    split
    · rename_i he
      subst he
      rw [if_pos (by omega), if_pos (by omega), show n - 1 - (n - 1 - i) = i by omega]
    · rename_i he
      congr 1
      by_cases h1 : n - i ≤ j
      · rw [if_pos h1, if_pos (by omega)]
      · rw [if_neg h1, if_neg (by omega)]
  · rw [List.getElem?_eq_none (by simp [dgL_len, hj]), List.getElem?_eq_none (by rw [dgL_len]; exact hj)]
theorem dgL_get {n r j : Nat} (h : j < n) : (dgL n r n)[j]? = some (dgs n r j : Int) := by
  simp [dgL, h, dgs]
theorem un_zero {n r : Nat} : rq r n = 0 ↔ r < fact n := by
  rw [rq_div]
  exact Nat.div_eq_zero_iff_lt (fact_pos n)
end Go.Proofs.Ytaakjecnompogaa


/- Ranks of permutations: there and back, and in order. Plain. -/
namespace Go.Proofs.Ytaakjecnompogaa
open Go.RowKit Go.Tk

/-- the rank by recursion on the list -/
def rk : List Int → Nat
  | [] => 0
  | x :: xs => xs.countP (fun y => decide (y < x)) * fact xs.length + rk xs
theorem lessC_cons (x : Int) (xs : List Int) (k : Nat) : lessC (x :: xs) (k + 1) = lessC xs k := rfl
theorem rdS_cons (x : Int) (xs : List Int) : ∀ k, k ≤ xs.length → rdS (x :: xs) (k + 1) = xs.countP (fun y => decide (y < x)) * fact xs.length + rdS xs k
  | 0, _ => by simp [rdS, lessC]
  | k + 1, h => by
    rw [rdS, rdS_cons x xs k (by omega), lessC_cons, rdS, Nat.add_assoc]
    congr 3
    simp only [List.length_cons]
    congr 1
    omega
theorem rdS_rk : ∀ xs : List Int, rdS xs xs.length = rk xs
  | [] => rfl
  | x :: xs => by rw [List.length_cons, rdS_cons x xs _ (Nat.le_refl _), rdS_rk xs, rk]
theorem rkS_rk (xs : List Int) : rkS xs xs.length = rk xs := by rw [← rdS_full, rdS_rk]
theorem rk_lt : ∀ xs : List Int, rk xs < fact xs.length
  | [] => by decide
  | x :: xs => by
    have ih := rk_lt xs
    have h1 := List.countP_le_length (p := fun y => decide (y < x)) (l := xs)
    have h2 := Nat.mul_le_mul_right (fact xs.length) h1
    rw [rk, List.length_cons, fact, Nat.add_mul, Nat.one_mul]
    omega
theorem rk_order {x y : Int} {p q : List Int} (hp : (x :: p).Perm (y :: q)) (h : x < y) : rk (x :: p) < rk (y :: q) := by
  have hl : p.length = q.length := by simpa using hp.length_eq
  have h1 : p.countP (fun z => decide (z < x)) + 1 ≤ q.countP (fun z => decide (z < y)) := by
    have e2 : q.countP (fun z => decide (z < y)) = (y :: q).countP (fun z => decide (z < y)) := by simp
    rw [e2, ← hp.countP_eq]
    rw [List.countP_cons_of_pos (by simpa using h)]
    have := List.countP_mono_left (l := p) (p := fun z => decide (z < x)) (q := fun z => decide (z < y)) (fun a _ ha => by simp at ha ⊢; omega)
    omega
  have h2 := rk_lt p
  have h3 := Nat.mul_le_mul_right (fact q.length) h1
  rw [rk, rk, hl]
  rw [hl] at h2
  rw [Nat.add_mul, Nat.one_mul] at h3
  omega
theorem rk_prefix : ∀ (c : List Int) {p q : List Int} (_ : p.Perm q), rk (c ++ p) < rk (c ++ q) ↔ rk p < rk q
  | [], _, _, _ => Iff.rfl
  | a :: c, p, q, h => by
    have ih := rk_prefix c h
    simp only [List.cons_append, rk, List.countP_append, h.countP_eq, List.length_append, h.length_eq]
    omega
/-- the first difference decides -/
theorem rk_first {p q : List Int} {k : Nat} {x y : Int} (hp : p.Perm q) (hk : p.take k = q.take k) (hx : p[k]? = some x) (hy : q[k]? = some y) (h : x < y) : rk p < rk q := by
  have hlp := lt_of_get hx
  have hlq := lt_of_get hy
  rw [List.getElem?_eq_getElem hlp] at hx
  rw [List.getElem?_eq_getElem hlq] at hy
  injection hx with hx
  injection hy with hy
  have e1 : p = p.take k ++ x :: p.drop (k + 1) := by rw [← hx, ← List.drop_eq_getElem_cons hlp, List.take_append_drop]
  have e2 : q = p.take k ++ y :: q.drop (k + 1) := by rw [hk, ← hy, ← List.drop_eq_getElem_cons hlq, List.take_append_drop]
  have hpp : (x :: p.drop (k + 1)).Perm (y :: q.drop (k + 1)) := by
    rw [e1, e2] at hp
    exact (List.perm_append_left_iff _).1 (by simpa [List.take_append_of_le_length, Nat.le_of_lt hlp] using hp)
  rw [e1, e2, rk_prefix _ hpp]
  exact rk_order hpp h
theorem first_diff : ∀ {p q : List Int}, p.length = q.length → p ≠ q → ∃ (k : Nat) (x y : Int), p.take k = q.take k ∧ p[k]? = some x ∧ q[k]? = some y ∧ x ≠ y
  | [], [], _, h => absurd rfl h
  | a :: p, b :: q, hl, h => by
    by_cases hab : a = b
    · subst hab
      obtain ⟨k, x, y, h1, h2, h3, h4⟩ := first_diff (p := p) (q := q) (by simpa using hl) (fun e => h (by rw [e]))
      exact ⟨k + 1, x, y, by simp [h1], by simpa using h2, by simpa using h3, h4⟩
    · exact ⟨0, a, b, rfl, rfl, rfl, hab⟩
theorem rk_inj {p q : List Int} (hp : p.Perm q) (h : rk p = rk q) : p = q := by
  by_cases hpq : p = q
  · exact hpq
  · obtain ⟨k, x, y, h1, h2, h3, h4⟩ := first_diff hp.length_eq hpq
    rcases Int.lt_or_gt_of_ne h4 with h5 | h5
    · have := rk_first hp h1 h2 h3 h5; omega
    · have := rk_first hp.symm h1.symm h3 h2 h5; omega

/-- what digits take out of a list -/
def pk : List Nat → List Int → List Int
  | [], _ => []
  | d :: ds, L => L.getD d 0 :: pk ds (L.eraseIdx d)
def okD : List Nat → Prop
  | [] => True
  | d :: ds => d ≤ ds.length ∧ okD ds
def val : List Nat → Nat
  | [] => 0
  | d :: ds => d * fact ds.length + val ds
def DL : Nat → Nat → List Nat
  | 0, _ => []
  | n + 1, r => dg r n :: DL n r
theorem DL_len (r : Nat) : ∀ n, (DL n r).length = n
  | 0 => rfl
  | n + 1 => by simp [DL, DL_len r n]
theorem DL_ok (r : Nat) : ∀ n, okD (DL n r)
  | 0 => trivial
  | n + 1 => ⟨by rw [DL_len]; exact dg_lt r n, DL_ok r n⟩
theorem DL_val (r : Nat) : ∀ n, val (DL n r) = r % fact n
  | 0 => by simp [DL, val, fact, Nat.mod_one]
  | n + 1 => by
    rw [DL, val, DL_val r n, DL_len, dg, rq_div, fact, Nat.mul_comm (n + 1), Nat.mod_mul, Nat.mul_comm (fact n), Nat.add_comm]
theorem DL_get (r : Nat) : ∀ (n k : Nat), k < n → (DL n r)[k]? = some (dgs n r k)
  | n + 1, 0, _ => by simp [DL, dgs]
  | n + 1, k + 1, h => by
    rw [DL, List.getElem?_cons_succ, DL_get r n k (by omega)]
    simp only [dgs]
    congr 2
    omega
theorem pk_perm : ∀ (ds : List Nat) (L : List Int), okD ds → L.length = ds.length → (pk ds L).Perm L
  | [], L, _, h => by rw [List.eq_nil_of_length_eq_zero h]; exact .refl _
  | d :: ds, L, hd, h => by
    have hdl : d < L.length := by rw [h, List.length_cons]; have := hd.1; omega
    have ih := pk_perm ds (L.eraseIdx d) hd.2 (by rw [List.length_eraseIdx_of_lt hdl, h]; simp)
    rw [pk]
    have e1 : L.getD d 0 = L[d] := by simp [List.getD_eq_getElem?_getD, hdl]
    rw [e1]
    refine (List.Perm.cons _ ih).trans ?_
    have e2 : L = L.take d ++ L[d] :: L.drop (d + 1) := by rw [← List.drop_eq_getElem_cons hdl, List.take_append_drop]
    rw [List.eraseIdx_eq_take_drop_succ]
    exact List.perm_middle.symm.trans (.of_eq e2.symm)
theorem countP_sorted : ∀ (L : List Int) (d : Nat) (hd : d < L.length), L.Pairwise (· < ·) → (L.eraseIdx d).countP (fun y => decide (y < L[d])) = d
  | x :: L, 0, _, h => by
    rw [List.pairwise_cons] at h
    simp only [List.eraseIdx_cons_zero, List.getElem_cons_zero]
    rw [List.countP_eq_zero]
    intro a ha
    have := h.1 a ha
    simp
    omega
  | x :: L, d + 1, hd, h => by
    rw [List.pairwise_cons] at h
    have hd' : d < L.length := by simpa using hd
    have ih := countP_sorted L d hd' h.2
    simp only [List.eraseIdx_cons_succ, List.getElem_cons_succ]
    rw [List.countP_cons_of_pos (by simpa using h.1 _ (List.getElem_mem hd')), ih]
theorem rk_pk : ∀ (ds : List Nat) (L : List Int), okD ds → L.length = ds.length → L.Pairwise (· < ·) → rk (pk ds L) = val ds
  | [], _, _, _, _ => rfl
  | d :: ds, L, hd, h, hs => by
    have hdl : d < L.length := by rw [h, List.length_cons]; have := hd.1; omega
    have hl : (L.eraseIdx d).length = ds.length := by rw [List.length_eraseIdx_of_lt hdl, h]; simp
    have ih := rk_pk ds (L.eraseIdx d) hd.2 hl (hs.sublist (List.eraseIdx_sublist L d))
    have hp := pk_perm ds (L.eraseIdx d) hd.2 hl
    have e1 : L.getD d 0 = L[d] := by simp [List.getD_eq_getElem?_getD, hdl]
    rw [pk, rk, ih, e1, hp.countP_eq, countP_sorted L d hdl hs, hp.length_eq, hl, val]
theorem dcd_pk {n r : Nat} : ∀ k, k ≤ n → (dcd (dgs n r) n k).1 ++ pk ((DL n r).drop k) (dcd (dgs n r) n k).2 = pk (DL n r) (rng n)
  | 0, _ => by simp [dcd]
  | k + 1, h => by
    rw [← dcd_pk (n := n) (r := r) k (by omega)]
    have hl : k < (DL n r).length := by rw [DL_len]; omega
    have hg := DL_get r n k (by omega)
    rw [List.getElem?_eq_getElem hl] at hg
    injection hg with hg
    rw [List.drop_eq_getElem_cons hl, hg, pk, dcd, List.append_assoc, List.eraseIdx_eq_take_drop_succ]
    rfl
theorem unL_pk (n r : Nat) : unL n r = pk (DL n r) (rng n) := by
  have := dcd_pk (n := n) (r := r) n (Nat.le_refl _)
  rw [List.drop_of_length_le (by rw [DL_len]; exact Nat.le_refl _), pk, List.append_nil] at this
  exact this
theorem rng_sorted (n : Nat) : (rng n).Pairwise (· < ·) := by
  unfold rng
  rw [List.pairwise_map]
  exact (List.pairwise_lt_range (n := n)).imp (fun h => by omega)
theorem unL_perm (n r : Nat) : (unL n r).Perm (rng n) := by
  rw [unL_pk]
  exact pk_perm _ _ (DL_ok r n) (by rw [rng_len, DL_len])
theorem unL_rk {n r : Nat} (h : r < fact n) : rk (unL n r) = r := by
  rw [unL_pk, rk_pk _ _ (DL_ok r n) (by rw [rng_len, DL_len]) (rng_sorted n), DL_val, Nat.mod_eq_of_lt h]
theorem unL_of {p : List Int} (h : IsPerm p) : unL p.length (rk p) = p :=
  rk_inj ((unL_perm _ _).trans h.perm.symm) (unL_rk (rk_lt p))

theorem rkE_ok {p : List Int} : rkE p = 0 ↔ IsPerm p ∧ p.length ≤ 20 := by
  unfold rkE chk
  by_cases h : IsPerm p
  · rw [if_pos h]
    by_cases h1 : 20 < p.length
    · split <;> split <;> simp <;> omega
    · rw [if_neg (by split <;> simp), if_neg h1]
      simp [h]
      omega
  · rw [if_neg h]
    simp [h]
theorem rkV_ok {p : List Int} (h : rkE p = 0) : rkV p = rk p := by unfold rkV; rw [if_pos h, rkS_rk]
theorem un_of_rank {p : List Int} (h : rkE p = 0) : unE p.length (rkV p) = 0 ∧ unR p.length (rkV p) = p := by
  obtain ⟨h1, h2⟩ := rkE_ok.1 h
  have hlt := rk_lt p
  rw [rkV_ok h]
  have he : unE p.length (rk p) = 0 := by unfold unE; rw [if_neg (by omega), if_neg (by simpa using hlt)]
  refine ⟨he, ?_⟩
  unfold unR
  rw [if_pos he]
  exact unL_of h1
theorem rank_of_un {n : Nat} {r : Nat} (h : unE n r = 0) : (unR n r).length = n ∧ rkE (unR n r) = 0 ∧ rkV (unR n r) = r := by
  have hr : unR n r = unL n r := by unfold unR; rw [if_pos h]; rfl
  have hb : n ≤ 20 ∧ r < fact n := by
    unfold unE at h
    split at h
    · cases h
    · split at h
      · cases h
      · rename_i h1 h2
        simp at h2
        exact ⟨by omega, h2⟩
  have hl : (unL n r).length = n := by rw [(unL_perm n r).length_eq, rng_len]
  have he : rkE (unL n r) = 0 := rkE_ok.2 ⟨.of_perm (unL_perm n r), by omega⟩
  rw [hr]
  exact ⟨hl, he, by rw [rkV_ok he, unL_rk hb.2]⟩
theorem perm_perm {p q : List Int} (hp : rkE p = 0) (hq : rkE q = 0) (hl : p.length = q.length) : p.Perm q := by
  have h1 := (rkE_ok.1 hp).1.perm
  have h2 := (rkE_ok.1 hq).1.perm
  rw [hl] at h1
  exact h1.trans h2.symm
end Go.Proofs.Ytaakjecnompogaa


/- Unrank of the program. -/
namespace Go.Proofs.Ytaakjecnompogaa
open Go.RowKit Go.Tk

end Go.Proofs.Ytaakjecnompogaa


/- Small functions of thickettop: sameList, twin, ahead, order. -/
namespace Go.Proofs.Ytaakjecnompogaa
open Go.RowKit Go.Tk

/-- the first difference tells -/
def lexLt : List Int → List Int → Bool
  | x :: xs, y :: ys => if x = y then lexLt xs ys else decide (x < y)
  | _, _ => false
theorem lexLt_at : ∀ {xs ys : List Int} {k : Nat} {x y : Int}, xs.take k = ys.take k → xs[k]? = some x → ys[k]? = some y → x ≠ y → lexLt xs ys = decide (x < y)
  | [], _, _, _, _, _, h, _, _ => by simp at h
  | _ :: _, [], _, _, _, _, _, h, _ => by simp at h
  | a :: xs, b :: ys, 0, x, y, _, hx, hy, hne => by
    simp only [List.getElem?_cons_zero, Option.some.injEq] at hx hy
    subst hx hy
    rw [lexLt, if_neg hne]
  | a :: xs, b :: ys, k + 1, x, y, he, hx, hy, hne => by
    simp only [List.take_succ_cons, List.cons.injEq] at he
    simp only [List.getElem?_cons_succ] at hx hy
    rw [lexLt, if_pos he.1]
    exact lexLt_at he.2 hx hy hne
theorem lexLt_same : ∀ (xs : List Int), lexLt xs xs = false
  | [] => rfl
  | x :: xs => by rw [lexLt, if_pos rfl, lexLt_same xs]
theorem lexLt_rk {p q : List Int} (hp : p.Perm q) : lexLt p q = decide (rk p < rk q) := by
  by_cases hpq : p = q
  · subst hpq; rw [lexLt_same]; simp
  · obtain ⟨k, x, y, h1, h2, h3, h4⟩ := first_diff hp.length_eq hpq
    rw [lexLt_at h1 h2 h3 h4, decide_eq_decide]
    rcases Int.lt_or_gt_of_ne h4 with h5 | h5
    · have := rk_first hp h1 h2 h3 h5; exact ⟨fun _ => this, fun _ => h5⟩
    · have := rk_first hp.symm h1.symm h3 h2 h5; exact ⟨fun h => by omega, fun h => by omega⟩
end Go.Proofs.Ytaakjecnompogaa
