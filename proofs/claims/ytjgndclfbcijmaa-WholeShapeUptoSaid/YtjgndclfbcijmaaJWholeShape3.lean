/- Contracts and plain laws, put together in one file. No condition. -/
import Derived.Test.YtjgndclfbcijmaaJWholeShape2
import Derived.Laws.IdiomStrings
import Derived.Maps.RangeWalk


/- WholeTruth: table. -/
namespace Go.Proofs.Ytjgndclfbcijmaa
open Go.RowKit Go.Tk

set_option maxRecDepth 100000 in
set_option maxHeartbeats 16000000 in
theorem table_0 (A : Option Addr) (m C : Nat) (us : List Nat) (w : World) (h : WL w A m us) (hsm : Small us) : Calls Try.prog 12 #[.int .i64 0, .slice A m C] w (RetT w 0 (tabW 0 us)) := by
  obtain rfl := h.len
  have H := Lib.hid h
  have HSM := Lib.hid hsm
  clear h hsm
  have hnw : nw 0 = 1 := by decide
  have HNW := Lib.hid hnw
  clear hnw
  go_enter Try.func12, Try.ntmps12
  go_upto_region 3 with fail
  refine wp_world fun w1 hw1 => ?_
  have hs1 : Same w w1 := by rw [hw1]; exact ((Frm.refl _ _).alloc _).alloc _
  have hBR : Blk w1 (w.heap.size) 30 #[.int .i64 0, .slice none 0 0] := by
    rw [hw1]
    have := ((Blk.new w 30 #[.int .i64 0, .slice none 0 0]).alloc (.cells #[.int .i64 0, .slice none 0 0] 30))
    simpa using this
  have hBT : Blk w1 (w.heap.size + 1) 30 #[.int .i64 0, .slice none 0 0] := by
    rw [hw1]
    have := (Blk.new (w.alloc (.cells #[.int .i64 0, .slice none 0 0] 30)) 30 #[.int .i64 0, .slice none 0 0])
    simpa using this
  clear hw1
  obtain ⟨R, hR⟩ : ∃ b, w.heap.size = b := ⟨_, rfl⟩
  obtain ⟨D, hD⟩ : ∃ b, w.heap.size + 1 = b := ⟨_, rfl⟩
  rw [hD] at hBT ⊢
  rw [hR] at hBR ⊢
  have hRD : R ≠ D := by omega
  have hwR : w.heap.size ≤ R := by omega
  have hwD : w.heap.size ≤ D := by omega
  clear hR hD
  have HS1 := Lib.hid hs1
  have HBR := Lib.hid hBR
  have HBT := Lib.hid hBT
  clear hs1 hBR hBT
  go_wp2
  go_loopw [7, 8] (fun i _x wr => ∃ (k : Nat) (A2 : Option Addr) (C2 : Nat), k ≤ 1 ∧ i = .int .i64 k ∧ Same w wr ∧ Blk wr R 30 #[.int .i64 0, .slice none 0 0] ∧ Blk wr D 30 #[.int .i64 0, .slice A2 k C2] ∧ Fresh w.heap.size A2 ∧ (∀ b, rowOf A2 b → b ≠ R ∧ b ≠ D) ∧ OwnW wr A2 k C2 ((tabW 0 us).take k)) (fun i _ _ => 1 - (intOf i).toNat)
  case atStart => exact ⟨0, none, 0, by omega, rfl, HS1.out, HBR.out, HBT.out, fresh_none _, fun b ⟨a, h, _⟩ => (by cases h), Own.nil _ _ _ _⟩
  case round =>
    obtain ⟨k, A2, C2, hk, rfl, hs, hbr, hbt, hf, hne, ho⟩ := hrel
    have HS := Lib.hid hs
    have HR := Lib.hid hbr
    have HT := Lib.hid hbt
    have HF := Lib.hid hf
    have HNE := Lib.hid hne
    have HO := Lib.hid ho
    have hlk : ((tabW 0 us).take k).length = k := by rw [List.length_take, tabW_len, HNW.out]; omega
    have HLK := Lib.hid hlk
    clear hs hbr hbt hf hne ho hlk
    by_cases hlt : k < 1
    · have hi1 : (k : Int) < 1 := by omega
      have hi0 : (0 : Int) ≤ k := by omega
      have hnx := take_snoc (tabW_get (n := 0) (us := us) (show k < nw 0 by rw [HNW.out]; exact hlt))
      have HNX := Lib.hid hnx
      clear hnx
      by_cases hm0 : us.length = 0
      · have hz : tblW 0 us k = 0 := by
          obtain rfl : us = [] := List.length_eq_zero_iff.1 hm0
          unfold tblW; simp
        rw [hz] at HNX
        have hm1 : ¬ (0 : Int) < us.length := by omega
        have hm2 : ¬ 0 < us.length := by omega
        clear hz hm0
        go_upto_region 13 with fail
        simp only [show bits .and .u64 (0 : Int) 1 = 0 by decide]
        have hcT1 : wr.cell? ⟨D, 1, none⟩ = some (.slice A2 k C2) := HT.out.cell 1
        have hlT := HT.out.lt
        refine wp_read 3 ?_
        simp only [List.take_succ_cons, List.take_zero, List.drop_succ_cons, List.drop_zero]
        repeat (any_goals (first | go_big_quiet_step (fail) | quiet_step (fail)))
        refine wpQuiet_nil ?_
        refine wpList_plain rfl fun K hK => ?_
        go_simp
        refine hK _ _ ?_
        clear hK K
        refine list_world fun wa hwa => ?_
        have hN := Blk.new wr 39 #[.int .u64 0]
        have hsa : Same wr wa := by rw [hwa]; exact (Frm.refl _ _).alloc _
        rw [← hwa] at hN
        clear hwa hcT1 hlT
        refine Own.append_list (f := ucell) rfl (.tmp 40) (.tmp 42) _ rfl Try.underlying28 info_u64 rfl (by omega) rfl ((HO.out).frm hsa (fun _ _ => id)) (fun _ => rfl) 0 wr.heap.size 1 rfl hN (by simp [Value.oneCell', ucell]) (by rw [HLK.out]; simp [maxLen] <;> omega) (by rw [HLK.out]; omega) ?_
        intro gg cap wb hOb hgb hat
        have hnR : (Value.slice A2 k C2).ownBlock ≠ some R := fun h => (HNE.out R (ownBlock_row.1 h)).1 rfl
        have hnD : (Value.slice A2 k C2).ownBlock ≠ some D := fun h => (HNE.out D (ownBlock_row.1 h)).2 rfl
        have hbr := (HR.out.frm hsa id).grown hgb (fun h => hnR h.symm)
        have hbt := (HT.out.frm hsa id).grown hgb (fun h => hnD h.symm)
        have hgR : gg ≠ R := fun h => by
          rcases hat with h1 | h1
          · exact hnR (h ▸ h1)
          · have := (HR.out.frm hsa id).lt; omega
        have hgD : gg ≠ D := fun h => by
          rcases hat with h1 | h1
          · exact hnD (h ▸ h1)
          · have := (HT.out.frm hsa id).lt; omega
        have HOb := Lib.hid hOb
        have HSb := Lib.hid (Same.app (HS.out) hsa hgb (HF.out))
        have HFb := Lib.hid (fresh_app (HS.out) hsa (HF.out) hat)
        have HBRb := Lib.hid hbr
        have HBTb := Lib.hid hbt
        have hcT0 : wb.cell? ⟨D, 0, none⟩ = some (.int .i64 0) := hbt.cell 0
        have hcT1 : wb.cell? ⟨D, 1, none⟩ = some (.slice A2 k C2) := hbt.cell 1
        have hfT1 := hbt.free 1
        have hlT := hbt.lt
        clear hOb hgb hat hsa hN hbr hbt hnR hnD
        go_wp2
        go_roundw
        case rel =>
          refine ⟨k + 1, some ⟨gg, 0, none⟩, cap, by omega, by go_num, HSb.out.setNew 1 _ hwD, HBRb.out.far (p := ⟨D, 1, none⟩) hRD _, ?_, HFb.out, fun b ⟨a, h, h2⟩ => by injection h with h; subst h; subst h2; exact ⟨hgR, hgD⟩, ?_⟩
          · have := HBTb.out.set 1 (.slice (some ⟨gg, 0, none⟩) (k + 1) cap)
            simpa using this
          · rw [HNX.out]
            exact Own.far (p := ⟨D, 1, none⟩) HOb.out (fun a h => by injection h with h; subst h; exact hgD) _
        case measure => simp [intOf] <;> omega
      · have hm1 : (0 : Int) < us.length := by omega
        obtain ⟨d, hd⟩ : ∃ d, k % us.length = d := ⟨_, rfl⟩
        have hdl : d < us.length := by rw [← hd]; exact Nat.mod_lt _ (by omega)
        have hdk : d ≤ k := by rw [← hd]; exact Nat.mod_le _ _
        have hq2 : IntKind.i64.wrap (d : Int) = d := IntWalk.i64_in _ (by omega)
        obtain ⟨y, hy⟩ : ∃ y, us[d]? = some y := ⟨_, List.getElem?_eq_getElem hdl⟩
        have hyl := HSM.out.at1 hy
        have hz : tblW 0 us k = y % 2 := by unfold tblW; rw [hd, List.getD_eq_getElem?_getD, hy]; rfl
        rw [hz] at HNX
        obtain ⟨b, off, rfl, hb, hc⟩ := WL.at1 (Sl.same H.out HS.out) hy
        have hq0 : ¬ ((us.length : Nat) : Int) = 0 := by omega
        have hq1 : (k : Int).tmod ((us.length : Nat) : Int) = (d : Int) := by rw [← hd]; exact (Int.natCast_emod k us.length).symm ▸ (Int.tmod_eq_emod_of_nonneg (by omega))
        have hq3 : (k : Int) % ((us.length : Nat) : Int) = (d : Int) := by rw [← hd]; exact (Int.natCast_emod k us.length).symm
        have hd0 : (0 : Int) ≤ d := by omega
        have hd1 : (d : Int) < us.length := by omega
        have hmk : bits .and .u64 (y : Int) 1 = ((y % 2 : Nat) : Int) := by
          have h := u64_and_nat y 1 hyl (by omega)
          rw [show y &&& 1 = y % 2 from Nat.and_two_pow_sub_one_eq_mod y 1] at h
          exact h
        clear hz hd hy
        go_upto_region 13 with fail
        have hm2 : (y : Int) % 2 = ((y % 2 : Nat) : Int) := by omega
        simp only [hm2]
        clear hm2
        clear hmk
        obtain ⟨z, hz⟩ : ∃ z, y % 2 = z := ⟨_, rfl⟩
        simp only [hz] at HNX ⊢
        clear hz
        have hcT1 : wr.cell? ⟨D, 1, none⟩ = some (.slice A2 k C2) := HT.out.cell 1
        have hlT := HT.out.lt
        refine wp_read 3 ?_
        simp only [List.take_succ_cons, List.take_zero, List.drop_succ_cons, List.drop_zero]
        repeat (any_goals (first | go_big_quiet_step (fail) | quiet_step (fail)))
        refine wpQuiet_nil ?_
        refine wpList_plain rfl fun K hK => ?_
        go_simp
        refine hK _ _ ?_
        clear hK K
        refine list_world fun wa hwa => ?_
        have hN := Blk.new wr 39 #[.int .u64 (z : Int)]
        have hsa : Same wr wa := by rw [hwa]; exact (Frm.refl _ _).alloc _
        rw [← hwa] at hN
        clear hwa hcT1 hlT
        refine Own.append_list (f := ucell) rfl (.tmp 40) (.tmp 42) _ rfl Try.underlying28 info_u64 rfl (by omega) rfl ((HO.out).frm hsa (fun _ _ => id)) (fun _ => rfl) z wr.heap.size 1 rfl hN (by simp [Value.oneCell', ucell]) (by rw [HLK.out]; simp [maxLen] <;> omega) (by rw [HLK.out]; omega) ?_
        intro gg cap wb hOb hgb hat
        have hnR : (Value.slice A2 k C2).ownBlock ≠ some R := fun h => (HNE.out R (ownBlock_row.1 h)).1 rfl
        have hnD : (Value.slice A2 k C2).ownBlock ≠ some D := fun h => (HNE.out D (ownBlock_row.1 h)).2 rfl
        have hbr := (HR.out.frm hsa id).grown hgb (fun h => hnR h.symm)
        have hbt := (HT.out.frm hsa id).grown hgb (fun h => hnD h.symm)
        have hgR : gg ≠ R := fun h => by
          rcases hat with h1 | h1
          · exact hnR (h ▸ h1)
          · have := (HR.out.frm hsa id).lt; omega
        have hgD : gg ≠ D := fun h => by
          rcases hat with h1 | h1
          · exact hnD (h ▸ h1)
          · have := (HT.out.frm hsa id).lt; omega
        have HOb := Lib.hid hOb
        have HSb := Lib.hid (Same.app (HS.out) hsa hgb (HF.out))
        have HFb := Lib.hid (fresh_app (HS.out) hsa (HF.out) hat)
        have HBRb := Lib.hid hbr
        have HBTb := Lib.hid hbt
        have hcT0 : wb.cell? ⟨D, 0, none⟩ = some (.int .i64 0) := hbt.cell 0
        have hcT1 : wb.cell? ⟨D, 1, none⟩ = some (.slice A2 k C2) := hbt.cell 1
        have hfT1 := hbt.free 1
        have hlT := hbt.lt
        clear hOb hgb hat hsa hN hbr hbt hnR hnD
        go_wp2
        go_roundw
        case rel =>
          refine ⟨k + 1, some ⟨gg, 0, none⟩, cap, by omega, by go_num, HSb.out.setNew 1 _ hwD, HBRb.out.far (p := ⟨D, 1, none⟩) hRD _, ?_, HFb.out, fun b ⟨a, h, h2⟩ => by injection h with h; subst h; subst h2; exact ⟨hgR, hgD⟩, ?_⟩
          · have := HBTb.out.set 1 (.slice (some ⟨gg, 0, none⟩) (k + 1) cap)
            simpa using this
          · rw [HNX.out]
            exact Own.far (p := ⟨D, 1, none⟩) HOb.out (fun a h => by injection h with h; subst h; exact hgD) _
        case measure => simp [intOf] <;> omega
    · obtain rfl : k = 1 := by omega
      have hfull := HO.out
      rw [List.take_of_length_le (by rw [tabW_len, HNW.out]; exact Nat.le_refl _)] at hfull
      have hcR0 : wr.cell? ⟨R, 0, none⟩ = some (.int .i64 0) := HR.out.cell 0
      have hcR1 : wr.cell? ⟨R, 1, none⟩ = some (.slice none 0 0) := HR.out.cell 1
      have hcT0 : wr.cell? ⟨D, 0, none⟩ = some (.int .i64 0) := HT.out.cell 0
      have hcT1 : wr.cell? ⟨D, 1, none⟩ = some (.slice A2 1 C2) := HT.out.cell 1
      have hfR0 := HR.out.free 0
      have hfR1 := HR.out.free 1
      have hlR := HR.out.lt
      have hlT := HT.out.lt
      have HFU := Lib.hid hfull
      clear hfull
      go_wp2
      refine wp_post fun we hwe => ?_
      have hBE : Blk we R 30 #[.int .i64 0, .slice A2 1 C2] := by
        rw [hwe]
        have := (HR.out.set 0 (.int .i64 0)).set 1 (.slice A2 1 C2)
        simpa using this
      have hSE : Same w we := by rw [hwe]; exact (HS.out.setNew 0 _ hwR).setNew 1 _ hwR
      have hnR : ∀ a, A2 = some a → a.block ≠ R := fun a ha => (HNE.out a.block ⟨a, ha, rfl⟩).1
      have hOE : OwnW we A2 1 C2 (tabW 0 us) := by
        rw [hwe]
        exact Own.far (p := ⟨R, 1, none⟩) (Own.far (p := ⟨R, 0, none⟩) HFU.out hnR _) hnR _
      have hr0 : we.cell? ⟨R, 0, none⟩ = some (.int .i64 0) := hBE.cell 0
      have hr1 : we.cell? ⟨R, 1, none⟩ = some (.slice A2 1 C2) := hBE.cell 1
      clear hwe hBE
      refine bodyPost_ret (v := .agg #[.int .i64 0, .slice A2 1 C2]) (by simp [results, Try.results12, go_sem, hr0, hr1]) rfl ?_
      have hll : (tabW 0 us).length = 1 := by rw [tabW_len]; exact HNW.out
      exact ⟨A2, C2, by rw [hll], by rw [← hll] at hOE; exact ⟨hOE, HF.out, hSE⟩⟩
set_option maxRecDepth 100000 in
set_option maxHeartbeats 16000000 in
theorem table_1 (A : Option Addr) (m C : Nat) (us : List Nat) (w : World) (h : WL w A m us) (hsm : Small us) : Calls Try.prog 12 #[.int .i64 1, .slice A m C] w (RetT w 1 (tabW 1 us)) := by
  obtain rfl := h.len
  have H := Lib.hid h
  have HSM := Lib.hid hsm
  clear h hsm
  have hnw : nw 1 = 1 := by decide
  have HNW := Lib.hid hnw
  clear hnw
  go_enter Try.func12, Try.ntmps12
  go_upto_region 3 with fail
  refine wp_world fun w1 hw1 => ?_
  have hs1 : Same w w1 := by rw [hw1]; exact ((Frm.refl _ _).alloc _).alloc _
  have hBR : Blk w1 (w.heap.size) 30 #[.int .i64 0, .slice none 0 0] := by
    rw [hw1]
    have := ((Blk.new w 30 #[.int .i64 0, .slice none 0 0]).alloc (.cells #[.int .i64 1, .slice none 0 0] 30))
    simpa using this
  have hBT : Blk w1 (w.heap.size + 1) 30 #[.int .i64 1, .slice none 0 0] := by
    rw [hw1]
    have := (Blk.new (w.alloc (.cells #[.int .i64 0, .slice none 0 0] 30)) 30 #[.int .i64 1, .slice none 0 0])
    simpa using this
  clear hw1
  obtain ⟨R, hR⟩ : ∃ b, w.heap.size = b := ⟨_, rfl⟩
  obtain ⟨D, hD⟩ : ∃ b, w.heap.size + 1 = b := ⟨_, rfl⟩
  rw [hD] at hBT ⊢
  rw [hR] at hBR ⊢
  have hRD : R ≠ D := by omega
  have hwR : w.heap.size ≤ R := by omega
  have hwD : w.heap.size ≤ D := by omega
  clear hR hD
  have HS1 := Lib.hid hs1
  have HBR := Lib.hid hBR
  have HBT := Lib.hid hBT
  clear hs1 hBR hBT
  go_wp2
  go_loopw [7, 8] (fun i _x wr => ∃ (k : Nat) (A2 : Option Addr) (C2 : Nat), k ≤ 1 ∧ i = .int .i64 k ∧ Same w wr ∧ Blk wr R 30 #[.int .i64 0, .slice none 0 0] ∧ Blk wr D 30 #[.int .i64 1, .slice A2 k C2] ∧ Fresh w.heap.size A2 ∧ (∀ b, rowOf A2 b → b ≠ R ∧ b ≠ D) ∧ OwnW wr A2 k C2 ((tabW 1 us).take k)) (fun i _ _ => 1 - (intOf i).toNat)
  case atStart => exact ⟨0, none, 0, by omega, rfl, HS1.out, HBR.out, HBT.out, fresh_none _, fun b ⟨a, h, _⟩ => (by cases h), Own.nil _ _ _ _⟩
  case round =>
    obtain ⟨k, A2, C2, hk, rfl, hs, hbr, hbt, hf, hne, ho⟩ := hrel
    have HS := Lib.hid hs
    have HR := Lib.hid hbr
    have HT := Lib.hid hbt
    have HF := Lib.hid hf
    have HNE := Lib.hid hne
    have HO := Lib.hid ho
    have hlk : ((tabW 1 us).take k).length = k := by rw [List.length_take, tabW_len, HNW.out]; omega
    have HLK := Lib.hid hlk
    clear hs hbr hbt hf hne ho hlk
    by_cases hlt : k < 1
    · have hi1 : (k : Int) < 1 := by omega
      have hi0 : (0 : Int) ≤ k := by omega
      have hnx := take_snoc (tabW_get (n := 1) (us := us) (show k < nw 1 by rw [HNW.out]; exact hlt))
      have HNX := Lib.hid hnx
      clear hnx
      by_cases hm0 : us.length = 0
      · have hz : tblW 1 us k = 0 := by
          obtain rfl : us = [] := List.length_eq_zero_iff.1 hm0
          unfold tblW; simp
        rw [hz] at HNX
        have hm1 : ¬ (0 : Int) < us.length := by omega
        have hm2 : ¬ 0 < us.length := by omega
        clear hz hm0
        go_upto_region 13 with fail
        simp only [show bits .and .u64 (0 : Int) 3 = 0 by decide]
        have hcT1 : wr.cell? ⟨D, 1, none⟩ = some (.slice A2 k C2) := HT.out.cell 1
        have hlT := HT.out.lt
        refine wp_read 3 ?_
        simp only [List.take_succ_cons, List.take_zero, List.drop_succ_cons, List.drop_zero]
        repeat (any_goals (first | go_big_quiet_step (fail) | quiet_step (fail)))
        refine wpQuiet_nil ?_
        refine wpList_plain rfl fun K hK => ?_
        go_simp
        refine hK _ _ ?_
        clear hK K
        refine list_world fun wa hwa => ?_
        have hN := Blk.new wr 39 #[.int .u64 0]
        have hsa : Same wr wa := by rw [hwa]; exact (Frm.refl _ _).alloc _
        rw [← hwa] at hN
        clear hwa hcT1 hlT
        refine Own.append_list (f := ucell) rfl (.tmp 40) (.tmp 42) _ rfl Try.underlying28 info_u64 rfl (by omega) rfl ((HO.out).frm hsa (fun _ _ => id)) (fun _ => rfl) 0 wr.heap.size 1 rfl hN (by simp [Value.oneCell', ucell]) (by rw [HLK.out]; simp [maxLen] <;> omega) (by rw [HLK.out]; omega) ?_
        intro gg cap wb hOb hgb hat
        have hnR : (Value.slice A2 k C2).ownBlock ≠ some R := fun h => (HNE.out R (ownBlock_row.1 h)).1 rfl
        have hnD : (Value.slice A2 k C2).ownBlock ≠ some D := fun h => (HNE.out D (ownBlock_row.1 h)).2 rfl
        have hbr := (HR.out.frm hsa id).grown hgb (fun h => hnR h.symm)
        have hbt := (HT.out.frm hsa id).grown hgb (fun h => hnD h.symm)
        have hgR : gg ≠ R := fun h => by
          rcases hat with h1 | h1
          · exact hnR (h ▸ h1)
          · have := (HR.out.frm hsa id).lt; omega
        have hgD : gg ≠ D := fun h => by
          rcases hat with h1 | h1
          · exact hnD (h ▸ h1)
          · have := (HT.out.frm hsa id).lt; omega
        have HOb := Lib.hid hOb
        have HSb := Lib.hid (Same.app (HS.out) hsa hgb (HF.out))
        have HFb := Lib.hid (fresh_app (HS.out) hsa (HF.out) hat)
        have HBRb := Lib.hid hbr
        have HBTb := Lib.hid hbt
        have hcT0 : wb.cell? ⟨D, 0, none⟩ = some (.int .i64 1) := hbt.cell 0
        have hcT1 : wb.cell? ⟨D, 1, none⟩ = some (.slice A2 k C2) := hbt.cell 1
        have hfT1 := hbt.free 1
        have hlT := hbt.lt
        clear hOb hgb hat hsa hN hbr hbt hnR hnD
        go_wp2
        go_roundw
        case rel =>
          refine ⟨k + 1, some ⟨gg, 0, none⟩, cap, by omega, by go_num, HSb.out.setNew 1 _ hwD, HBRb.out.far (p := ⟨D, 1, none⟩) hRD _, ?_, HFb.out, fun b ⟨a, h, h2⟩ => by injection h with h; subst h; subst h2; exact ⟨hgR, hgD⟩, ?_⟩
          · have := HBTb.out.set 1 (.slice (some ⟨gg, 0, none⟩) (k + 1) cap)
            simpa using this
          · rw [HNX.out]
            exact Own.far (p := ⟨D, 1, none⟩) HOb.out (fun a h => by injection h with h; subst h; exact hgD) _
        case measure => simp [intOf] <;> omega
      · have hm1 : (0 : Int) < us.length := by omega
        obtain ⟨d, hd⟩ : ∃ d, k % us.length = d := ⟨_, rfl⟩
        have hdl : d < us.length := by rw [← hd]; exact Nat.mod_lt _ (by omega)
        have hdk : d ≤ k := by rw [← hd]; exact Nat.mod_le _ _
        have hq2 : IntKind.i64.wrap (d : Int) = d := IntWalk.i64_in _ (by omega)
        obtain ⟨y, hy⟩ : ∃ y, us[d]? = some y := ⟨_, List.getElem?_eq_getElem hdl⟩
        have hyl := HSM.out.at1 hy
        have hz : tblW 1 us k = y % 4 := by unfold tblW; rw [hd, List.getD_eq_getElem?_getD, hy]; rfl
        rw [hz] at HNX
        obtain ⟨b, off, rfl, hb, hc⟩ := WL.at1 (Sl.same H.out HS.out) hy
        have hq0 : ¬ ((us.length : Nat) : Int) = 0 := by omega
        have hq1 : (k : Int).tmod ((us.length : Nat) : Int) = (d : Int) := by rw [← hd]; exact (Int.natCast_emod k us.length).symm ▸ (Int.tmod_eq_emod_of_nonneg (by omega))
        have hq3 : (k : Int) % ((us.length : Nat) : Int) = (d : Int) := by rw [← hd]; exact (Int.natCast_emod k us.length).symm
        have hd0 : (0 : Int) ≤ d := by omega
        have hd1 : (d : Int) < us.length := by omega
        have hmk : bits .and .u64 (y : Int) 3 = ((y % 4 : Nat) : Int) := by
          have h := u64_and_nat y 3 hyl (by omega)
          rw [show y &&& 3 = y % 4 from Nat.and_two_pow_sub_one_eq_mod y 2] at h
          exact h
        clear hz hd hy
        go_upto_region 13 with fail
        have hm2 : (y : Int) % 4 = ((y % 4 : Nat) : Int) := by omega
        simp only [hm2]
        clear hm2
        clear hmk
        obtain ⟨z, hz⟩ : ∃ z, y % 4 = z := ⟨_, rfl⟩
        simp only [hz] at HNX ⊢
        clear hz
        have hcT1 : wr.cell? ⟨D, 1, none⟩ = some (.slice A2 k C2) := HT.out.cell 1
        have hlT := HT.out.lt
        refine wp_read 3 ?_
        simp only [List.take_succ_cons, List.take_zero, List.drop_succ_cons, List.drop_zero]
        repeat (any_goals (first | go_big_quiet_step (fail) | quiet_step (fail)))
        refine wpQuiet_nil ?_
        refine wpList_plain rfl fun K hK => ?_
        go_simp
        refine hK _ _ ?_
        clear hK K
        refine list_world fun wa hwa => ?_
        have hN := Blk.new wr 39 #[.int .u64 (z : Int)]
        have hsa : Same wr wa := by rw [hwa]; exact (Frm.refl _ _).alloc _
        rw [← hwa] at hN
        clear hwa hcT1 hlT
        refine Own.append_list (f := ucell) rfl (.tmp 40) (.tmp 42) _ rfl Try.underlying28 info_u64 rfl (by omega) rfl ((HO.out).frm hsa (fun _ _ => id)) (fun _ => rfl) z wr.heap.size 1 rfl hN (by simp [Value.oneCell', ucell]) (by rw [HLK.out]; simp [maxLen] <;> omega) (by rw [HLK.out]; omega) ?_
        intro gg cap wb hOb hgb hat
        have hnR : (Value.slice A2 k C2).ownBlock ≠ some R := fun h => (HNE.out R (ownBlock_row.1 h)).1 rfl
        have hnD : (Value.slice A2 k C2).ownBlock ≠ some D := fun h => (HNE.out D (ownBlock_row.1 h)).2 rfl
        have hbr := (HR.out.frm hsa id).grown hgb (fun h => hnR h.symm)
        have hbt := (HT.out.frm hsa id).grown hgb (fun h => hnD h.symm)
        have hgR : gg ≠ R := fun h => by
          rcases hat with h1 | h1
          · exact hnR (h ▸ h1)
          · have := (HR.out.frm hsa id).lt; omega
        have hgD : gg ≠ D := fun h => by
          rcases hat with h1 | h1
          · exact hnD (h ▸ h1)
          · have := (HT.out.frm hsa id).lt; omega
        have HOb := Lib.hid hOb
        have HSb := Lib.hid (Same.app (HS.out) hsa hgb (HF.out))
        have HFb := Lib.hid (fresh_app (HS.out) hsa (HF.out) hat)
        have HBRb := Lib.hid hbr
        have HBTb := Lib.hid hbt
        have hcT0 : wb.cell? ⟨D, 0, none⟩ = some (.int .i64 1) := hbt.cell 0
        have hcT1 : wb.cell? ⟨D, 1, none⟩ = some (.slice A2 k C2) := hbt.cell 1
        have hfT1 := hbt.free 1
        have hlT := hbt.lt
        clear hOb hgb hat hsa hN hbr hbt hnR hnD
        go_wp2
        go_roundw
        case rel =>
          refine ⟨k + 1, some ⟨gg, 0, none⟩, cap, by omega, by go_num, HSb.out.setNew 1 _ hwD, HBRb.out.far (p := ⟨D, 1, none⟩) hRD _, ?_, HFb.out, fun b ⟨a, h, h2⟩ => by injection h with h; subst h; subst h2; exact ⟨hgR, hgD⟩, ?_⟩
          · have := HBTb.out.set 1 (.slice (some ⟨gg, 0, none⟩) (k + 1) cap)
            simpa using this
          · rw [HNX.out]
            exact Own.far (p := ⟨D, 1, none⟩) HOb.out (fun a h => by injection h with h; subst h; exact hgD) _
        case measure => simp [intOf] <;> omega
    · obtain rfl : k = 1 := by omega
      have hfull := HO.out
      rw [List.take_of_length_le (by rw [tabW_len, HNW.out]; exact Nat.le_refl _)] at hfull
      have hcR0 : wr.cell? ⟨R, 0, none⟩ = some (.int .i64 0) := HR.out.cell 0
      have hcR1 : wr.cell? ⟨R, 1, none⟩ = some (.slice none 0 0) := HR.out.cell 1
      have hcT0 : wr.cell? ⟨D, 0, none⟩ = some (.int .i64 1) := HT.out.cell 0
      have hcT1 : wr.cell? ⟨D, 1, none⟩ = some (.slice A2 1 C2) := HT.out.cell 1
      have hfR0 := HR.out.free 0
      have hfR1 := HR.out.free 1
      have hlR := HR.out.lt
      have hlT := HT.out.lt
      have HFU := Lib.hid hfull
      clear hfull
      go_wp2
      refine wp_post fun we hwe => ?_
      have hBE : Blk we R 30 #[.int .i64 1, .slice A2 1 C2] := by
        rw [hwe]
        have := (HR.out.set 0 (.int .i64 1)).set 1 (.slice A2 1 C2)
        simpa using this
      have hSE : Same w we := by rw [hwe]; exact (HS.out.setNew 0 _ hwR).setNew 1 _ hwR
      have hnR : ∀ a, A2 = some a → a.block ≠ R := fun a ha => (HNE.out a.block ⟨a, ha, rfl⟩).1
      have hOE : OwnW we A2 1 C2 (tabW 1 us) := by
        rw [hwe]
        exact Own.far (p := ⟨R, 1, none⟩) (Own.far (p := ⟨R, 0, none⟩) HFU.out hnR _) hnR _
      have hr0 : we.cell? ⟨R, 0, none⟩ = some (.int .i64 1) := hBE.cell 0
      have hr1 : we.cell? ⟨R, 1, none⟩ = some (.slice A2 1 C2) := hBE.cell 1
      clear hwe hBE
      refine bodyPost_ret (v := .agg #[.int .i64 1, .slice A2 1 C2]) (by simp [results, Try.results12, go_sem, hr0, hr1]) rfl ?_
      have hll : (tabW 1 us).length = 1 := by rw [tabW_len]; exact HNW.out
      exact ⟨A2, C2, by rw [hll], by rw [← hll] at hOE; exact ⟨hOE, HF.out, hSE⟩⟩
set_option maxRecDepth 100000 in
set_option maxHeartbeats 16000000 in
theorem table_2 (A : Option Addr) (m C : Nat) (us : List Nat) (w : World) (h : WL w A m us) (hsm : Small us) : Calls Try.prog 12 #[.int .i64 2, .slice A m C] w (RetT w 2 (tabW 2 us)) := by
  obtain rfl := h.len
  have H := Lib.hid h
  have HSM := Lib.hid hsm
  clear h hsm
  have hnw : nw 2 = 1 := by decide
  have HNW := Lib.hid hnw
  clear hnw
  go_enter Try.func12, Try.ntmps12
  go_upto_region 3 with fail
  refine wp_world fun w1 hw1 => ?_
  have hs1 : Same w w1 := by rw [hw1]; exact ((Frm.refl _ _).alloc _).alloc _
  have hBR : Blk w1 (w.heap.size) 30 #[.int .i64 0, .slice none 0 0] := by
    rw [hw1]
    have := ((Blk.new w 30 #[.int .i64 0, .slice none 0 0]).alloc (.cells #[.int .i64 2, .slice none 0 0] 30))
    simpa using this
  have hBT : Blk w1 (w.heap.size + 1) 30 #[.int .i64 2, .slice none 0 0] := by
    rw [hw1]
    have := (Blk.new (w.alloc (.cells #[.int .i64 0, .slice none 0 0] 30)) 30 #[.int .i64 2, .slice none 0 0])
    simpa using this
  clear hw1
  obtain ⟨R, hR⟩ : ∃ b, w.heap.size = b := ⟨_, rfl⟩
  obtain ⟨D, hD⟩ : ∃ b, w.heap.size + 1 = b := ⟨_, rfl⟩
  rw [hD] at hBT ⊢
  rw [hR] at hBR ⊢
  have hRD : R ≠ D := by omega
  have hwR : w.heap.size ≤ R := by omega
  have hwD : w.heap.size ≤ D := by omega
  clear hR hD
  have HS1 := Lib.hid hs1
  have HBR := Lib.hid hBR
  have HBT := Lib.hid hBT
  clear hs1 hBR hBT
  go_wp2
  go_loopw [7, 8] (fun i _x wr => ∃ (k : Nat) (A2 : Option Addr) (C2 : Nat), k ≤ 1 ∧ i = .int .i64 k ∧ Same w wr ∧ Blk wr R 30 #[.int .i64 0, .slice none 0 0] ∧ Blk wr D 30 #[.int .i64 2, .slice A2 k C2] ∧ Fresh w.heap.size A2 ∧ (∀ b, rowOf A2 b → b ≠ R ∧ b ≠ D) ∧ OwnW wr A2 k C2 ((tabW 2 us).take k)) (fun i _ _ => 1 - (intOf i).toNat)
  case atStart => exact ⟨0, none, 0, by omega, rfl, HS1.out, HBR.out, HBT.out, fresh_none _, fun b ⟨a, h, _⟩ => (by cases h), Own.nil _ _ _ _⟩
  case round =>
    obtain ⟨k, A2, C2, hk, rfl, hs, hbr, hbt, hf, hne, ho⟩ := hrel
    have HS := Lib.hid hs
    have HR := Lib.hid hbr
    have HT := Lib.hid hbt
    have HF := Lib.hid hf
    have HNE := Lib.hid hne
    have HO := Lib.hid ho
    have hlk : ((tabW 2 us).take k).length = k := by rw [List.length_take, tabW_len, HNW.out]; omega
    have HLK := Lib.hid hlk
    clear hs hbr hbt hf hne ho hlk
    by_cases hlt : k < 1
    · have hi1 : (k : Int) < 1 := by omega
      have hi0 : (0 : Int) ≤ k := by omega
      have hnx := take_snoc (tabW_get (n := 2) (us := us) (show k < nw 2 by rw [HNW.out]; exact hlt))
      have HNX := Lib.hid hnx
      clear hnx
      by_cases hm0 : us.length = 0
      · have hz : tblW 2 us k = 0 := by
          obtain rfl : us = [] := List.length_eq_zero_iff.1 hm0
          unfold tblW; simp
        rw [hz] at HNX
        have hm1 : ¬ (0 : Int) < us.length := by omega
        have hm2 : ¬ 0 < us.length := by omega
        clear hz hm0
        go_upto_region 13 with fail
        simp only [show bits .and .u64 (0 : Int) 15 = 0 by decide]
        have hcT1 : wr.cell? ⟨D, 1, none⟩ = some (.slice A2 k C2) := HT.out.cell 1
        have hlT := HT.out.lt
        refine wp_read 3 ?_
        simp only [List.take_succ_cons, List.take_zero, List.drop_succ_cons, List.drop_zero]
        repeat (any_goals (first | go_big_quiet_step (fail) | quiet_step (fail)))
        refine wpQuiet_nil ?_
        refine wpList_plain rfl fun K hK => ?_
        go_simp
        refine hK _ _ ?_
        clear hK K
        refine list_world fun wa hwa => ?_
        have hN := Blk.new wr 39 #[.int .u64 0]
        have hsa : Same wr wa := by rw [hwa]; exact (Frm.refl _ _).alloc _
        rw [← hwa] at hN
        clear hwa hcT1 hlT
        refine Own.append_list (f := ucell) rfl (.tmp 40) (.tmp 42) _ rfl Try.underlying28 info_u64 rfl (by omega) rfl ((HO.out).frm hsa (fun _ _ => id)) (fun _ => rfl) 0 wr.heap.size 1 rfl hN (by simp [Value.oneCell', ucell]) (by rw [HLK.out]; simp [maxLen] <;> omega) (by rw [HLK.out]; omega) ?_
        intro gg cap wb hOb hgb hat
        have hnR : (Value.slice A2 k C2).ownBlock ≠ some R := fun h => (HNE.out R (ownBlock_row.1 h)).1 rfl
        have hnD : (Value.slice A2 k C2).ownBlock ≠ some D := fun h => (HNE.out D (ownBlock_row.1 h)).2 rfl
        have hbr := (HR.out.frm hsa id).grown hgb (fun h => hnR h.symm)
        have hbt := (HT.out.frm hsa id).grown hgb (fun h => hnD h.symm)
        have hgR : gg ≠ R := fun h => by
          rcases hat with h1 | h1
          · exact hnR (h ▸ h1)
          · have := (HR.out.frm hsa id).lt; omega
        have hgD : gg ≠ D := fun h => by
          rcases hat with h1 | h1
          · exact hnD (h ▸ h1)
          · have := (HT.out.frm hsa id).lt; omega
        have HOb := Lib.hid hOb
        have HSb := Lib.hid (Same.app (HS.out) hsa hgb (HF.out))
        have HFb := Lib.hid (fresh_app (HS.out) hsa (HF.out) hat)
        have HBRb := Lib.hid hbr
        have HBTb := Lib.hid hbt
        have hcT0 : wb.cell? ⟨D, 0, none⟩ = some (.int .i64 2) := hbt.cell 0
        have hcT1 : wb.cell? ⟨D, 1, none⟩ = some (.slice A2 k C2) := hbt.cell 1
        have hfT1 := hbt.free 1
        have hlT := hbt.lt
        clear hOb hgb hat hsa hN hbr hbt hnR hnD
        go_wp2
        go_roundw
        case rel =>
          refine ⟨k + 1, some ⟨gg, 0, none⟩, cap, by omega, by go_num, HSb.out.setNew 1 _ hwD, HBRb.out.far (p := ⟨D, 1, none⟩) hRD _, ?_, HFb.out, fun b ⟨a, h, h2⟩ => by injection h with h; subst h; subst h2; exact ⟨hgR, hgD⟩, ?_⟩
          · have := HBTb.out.set 1 (.slice (some ⟨gg, 0, none⟩) (k + 1) cap)
            simpa using this
          · rw [HNX.out]
            exact Own.far (p := ⟨D, 1, none⟩) HOb.out (fun a h => by injection h with h; subst h; exact hgD) _
        case measure => simp [intOf] <;> omega
      · have hm1 : (0 : Int) < us.length := by omega
        obtain ⟨d, hd⟩ : ∃ d, k % us.length = d := ⟨_, rfl⟩
        have hdl : d < us.length := by rw [← hd]; exact Nat.mod_lt _ (by omega)
        have hdk : d ≤ k := by rw [← hd]; exact Nat.mod_le _ _
        have hq2 : IntKind.i64.wrap (d : Int) = d := IntWalk.i64_in _ (by omega)
        obtain ⟨y, hy⟩ : ∃ y, us[d]? = some y := ⟨_, List.getElem?_eq_getElem hdl⟩
        have hyl := HSM.out.at1 hy
        have hz : tblW 2 us k = y % 16 := by unfold tblW; rw [hd, List.getD_eq_getElem?_getD, hy]; rfl
        rw [hz] at HNX
        obtain ⟨b, off, rfl, hb, hc⟩ := WL.at1 (Sl.same H.out HS.out) hy
        have hq0 : ¬ ((us.length : Nat) : Int) = 0 := by omega
        have hq1 : (k : Int).tmod ((us.length : Nat) : Int) = (d : Int) := by rw [← hd]; exact (Int.natCast_emod k us.length).symm ▸ (Int.tmod_eq_emod_of_nonneg (by omega))
        have hq3 : (k : Int) % ((us.length : Nat) : Int) = (d : Int) := by rw [← hd]; exact (Int.natCast_emod k us.length).symm
        have hd0 : (0 : Int) ≤ d := by omega
        have hd1 : (d : Int) < us.length := by omega
        have hmk : bits .and .u64 (y : Int) 15 = ((y % 16 : Nat) : Int) := by
          have h := u64_and_nat y 15 hyl (by omega)
          rw [show y &&& 15 = y % 16 from Nat.and_two_pow_sub_one_eq_mod y 4] at h
          exact h
        clear hz hd hy
        go_upto_region 13 with fail
        have hm2 : (y : Int) % 16 = ((y % 16 : Nat) : Int) := by omega
        simp only [hm2]
        clear hm2
        clear hmk
        obtain ⟨z, hz⟩ : ∃ z, y % 16 = z := ⟨_, rfl⟩
        simp only [hz] at HNX ⊢
        clear hz
        have hcT1 : wr.cell? ⟨D, 1, none⟩ = some (.slice A2 k C2) := HT.out.cell 1
        have hlT := HT.out.lt
        refine wp_read 3 ?_
        simp only [List.take_succ_cons, List.take_zero, List.drop_succ_cons, List.drop_zero]
        repeat (any_goals (first | go_big_quiet_step (fail) | quiet_step (fail)))
        refine wpQuiet_nil ?_
        refine wpList_plain rfl fun K hK => ?_
        go_simp
        refine hK _ _ ?_
        clear hK K
        refine list_world fun wa hwa => ?_
        have hN := Blk.new wr 39 #[.int .u64 (z : Int)]
        have hsa : Same wr wa := by rw [hwa]; exact (Frm.refl _ _).alloc _
        rw [← hwa] at hN
        clear hwa hcT1 hlT
        refine Own.append_list (f := ucell) rfl (.tmp 40) (.tmp 42) _ rfl Try.underlying28 info_u64 rfl (by omega) rfl ((HO.out).frm hsa (fun _ _ => id)) (fun _ => rfl) z wr.heap.size 1 rfl hN (by simp [Value.oneCell', ucell]) (by rw [HLK.out]; simp [maxLen] <;> omega) (by rw [HLK.out]; omega) ?_
        intro gg cap wb hOb hgb hat
        have hnR : (Value.slice A2 k C2).ownBlock ≠ some R := fun h => (HNE.out R (ownBlock_row.1 h)).1 rfl
        have hnD : (Value.slice A2 k C2).ownBlock ≠ some D := fun h => (HNE.out D (ownBlock_row.1 h)).2 rfl
        have hbr := (HR.out.frm hsa id).grown hgb (fun h => hnR h.symm)
        have hbt := (HT.out.frm hsa id).grown hgb (fun h => hnD h.symm)
        have hgR : gg ≠ R := fun h => by
          rcases hat with h1 | h1
          · exact hnR (h ▸ h1)
          · have := (HR.out.frm hsa id).lt; omega
        have hgD : gg ≠ D := fun h => by
          rcases hat with h1 | h1
          · exact hnD (h ▸ h1)
          · have := (HT.out.frm hsa id).lt; omega
        have HOb := Lib.hid hOb
        have HSb := Lib.hid (Same.app (HS.out) hsa hgb (HF.out))
        have HFb := Lib.hid (fresh_app (HS.out) hsa (HF.out) hat)
        have HBRb := Lib.hid hbr
        have HBTb := Lib.hid hbt
        have hcT0 : wb.cell? ⟨D, 0, none⟩ = some (.int .i64 2) := hbt.cell 0
        have hcT1 : wb.cell? ⟨D, 1, none⟩ = some (.slice A2 k C2) := hbt.cell 1
        have hfT1 := hbt.free 1
        have hlT := hbt.lt
        clear hOb hgb hat hsa hN hbr hbt hnR hnD
        go_wp2
        go_roundw
        case rel =>
          refine ⟨k + 1, some ⟨gg, 0, none⟩, cap, by omega, by go_num, HSb.out.setNew 1 _ hwD, HBRb.out.far (p := ⟨D, 1, none⟩) hRD _, ?_, HFb.out, fun b ⟨a, h, h2⟩ => by injection h with h; subst h; subst h2; exact ⟨hgR, hgD⟩, ?_⟩
          · have := HBTb.out.set 1 (.slice (some ⟨gg, 0, none⟩) (k + 1) cap)
            simpa using this
          · rw [HNX.out]
            exact Own.far (p := ⟨D, 1, none⟩) HOb.out (fun a h => by injection h with h; subst h; exact hgD) _
        case measure => simp [intOf] <;> omega
    · obtain rfl : k = 1 := by omega
      have hfull := HO.out
      rw [List.take_of_length_le (by rw [tabW_len, HNW.out]; exact Nat.le_refl _)] at hfull
      have hcR0 : wr.cell? ⟨R, 0, none⟩ = some (.int .i64 0) := HR.out.cell 0
      have hcR1 : wr.cell? ⟨R, 1, none⟩ = some (.slice none 0 0) := HR.out.cell 1
      have hcT0 : wr.cell? ⟨D, 0, none⟩ = some (.int .i64 2) := HT.out.cell 0
      have hcT1 : wr.cell? ⟨D, 1, none⟩ = some (.slice A2 1 C2) := HT.out.cell 1
      have hfR0 := HR.out.free 0
      have hfR1 := HR.out.free 1
      have hlR := HR.out.lt
      have hlT := HT.out.lt
      have HFU := Lib.hid hfull
      clear hfull
      go_wp2
      refine wp_post fun we hwe => ?_
      have hBE : Blk we R 30 #[.int .i64 2, .slice A2 1 C2] := by
        rw [hwe]
        have := (HR.out.set 0 (.int .i64 2)).set 1 (.slice A2 1 C2)
        simpa using this
      have hSE : Same w we := by rw [hwe]; exact (HS.out.setNew 0 _ hwR).setNew 1 _ hwR
      have hnR : ∀ a, A2 = some a → a.block ≠ R := fun a ha => (HNE.out a.block ⟨a, ha, rfl⟩).1
      have hOE : OwnW we A2 1 C2 (tabW 2 us) := by
        rw [hwe]
        exact Own.far (p := ⟨R, 1, none⟩) (Own.far (p := ⟨R, 0, none⟩) HFU.out hnR _) hnR _
      have hr0 : we.cell? ⟨R, 0, none⟩ = some (.int .i64 2) := hBE.cell 0
      have hr1 : we.cell? ⟨R, 1, none⟩ = some (.slice A2 1 C2) := hBE.cell 1
      clear hwe hBE
      refine bodyPost_ret (v := .agg #[.int .i64 2, .slice A2 1 C2]) (by simp [results, Try.results12, go_sem, hr0, hr1]) rfl ?_
      have hll : (tabW 2 us).length = 1 := by rw [tabW_len]; exact HNW.out
      exact ⟨A2, C2, by rw [hll], by rw [← hll] at hOE; exact ⟨hOE, HF.out, hSE⟩⟩
set_option maxRecDepth 100000 in
set_option maxHeartbeats 16000000 in
theorem table_3 (A : Option Addr) (m C : Nat) (us : List Nat) (w : World) (h : WL w A m us) (hsm : Small us) : Calls Try.prog 12 #[.int .i64 3, .slice A m C] w (RetT w 3 (tabW 3 us)) := by
  obtain rfl := h.len
  have H := Lib.hid h
  have HSM := Lib.hid hsm
  clear h hsm
  have hnw : nw 3 = 1 := by decide
  have HNW := Lib.hid hnw
  clear hnw
  go_enter Try.func12, Try.ntmps12
  go_upto_region 3 with fail
  refine wp_world fun w1 hw1 => ?_
  have hs1 : Same w w1 := by rw [hw1]; exact ((Frm.refl _ _).alloc _).alloc _
  have hBR : Blk w1 (w.heap.size) 30 #[.int .i64 0, .slice none 0 0] := by
    rw [hw1]
    have := ((Blk.new w 30 #[.int .i64 0, .slice none 0 0]).alloc (.cells #[.int .i64 3, .slice none 0 0] 30))
    simpa using this
  have hBT : Blk w1 (w.heap.size + 1) 30 #[.int .i64 3, .slice none 0 0] := by
    rw [hw1]
    have := (Blk.new (w.alloc (.cells #[.int .i64 0, .slice none 0 0] 30)) 30 #[.int .i64 3, .slice none 0 0])
    simpa using this
  clear hw1
  obtain ⟨R, hR⟩ : ∃ b, w.heap.size = b := ⟨_, rfl⟩
  obtain ⟨D, hD⟩ : ∃ b, w.heap.size + 1 = b := ⟨_, rfl⟩
  rw [hD] at hBT ⊢
  rw [hR] at hBR ⊢
  have hRD : R ≠ D := by omega
  have hwR : w.heap.size ≤ R := by omega
  have hwD : w.heap.size ≤ D := by omega
  clear hR hD
  have HS1 := Lib.hid hs1
  have HBR := Lib.hid hBR
  have HBT := Lib.hid hBT
  clear hs1 hBR hBT
  go_wp2
  go_loopw [7, 8] (fun i _x wr => ∃ (k : Nat) (A2 : Option Addr) (C2 : Nat), k ≤ 1 ∧ i = .int .i64 k ∧ Same w wr ∧ Blk wr R 30 #[.int .i64 0, .slice none 0 0] ∧ Blk wr D 30 #[.int .i64 3, .slice A2 k C2] ∧ Fresh w.heap.size A2 ∧ (∀ b, rowOf A2 b → b ≠ R ∧ b ≠ D) ∧ OwnW wr A2 k C2 ((tabW 3 us).take k)) (fun i _ _ => 1 - (intOf i).toNat)
  case atStart => exact ⟨0, none, 0, by omega, rfl, HS1.out, HBR.out, HBT.out, fresh_none _, fun b ⟨a, h, _⟩ => (by cases h), Own.nil _ _ _ _⟩
  case round =>
    obtain ⟨k, A2, C2, hk, rfl, hs, hbr, hbt, hf, hne, ho⟩ := hrel
    have HS := Lib.hid hs
    have HR := Lib.hid hbr
    have HT := Lib.hid hbt
    have HF := Lib.hid hf
    have HNE := Lib.hid hne
    have HO := Lib.hid ho
    have hlk : ((tabW 3 us).take k).length = k := by rw [List.length_take, tabW_len, HNW.out]; omega
    have HLK := Lib.hid hlk
    clear hs hbr hbt hf hne ho hlk
    by_cases hlt : k < 1
    · have hi1 : (k : Int) < 1 := by omega
      have hi0 : (0 : Int) ≤ k := by omega
      have hnx := take_snoc (tabW_get (n := 3) (us := us) (show k < nw 3 by rw [HNW.out]; exact hlt))
      have HNX := Lib.hid hnx
      clear hnx
      by_cases hm0 : us.length = 0
      · have hz : tblW 3 us k = 0 := by
          obtain rfl : us = [] := List.length_eq_zero_iff.1 hm0
          unfold tblW; simp
        rw [hz] at HNX
        have hm1 : ¬ (0 : Int) < us.length := by omega
        have hm2 : ¬ 0 < us.length := by omega
        clear hz hm0
        go_upto_region 13 with fail
        simp only [show bits .and .u64 (0 : Int) 255 = 0 by decide]
        have hcT1 : wr.cell? ⟨D, 1, none⟩ = some (.slice A2 k C2) := HT.out.cell 1
        have hlT := HT.out.lt
        refine wp_read 3 ?_
        simp only [List.take_succ_cons, List.take_zero, List.drop_succ_cons, List.drop_zero]
        repeat (any_goals (first | go_big_quiet_step (fail) | quiet_step (fail)))
        refine wpQuiet_nil ?_
        refine wpList_plain rfl fun K hK => ?_
        go_simp
        refine hK _ _ ?_
        clear hK K
        refine list_world fun wa hwa => ?_
        have hN := Blk.new wr 39 #[.int .u64 0]
        have hsa : Same wr wa := by rw [hwa]; exact (Frm.refl _ _).alloc _
        rw [← hwa] at hN
        clear hwa hcT1 hlT
        refine Own.append_list (f := ucell) rfl (.tmp 40) (.tmp 42) _ rfl Try.underlying28 info_u64 rfl (by omega) rfl ((HO.out).frm hsa (fun _ _ => id)) (fun _ => rfl) 0 wr.heap.size 1 rfl hN (by simp [Value.oneCell', ucell]) (by rw [HLK.out]; simp [maxLen] <;> omega) (by rw [HLK.out]; omega) ?_
        intro gg cap wb hOb hgb hat
        have hnR : (Value.slice A2 k C2).ownBlock ≠ some R := fun h => (HNE.out R (ownBlock_row.1 h)).1 rfl
        have hnD : (Value.slice A2 k C2).ownBlock ≠ some D := fun h => (HNE.out D (ownBlock_row.1 h)).2 rfl
        have hbr := (HR.out.frm hsa id).grown hgb (fun h => hnR h.symm)
        have hbt := (HT.out.frm hsa id).grown hgb (fun h => hnD h.symm)
        have hgR : gg ≠ R := fun h => by
          rcases hat with h1 | h1
          · exact hnR (h ▸ h1)
          · have := (HR.out.frm hsa id).lt; omega
        have hgD : gg ≠ D := fun h => by
          rcases hat with h1 | h1
          · exact hnD (h ▸ h1)
          · have := (HT.out.frm hsa id).lt; omega
        have HOb := Lib.hid hOb
        have HSb := Lib.hid (Same.app (HS.out) hsa hgb (HF.out))
        have HFb := Lib.hid (fresh_app (HS.out) hsa (HF.out) hat)
        have HBRb := Lib.hid hbr
        have HBTb := Lib.hid hbt
        have hcT0 : wb.cell? ⟨D, 0, none⟩ = some (.int .i64 3) := hbt.cell 0
        have hcT1 : wb.cell? ⟨D, 1, none⟩ = some (.slice A2 k C2) := hbt.cell 1
        have hfT1 := hbt.free 1
        have hlT := hbt.lt
        clear hOb hgb hat hsa hN hbr hbt hnR hnD
        go_wp2
        go_roundw
        case rel =>
          refine ⟨k + 1, some ⟨gg, 0, none⟩, cap, by omega, by go_num, HSb.out.setNew 1 _ hwD, HBRb.out.far (p := ⟨D, 1, none⟩) hRD _, ?_, HFb.out, fun b ⟨a, h, h2⟩ => by injection h with h; subst h; subst h2; exact ⟨hgR, hgD⟩, ?_⟩
          · have := HBTb.out.set 1 (.slice (some ⟨gg, 0, none⟩) (k + 1) cap)
            simpa using this
          · rw [HNX.out]
            exact Own.far (p := ⟨D, 1, none⟩) HOb.out (fun a h => by injection h with h; subst h; exact hgD) _
        case measure => simp [intOf] <;> omega
      · have hm1 : (0 : Int) < us.length := by omega
        obtain ⟨d, hd⟩ : ∃ d, k % us.length = d := ⟨_, rfl⟩
        have hdl : d < us.length := by rw [← hd]; exact Nat.mod_lt _ (by omega)
        have hdk : d ≤ k := by rw [← hd]; exact Nat.mod_le _ _
        have hq2 : IntKind.i64.wrap (d : Int) = d := IntWalk.i64_in _ (by omega)
        obtain ⟨y, hy⟩ : ∃ y, us[d]? = some y := ⟨_, List.getElem?_eq_getElem hdl⟩
        have hyl := HSM.out.at1 hy
        have hz : tblW 3 us k = y % 256 := by unfold tblW; rw [hd, List.getD_eq_getElem?_getD, hy]; rfl
        rw [hz] at HNX
        obtain ⟨b, off, rfl, hb, hc⟩ := WL.at1 (Sl.same H.out HS.out) hy
        have hq0 : ¬ ((us.length : Nat) : Int) = 0 := by omega
        have hq1 : (k : Int).tmod ((us.length : Nat) : Int) = (d : Int) := by rw [← hd]; exact (Int.natCast_emod k us.length).symm ▸ (Int.tmod_eq_emod_of_nonneg (by omega))
        have hq3 : (k : Int) % ((us.length : Nat) : Int) = (d : Int) := by rw [← hd]; exact (Int.natCast_emod k us.length).symm
        have hd0 : (0 : Int) ≤ d := by omega
        have hd1 : (d : Int) < us.length := by omega
        have hmk : bits .and .u64 (y : Int) 255 = ((y % 256 : Nat) : Int) := by
          have h := u64_and_nat y 255 hyl (by omega)
          rw [show y &&& 255 = y % 256 from Nat.and_two_pow_sub_one_eq_mod y 8] at h
          exact h
        clear hz hd hy
        go_upto_region 13 with fail
        have hm2 : (y : Int) % 256 = ((y % 256 : Nat) : Int) := by omega
        simp only [hm2]
        clear hm2
        clear hmk
        obtain ⟨z, hz⟩ : ∃ z, y % 256 = z := ⟨_, rfl⟩
        simp only [hz] at HNX ⊢
        clear hz
        have hcT1 : wr.cell? ⟨D, 1, none⟩ = some (.slice A2 k C2) := HT.out.cell 1
        have hlT := HT.out.lt
        refine wp_read 3 ?_
        simp only [List.take_succ_cons, List.take_zero, List.drop_succ_cons, List.drop_zero]
        repeat (any_goals (first | go_big_quiet_step (fail) | quiet_step (fail)))
        refine wpQuiet_nil ?_
        refine wpList_plain rfl fun K hK => ?_
        go_simp
        refine hK _ _ ?_
        clear hK K
        refine list_world fun wa hwa => ?_
        have hN := Blk.new wr 39 #[.int .u64 (z : Int)]
        have hsa : Same wr wa := by rw [hwa]; exact (Frm.refl _ _).alloc _
        rw [← hwa] at hN
        clear hwa hcT1 hlT
        refine Own.append_list (f := ucell) rfl (.tmp 40) (.tmp 42) _ rfl Try.underlying28 info_u64 rfl (by omega) rfl ((HO.out).frm hsa (fun _ _ => id)) (fun _ => rfl) z wr.heap.size 1 rfl hN (by simp [Value.oneCell', ucell]) (by rw [HLK.out]; simp [maxLen] <;> omega) (by rw [HLK.out]; omega) ?_
        intro gg cap wb hOb hgb hat
        have hnR : (Value.slice A2 k C2).ownBlock ≠ some R := fun h => (HNE.out R (ownBlock_row.1 h)).1 rfl
        have hnD : (Value.slice A2 k C2).ownBlock ≠ some D := fun h => (HNE.out D (ownBlock_row.1 h)).2 rfl
        have hbr := (HR.out.frm hsa id).grown hgb (fun h => hnR h.symm)
        have hbt := (HT.out.frm hsa id).grown hgb (fun h => hnD h.symm)
        have hgR : gg ≠ R := fun h => by
          rcases hat with h1 | h1
          · exact hnR (h ▸ h1)
          · have := (HR.out.frm hsa id).lt; omega
        have hgD : gg ≠ D := fun h => by
          rcases hat with h1 | h1
          · exact hnD (h ▸ h1)
          · have := (HT.out.frm hsa id).lt; omega
        have HOb := Lib.hid hOb
        have HSb := Lib.hid (Same.app (HS.out) hsa hgb (HF.out))
        have HFb := Lib.hid (fresh_app (HS.out) hsa (HF.out) hat)
        have HBRb := Lib.hid hbr
        have HBTb := Lib.hid hbt
        have hcT0 : wb.cell? ⟨D, 0, none⟩ = some (.int .i64 3) := hbt.cell 0
        have hcT1 : wb.cell? ⟨D, 1, none⟩ = some (.slice A2 k C2) := hbt.cell 1
        have hfT1 := hbt.free 1
        have hlT := hbt.lt
        clear hOb hgb hat hsa hN hbr hbt hnR hnD
        go_wp2
        go_roundw
        case rel =>
          refine ⟨k + 1, some ⟨gg, 0, none⟩, cap, by omega, by go_num, HSb.out.setNew 1 _ hwD, HBRb.out.far (p := ⟨D, 1, none⟩) hRD _, ?_, HFb.out, fun b ⟨a, h, h2⟩ => by injection h with h; subst h; subst h2; exact ⟨hgR, hgD⟩, ?_⟩
          · have := HBTb.out.set 1 (.slice (some ⟨gg, 0, none⟩) (k + 1) cap)
            simpa using this
          · rw [HNX.out]
            exact Own.far (p := ⟨D, 1, none⟩) HOb.out (fun a h => by injection h with h; subst h; exact hgD) _
        case measure => simp [intOf] <;> omega
    · obtain rfl : k = 1 := by omega
      have hfull := HO.out
      rw [List.take_of_length_le (by rw [tabW_len, HNW.out]; exact Nat.le_refl _)] at hfull
      have hcR0 : wr.cell? ⟨R, 0, none⟩ = some (.int .i64 0) := HR.out.cell 0
      have hcR1 : wr.cell? ⟨R, 1, none⟩ = some (.slice none 0 0) := HR.out.cell 1
      have hcT0 : wr.cell? ⟨D, 0, none⟩ = some (.int .i64 3) := HT.out.cell 0
      have hcT1 : wr.cell? ⟨D, 1, none⟩ = some (.slice A2 1 C2) := HT.out.cell 1
      have hfR0 := HR.out.free 0
      have hfR1 := HR.out.free 1
      have hlR := HR.out.lt
      have hlT := HT.out.lt
      have HFU := Lib.hid hfull
      clear hfull
      go_wp2
      refine wp_post fun we hwe => ?_
      have hBE : Blk we R 30 #[.int .i64 3, .slice A2 1 C2] := by
        rw [hwe]
        have := (HR.out.set 0 (.int .i64 3)).set 1 (.slice A2 1 C2)
        simpa using this
      have hSE : Same w we := by rw [hwe]; exact (HS.out.setNew 0 _ hwR).setNew 1 _ hwR
      have hnR : ∀ a, A2 = some a → a.block ≠ R := fun a ha => (HNE.out a.block ⟨a, ha, rfl⟩).1
      have hOE : OwnW we A2 1 C2 (tabW 3 us) := by
        rw [hwe]
        exact Own.far (p := ⟨R, 1, none⟩) (Own.far (p := ⟨R, 0, none⟩) HFU.out hnR _) hnR _
      have hr0 : we.cell? ⟨R, 0, none⟩ = some (.int .i64 3) := hBE.cell 0
      have hr1 : we.cell? ⟨R, 1, none⟩ = some (.slice A2 1 C2) := hBE.cell 1
      clear hwe hBE
      refine bodyPost_ret (v := .agg #[.int .i64 3, .slice A2 1 C2]) (by simp [results, Try.results12, go_sem, hr0, hr1]) rfl ?_
      have hll : (tabW 3 us).length = 1 := by rw [tabW_len]; exact HNW.out
      exact ⟨A2, C2, by rw [hll], by rw [← hll] at hOE; exact ⟨hOE, HF.out, hSE⟩⟩
set_option maxRecDepth 100000 in
set_option maxHeartbeats 16000000 in
theorem table_4 (A : Option Addr) (m C : Nat) (us : List Nat) (w : World) (h : WL w A m us) (hsm : Small us) : Calls Try.prog 12 #[.int .i64 4, .slice A m C] w (RetT w 4 (tabW 4 us)) := by
  obtain rfl := h.len
  have H := Lib.hid h
  have HSM := Lib.hid hsm
  clear h hsm
  have hnw : nw 4 = 1 := by decide
  have HNW := Lib.hid hnw
  clear hnw
  go_enter Try.func12, Try.ntmps12
  go_upto_region 3 with fail
  refine wp_world fun w1 hw1 => ?_
  have hs1 : Same w w1 := by rw [hw1]; exact ((Frm.refl _ _).alloc _).alloc _
  have hBR : Blk w1 (w.heap.size) 30 #[.int .i64 0, .slice none 0 0] := by
    rw [hw1]
    have := ((Blk.new w 30 #[.int .i64 0, .slice none 0 0]).alloc (.cells #[.int .i64 4, .slice none 0 0] 30))
    simpa using this
  have hBT : Blk w1 (w.heap.size + 1) 30 #[.int .i64 4, .slice none 0 0] := by
    rw [hw1]
    have := (Blk.new (w.alloc (.cells #[.int .i64 0, .slice none 0 0] 30)) 30 #[.int .i64 4, .slice none 0 0])
    simpa using this
  clear hw1
  obtain ⟨R, hR⟩ : ∃ b, w.heap.size = b := ⟨_, rfl⟩
  obtain ⟨D, hD⟩ : ∃ b, w.heap.size + 1 = b := ⟨_, rfl⟩
  rw [hD] at hBT ⊢
  rw [hR] at hBR ⊢
  have hRD : R ≠ D := by omega
  have hwR : w.heap.size ≤ R := by omega
  have hwD : w.heap.size ≤ D := by omega
  clear hR hD
  have HS1 := Lib.hid hs1
  have HBR := Lib.hid hBR
  have HBT := Lib.hid hBT
  clear hs1 hBR hBT
  go_wp2
  go_loopw [7, 8] (fun i _x wr => ∃ (k : Nat) (A2 : Option Addr) (C2 : Nat), k ≤ 1 ∧ i = .int .i64 k ∧ Same w wr ∧ Blk wr R 30 #[.int .i64 0, .slice none 0 0] ∧ Blk wr D 30 #[.int .i64 4, .slice A2 k C2] ∧ Fresh w.heap.size A2 ∧ (∀ b, rowOf A2 b → b ≠ R ∧ b ≠ D) ∧ OwnW wr A2 k C2 ((tabW 4 us).take k)) (fun i _ _ => 1 - (intOf i).toNat)
  case atStart => exact ⟨0, none, 0, by omega, rfl, HS1.out, HBR.out, HBT.out, fresh_none _, fun b ⟨a, h, _⟩ => (by cases h), Own.nil _ _ _ _⟩
  case round =>
    obtain ⟨k, A2, C2, hk, rfl, hs, hbr, hbt, hf, hne, ho⟩ := hrel
    have HS := Lib.hid hs
    have HR := Lib.hid hbr
    have HT := Lib.hid hbt
    have HF := Lib.hid hf
    have HNE := Lib.hid hne
    have HO := Lib.hid ho
    have hlk : ((tabW 4 us).take k).length = k := by rw [List.length_take, tabW_len, HNW.out]; omega
    have HLK := Lib.hid hlk
    clear hs hbr hbt hf hne ho hlk
    by_cases hlt : k < 1
    · have hi1 : (k : Int) < 1 := by omega
      have hi0 : (0 : Int) ≤ k := by omega
      have hnx := take_snoc (tabW_get (n := 4) (us := us) (show k < nw 4 by rw [HNW.out]; exact hlt))
      have HNX := Lib.hid hnx
      clear hnx
      by_cases hm0 : us.length = 0
      · have hz : tblW 4 us k = 0 := by
          obtain rfl : us = [] := List.length_eq_zero_iff.1 hm0
          unfold tblW; simp
        rw [hz] at HNX
        have hm1 : ¬ (0 : Int) < us.length := by omega
        have hm2 : ¬ 0 < us.length := by omega
        clear hz hm0
        go_upto_region 13 with fail
        simp only [show bits .and .u64 (0 : Int) 65535 = 0 by decide]
        have hcT1 : wr.cell? ⟨D, 1, none⟩ = some (.slice A2 k C2) := HT.out.cell 1
        have hlT := HT.out.lt
        refine wp_read 3 ?_
        simp only [List.take_succ_cons, List.take_zero, List.drop_succ_cons, List.drop_zero]
        repeat (any_goals (first | go_big_quiet_step (fail) | quiet_step (fail)))
        refine wpQuiet_nil ?_
        refine wpList_plain rfl fun K hK => ?_
        go_simp
        refine hK _ _ ?_
        clear hK K
        refine list_world fun wa hwa => ?_
        have hN := Blk.new wr 39 #[.int .u64 0]
        have hsa : Same wr wa := by rw [hwa]; exact (Frm.refl _ _).alloc _
        rw [← hwa] at hN
        clear hwa hcT1 hlT
        refine Own.append_list (f := ucell) rfl (.tmp 40) (.tmp 42) _ rfl Try.underlying28 info_u64 rfl (by omega) rfl ((HO.out).frm hsa (fun _ _ => id)) (fun _ => rfl) 0 wr.heap.size 1 rfl hN (by simp [Value.oneCell', ucell]) (by rw [HLK.out]; simp [maxLen] <;> omega) (by rw [HLK.out]; omega) ?_
        intro gg cap wb hOb hgb hat
        have hnR : (Value.slice A2 k C2).ownBlock ≠ some R := fun h => (HNE.out R (ownBlock_row.1 h)).1 rfl
        have hnD : (Value.slice A2 k C2).ownBlock ≠ some D := fun h => (HNE.out D (ownBlock_row.1 h)).2 rfl
        have hbr := (HR.out.frm hsa id).grown hgb (fun h => hnR h.symm)
        have hbt := (HT.out.frm hsa id).grown hgb (fun h => hnD h.symm)
        have hgR : gg ≠ R := fun h => by
          rcases hat with h1 | h1
          · exact hnR (h ▸ h1)
          · have := (HR.out.frm hsa id).lt; omega
        have hgD : gg ≠ D := fun h => by
          rcases hat with h1 | h1
          · exact hnD (h ▸ h1)
          · have := (HT.out.frm hsa id).lt; omega
        have HOb := Lib.hid hOb
        have HSb := Lib.hid (Same.app (HS.out) hsa hgb (HF.out))
        have HFb := Lib.hid (fresh_app (HS.out) hsa (HF.out) hat)
        have HBRb := Lib.hid hbr
        have HBTb := Lib.hid hbt
        have hcT0 : wb.cell? ⟨D, 0, none⟩ = some (.int .i64 4) := hbt.cell 0
        have hcT1 : wb.cell? ⟨D, 1, none⟩ = some (.slice A2 k C2) := hbt.cell 1
        have hfT1 := hbt.free 1
        have hlT := hbt.lt
        clear hOb hgb hat hsa hN hbr hbt hnR hnD
        go_wp2
        go_roundw
        case rel =>
          refine ⟨k + 1, some ⟨gg, 0, none⟩, cap, by omega, by go_num, HSb.out.setNew 1 _ hwD, HBRb.out.far (p := ⟨D, 1, none⟩) hRD _, ?_, HFb.out, fun b ⟨a, h, h2⟩ => by injection h with h; subst h; subst h2; exact ⟨hgR, hgD⟩, ?_⟩
          · have := HBTb.out.set 1 (.slice (some ⟨gg, 0, none⟩) (k + 1) cap)
            simpa using this
          · rw [HNX.out]
            exact Own.far (p := ⟨D, 1, none⟩) HOb.out (fun a h => by injection h with h; subst h; exact hgD) _
        case measure => simp [intOf] <;> omega
      · have hm1 : (0 : Int) < us.length := by omega
        obtain ⟨d, hd⟩ : ∃ d, k % us.length = d := ⟨_, rfl⟩
        have hdl : d < us.length := by rw [← hd]; exact Nat.mod_lt _ (by omega)
        have hdk : d ≤ k := by rw [← hd]; exact Nat.mod_le _ _
        have hq2 : IntKind.i64.wrap (d : Int) = d := IntWalk.i64_in _ (by omega)
        obtain ⟨y, hy⟩ : ∃ y, us[d]? = some y := ⟨_, List.getElem?_eq_getElem hdl⟩
        have hyl := HSM.out.at1 hy
        have hz : tblW 4 us k = y % 65536 := by unfold tblW; rw [hd, List.getD_eq_getElem?_getD, hy]; rfl
        rw [hz] at HNX
        obtain ⟨b, off, rfl, hb, hc⟩ := WL.at1 (Sl.same H.out HS.out) hy
        have hq0 : ¬ ((us.length : Nat) : Int) = 0 := by omega
        have hq1 : (k : Int).tmod ((us.length : Nat) : Int) = (d : Int) := by rw [← hd]; exact (Int.natCast_emod k us.length).symm ▸ (Int.tmod_eq_emod_of_nonneg (by omega))
        have hq3 : (k : Int) % ((us.length : Nat) : Int) = (d : Int) := by rw [← hd]; exact (Int.natCast_emod k us.length).symm
        have hd0 : (0 : Int) ≤ d := by omega
        have hd1 : (d : Int) < us.length := by omega
        have hmk : bits .and .u64 (y : Int) 65535 = ((y % 65536 : Nat) : Int) := by
          have h := u64_and_nat y 65535 hyl (by omega)
          rw [show y &&& 65535 = y % 65536 from Nat.and_two_pow_sub_one_eq_mod y 16] at h
          exact h
        clear hz hd hy
        go_upto_region 13 with fail
        have hm2 : (y : Int) % 65536 = ((y % 65536 : Nat) : Int) := by omega
        simp only [hm2]
        clear hm2
        clear hmk
        obtain ⟨z, hz⟩ : ∃ z, y % 65536 = z := ⟨_, rfl⟩
        simp only [hz] at HNX ⊢
        clear hz
        have hcT1 : wr.cell? ⟨D, 1, none⟩ = some (.slice A2 k C2) := HT.out.cell 1
        have hlT := HT.out.lt
        refine wp_read 3 ?_
        simp only [List.take_succ_cons, List.take_zero, List.drop_succ_cons, List.drop_zero]
        repeat (any_goals (first | go_big_quiet_step (fail) | quiet_step (fail)))
        refine wpQuiet_nil ?_
        refine wpList_plain rfl fun K hK => ?_
        go_simp
        refine hK _ _ ?_
        clear hK K
        refine list_world fun wa hwa => ?_
        have hN := Blk.new wr 39 #[.int .u64 (z : Int)]
        have hsa : Same wr wa := by rw [hwa]; exact (Frm.refl _ _).alloc _
        rw [← hwa] at hN
        clear hwa hcT1 hlT
        refine Own.append_list (f := ucell) rfl (.tmp 40) (.tmp 42) _ rfl Try.underlying28 info_u64 rfl (by omega) rfl ((HO.out).frm hsa (fun _ _ => id)) (fun _ => rfl) z wr.heap.size 1 rfl hN (by simp [Value.oneCell', ucell]) (by rw [HLK.out]; simp [maxLen] <;> omega) (by rw [HLK.out]; omega) ?_
        intro gg cap wb hOb hgb hat
        have hnR : (Value.slice A2 k C2).ownBlock ≠ some R := fun h => (HNE.out R (ownBlock_row.1 h)).1 rfl
        have hnD : (Value.slice A2 k C2).ownBlock ≠ some D := fun h => (HNE.out D (ownBlock_row.1 h)).2 rfl
        have hbr := (HR.out.frm hsa id).grown hgb (fun h => hnR h.symm)
        have hbt := (HT.out.frm hsa id).grown hgb (fun h => hnD h.symm)
        have hgR : gg ≠ R := fun h => by
          rcases hat with h1 | h1
          · exact hnR (h ▸ h1)
          · have := (HR.out.frm hsa id).lt; omega
        have hgD : gg ≠ D := fun h => by
          rcases hat with h1 | h1
          · exact hnD (h ▸ h1)
          · have := (HT.out.frm hsa id).lt; omega
        have HOb := Lib.hid hOb
        have HSb := Lib.hid (Same.app (HS.out) hsa hgb (HF.out))
        have HFb := Lib.hid (fresh_app (HS.out) hsa (HF.out) hat)
        have HBRb := Lib.hid hbr
        have HBTb := Lib.hid hbt
        have hcT0 : wb.cell? ⟨D, 0, none⟩ = some (.int .i64 4) := hbt.cell 0
        have hcT1 : wb.cell? ⟨D, 1, none⟩ = some (.slice A2 k C2) := hbt.cell 1
        have hfT1 := hbt.free 1
        have hlT := hbt.lt
        clear hOb hgb hat hsa hN hbr hbt hnR hnD
        go_wp2
        go_roundw
        case rel =>
          refine ⟨k + 1, some ⟨gg, 0, none⟩, cap, by omega, by go_num, HSb.out.setNew 1 _ hwD, HBRb.out.far (p := ⟨D, 1, none⟩) hRD _, ?_, HFb.out, fun b ⟨a, h, h2⟩ => by injection h with h; subst h; subst h2; exact ⟨hgR, hgD⟩, ?_⟩
          · have := HBTb.out.set 1 (.slice (some ⟨gg, 0, none⟩) (k + 1) cap)
            simpa using this
          · rw [HNX.out]
            exact Own.far (p := ⟨D, 1, none⟩) HOb.out (fun a h => by injection h with h; subst h; exact hgD) _
        case measure => simp [intOf] <;> omega
    · obtain rfl : k = 1 := by omega
      have hfull := HO.out
      rw [List.take_of_length_le (by rw [tabW_len, HNW.out]; exact Nat.le_refl _)] at hfull
      have hcR0 : wr.cell? ⟨R, 0, none⟩ = some (.int .i64 0) := HR.out.cell 0
      have hcR1 : wr.cell? ⟨R, 1, none⟩ = some (.slice none 0 0) := HR.out.cell 1
      have hcT0 : wr.cell? ⟨D, 0, none⟩ = some (.int .i64 4) := HT.out.cell 0
      have hcT1 : wr.cell? ⟨D, 1, none⟩ = some (.slice A2 1 C2) := HT.out.cell 1
      have hfR0 := HR.out.free 0
      have hfR1 := HR.out.free 1
      have hlR := HR.out.lt
      have hlT := HT.out.lt
      have HFU := Lib.hid hfull
      clear hfull
      go_wp2
      refine wp_post fun we hwe => ?_
      have hBE : Blk we R 30 #[.int .i64 4, .slice A2 1 C2] := by
        rw [hwe]
        have := (HR.out.set 0 (.int .i64 4)).set 1 (.slice A2 1 C2)
        simpa using this
      have hSE : Same w we := by rw [hwe]; exact (HS.out.setNew 0 _ hwR).setNew 1 _ hwR
      have hnR : ∀ a, A2 = some a → a.block ≠ R := fun a ha => (HNE.out a.block ⟨a, ha, rfl⟩).1
      have hOE : OwnW we A2 1 C2 (tabW 4 us) := by
        rw [hwe]
        exact Own.far (p := ⟨R, 1, none⟩) (Own.far (p := ⟨R, 0, none⟩) HFU.out hnR _) hnR _
      have hr0 : we.cell? ⟨R, 0, none⟩ = some (.int .i64 4) := hBE.cell 0
      have hr1 : we.cell? ⟨R, 1, none⟩ = some (.slice A2 1 C2) := hBE.cell 1
      clear hwe hBE
      refine bodyPost_ret (v := .agg #[.int .i64 4, .slice A2 1 C2]) (by simp [results, Try.results12, go_sem, hr0, hr1]) rfl ?_
      have hll : (tabW 4 us).length = 1 := by rw [tabW_len]; exact HNW.out
      exact ⟨A2, C2, by rw [hll], by rw [← hll] at hOE; exact ⟨hOE, HF.out, hSE⟩⟩
set_option maxRecDepth 100000 in
set_option maxHeartbeats 16000000 in
theorem table_5 (A : Option Addr) (m C : Nat) (us : List Nat) (w : World) (h : WL w A m us) (hsm : Small us) : Calls Try.prog 12 #[.int .i64 5, .slice A m C] w (RetT w 5 (tabW 5 us)) := by
  obtain rfl := h.len
  have H := Lib.hid h
  have HSM := Lib.hid hsm
  clear h hsm
  have hnw : nw 5 = 1 := by decide
  have HNW := Lib.hid hnw
  clear hnw
  go_enter Try.func12, Try.ntmps12
  go_upto_region 3 with fail
  refine wp_world fun w1 hw1 => ?_
  have hs1 : Same w w1 := by rw [hw1]; exact ((Frm.refl _ _).alloc _).alloc _
  have hBR : Blk w1 (w.heap.size) 30 #[.int .i64 0, .slice none 0 0] := by
    rw [hw1]
    have := ((Blk.new w 30 #[.int .i64 0, .slice none 0 0]).alloc (.cells #[.int .i64 5, .slice none 0 0] 30))
    simpa using this
  have hBT : Blk w1 (w.heap.size + 1) 30 #[.int .i64 5, .slice none 0 0] := by
    rw [hw1]
    have := (Blk.new (w.alloc (.cells #[.int .i64 0, .slice none 0 0] 30)) 30 #[.int .i64 5, .slice none 0 0])
    simpa using this
  clear hw1
  obtain ⟨R, hR⟩ : ∃ b, w.heap.size = b := ⟨_, rfl⟩
  obtain ⟨D, hD⟩ : ∃ b, w.heap.size + 1 = b := ⟨_, rfl⟩
  rw [hD] at hBT ⊢
  rw [hR] at hBR ⊢
  have hRD : R ≠ D := by omega
  have hwR : w.heap.size ≤ R := by omega
  have hwD : w.heap.size ≤ D := by omega
  clear hR hD
  have HS1 := Lib.hid hs1
  have HBR := Lib.hid hBR
  have HBT := Lib.hid hBT
  clear hs1 hBR hBT
  go_wp2
  go_loopw [7, 8] (fun i _x wr => ∃ (k : Nat) (A2 : Option Addr) (C2 : Nat), k ≤ 1 ∧ i = .int .i64 k ∧ Same w wr ∧ Blk wr R 30 #[.int .i64 0, .slice none 0 0] ∧ Blk wr D 30 #[.int .i64 5, .slice A2 k C2] ∧ Fresh w.heap.size A2 ∧ (∀ b, rowOf A2 b → b ≠ R ∧ b ≠ D) ∧ OwnW wr A2 k C2 ((tabW 5 us).take k)) (fun i _ _ => 1 - (intOf i).toNat)
  case atStart => exact ⟨0, none, 0, by omega, rfl, HS1.out, HBR.out, HBT.out, fresh_none _, fun b ⟨a, h, _⟩ => (by cases h), Own.nil _ _ _ _⟩
  case round =>
    obtain ⟨k, A2, C2, hk, rfl, hs, hbr, hbt, hf, hne, ho⟩ := hrel
    have HS := Lib.hid hs
    have HR := Lib.hid hbr
    have HT := Lib.hid hbt
    have HF := Lib.hid hf
    have HNE := Lib.hid hne
    have HO := Lib.hid ho
    have hlk : ((tabW 5 us).take k).length = k := by rw [List.length_take, tabW_len, HNW.out]; omega
    have HLK := Lib.hid hlk
    clear hs hbr hbt hf hne ho hlk
    by_cases hlt : k < 1
    · have hi1 : (k : Int) < 1 := by omega
      have hi0 : (0 : Int) ≤ k := by omega
      have hnx := take_snoc (tabW_get (n := 5) (us := us) (show k < nw 5 by rw [HNW.out]; exact hlt))
      have HNX := Lib.hid hnx
      clear hnx
      by_cases hm0 : us.length = 0
      · have hz : tblW 5 us k = 0 := by
          obtain rfl : us = [] := List.length_eq_zero_iff.1 hm0
          unfold tblW; simp
        rw [hz] at HNX
        have hm1 : ¬ (0 : Int) < us.length := by omega
        have hm2 : ¬ 0 < us.length := by omega
        clear hz hm0
        go_upto_region 13 with fail
        simp only [show bits .and .u64 (0 : Int) 4294967295 = 0 by decide]
        have hcT1 : wr.cell? ⟨D, 1, none⟩ = some (.slice A2 k C2) := HT.out.cell 1
        have hlT := HT.out.lt
        refine wp_read 3 ?_
        simp only [List.take_succ_cons, List.take_zero, List.drop_succ_cons, List.drop_zero]
        repeat (any_goals (first | go_big_quiet_step (fail) | quiet_step (fail)))
        refine wpQuiet_nil ?_
        refine wpList_plain rfl fun K hK => ?_
        go_simp
        refine hK _ _ ?_
        clear hK K
        refine list_world fun wa hwa => ?_
        have hN := Blk.new wr 39 #[.int .u64 0]
        have hsa : Same wr wa := by rw [hwa]; exact (Frm.refl _ _).alloc _
        rw [← hwa] at hN
        clear hwa hcT1 hlT
        refine Own.append_list (f := ucell) rfl (.tmp 40) (.tmp 42) _ rfl Try.underlying28 info_u64 rfl (by omega) rfl ((HO.out).frm hsa (fun _ _ => id)) (fun _ => rfl) 0 wr.heap.size 1 rfl hN (by simp [Value.oneCell', ucell]) (by rw [HLK.out]; simp [maxLen] <;> omega) (by rw [HLK.out]; omega) ?_
        intro gg cap wb hOb hgb hat
        have hnR : (Value.slice A2 k C2).ownBlock ≠ some R := fun h => (HNE.out R (ownBlock_row.1 h)).1 rfl
        have hnD : (Value.slice A2 k C2).ownBlock ≠ some D := fun h => (HNE.out D (ownBlock_row.1 h)).2 rfl
        have hbr := (HR.out.frm hsa id).grown hgb (fun h => hnR h.symm)
        have hbt := (HT.out.frm hsa id).grown hgb (fun h => hnD h.symm)
        have hgR : gg ≠ R := fun h => by
          rcases hat with h1 | h1
          · exact hnR (h ▸ h1)
          · have := (HR.out.frm hsa id).lt; omega
        have hgD : gg ≠ D := fun h => by
          rcases hat with h1 | h1
          · exact hnD (h ▸ h1)
          · have := (HT.out.frm hsa id).lt; omega
        have HOb := Lib.hid hOb
        have HSb := Lib.hid (Same.app (HS.out) hsa hgb (HF.out))
        have HFb := Lib.hid (fresh_app (HS.out) hsa (HF.out) hat)
        have HBRb := Lib.hid hbr
        have HBTb := Lib.hid hbt
        have hcT0 : wb.cell? ⟨D, 0, none⟩ = some (.int .i64 5) := hbt.cell 0
        have hcT1 : wb.cell? ⟨D, 1, none⟩ = some (.slice A2 k C2) := hbt.cell 1
        have hfT1 := hbt.free 1
        have hlT := hbt.lt
        clear hOb hgb hat hsa hN hbr hbt hnR hnD
        go_wp2
        go_roundw
        case rel =>
          refine ⟨k + 1, some ⟨gg, 0, none⟩, cap, by omega, by go_num, HSb.out.setNew 1 _ hwD, HBRb.out.far (p := ⟨D, 1, none⟩) hRD _, ?_, HFb.out, fun b ⟨a, h, h2⟩ => by injection h with h; subst h; subst h2; exact ⟨hgR, hgD⟩, ?_⟩
          · have := HBTb.out.set 1 (.slice (some ⟨gg, 0, none⟩) (k + 1) cap)
            simpa using this
          · rw [HNX.out]
            exact Own.far (p := ⟨D, 1, none⟩) HOb.out (fun a h => by injection h with h; subst h; exact hgD) _
        case measure => simp [intOf] <;> omega
      · have hm1 : (0 : Int) < us.length := by omega
        obtain ⟨d, hd⟩ : ∃ d, k % us.length = d := ⟨_, rfl⟩
        have hdl : d < us.length := by rw [← hd]; exact Nat.mod_lt _ (by omega)
        have hdk : d ≤ k := by rw [← hd]; exact Nat.mod_le _ _
        have hq2 : IntKind.i64.wrap (d : Int) = d := IntWalk.i64_in _ (by omega)
        obtain ⟨y, hy⟩ : ∃ y, us[d]? = some y := ⟨_, List.getElem?_eq_getElem hdl⟩
        have hyl := HSM.out.at1 hy
        have hz : tblW 5 us k = y % 4294967296 := by unfold tblW; rw [hd, List.getD_eq_getElem?_getD, hy]; rfl
        rw [hz] at HNX
        obtain ⟨b, off, rfl, hb, hc⟩ := WL.at1 (Sl.same H.out HS.out) hy
        have hq0 : ¬ ((us.length : Nat) : Int) = 0 := by omega
        have hq1 : (k : Int).tmod ((us.length : Nat) : Int) = (d : Int) := by rw [← hd]; exact (Int.natCast_emod k us.length).symm ▸ (Int.tmod_eq_emod_of_nonneg (by omega))
        have hq3 : (k : Int) % ((us.length : Nat) : Int) = (d : Int) := by rw [← hd]; exact (Int.natCast_emod k us.length).symm
        have hd0 : (0 : Int) ≤ d := by omega
        have hd1 : (d : Int) < us.length := by omega
        have hmk : bits .and .u64 (y : Int) 4294967295 = ((y % 4294967296 : Nat) : Int) := by
          have h := u64_and_nat y 4294967295 hyl (by omega)
          rw [show y &&& 4294967295 = y % 4294967296 from Nat.and_two_pow_sub_one_eq_mod y 32] at h
          exact h
        clear hz hd hy
        go_upto_region 13 with fail
        have hm2 : (y : Int) % 4294967296 = ((y % 4294967296 : Nat) : Int) := by omega
        simp only [hm2]
        clear hm2
        clear hmk
        obtain ⟨z, hz⟩ : ∃ z, y % 4294967296 = z := ⟨_, rfl⟩
        simp only [hz] at HNX ⊢
        clear hz
        have hcT1 : wr.cell? ⟨D, 1, none⟩ = some (.slice A2 k C2) := HT.out.cell 1
        have hlT := HT.out.lt
        refine wp_read 3 ?_
        simp only [List.take_succ_cons, List.take_zero, List.drop_succ_cons, List.drop_zero]
        repeat (any_goals (first | go_big_quiet_step (fail) | quiet_step (fail)))
        refine wpQuiet_nil ?_
        refine wpList_plain rfl fun K hK => ?_
        go_simp
        refine hK _ _ ?_
        clear hK K
        refine list_world fun wa hwa => ?_
        have hN := Blk.new wr 39 #[.int .u64 (z : Int)]
        have hsa : Same wr wa := by rw [hwa]; exact (Frm.refl _ _).alloc _
        rw [← hwa] at hN
        clear hwa hcT1 hlT
        refine Own.append_list (f := ucell) rfl (.tmp 40) (.tmp 42) _ rfl Try.underlying28 info_u64 rfl (by omega) rfl ((HO.out).frm hsa (fun _ _ => id)) (fun _ => rfl) z wr.heap.size 1 rfl hN (by simp [Value.oneCell', ucell]) (by rw [HLK.out]; simp [maxLen] <;> omega) (by rw [HLK.out]; omega) ?_
        intro gg cap wb hOb hgb hat
        have hnR : (Value.slice A2 k C2).ownBlock ≠ some R := fun h => (HNE.out R (ownBlock_row.1 h)).1 rfl
        have hnD : (Value.slice A2 k C2).ownBlock ≠ some D := fun h => (HNE.out D (ownBlock_row.1 h)).2 rfl
        have hbr := (HR.out.frm hsa id).grown hgb (fun h => hnR h.symm)
        have hbt := (HT.out.frm hsa id).grown hgb (fun h => hnD h.symm)
        have hgR : gg ≠ R := fun h => by
          rcases hat with h1 | h1
          · exact hnR (h ▸ h1)
          · have := (HR.out.frm hsa id).lt; omega
        have hgD : gg ≠ D := fun h => by
          rcases hat with h1 | h1
          · exact hnD (h ▸ h1)
          · have := (HT.out.frm hsa id).lt; omega
        have HOb := Lib.hid hOb
        have HSb := Lib.hid (Same.app (HS.out) hsa hgb (HF.out))
        have HFb := Lib.hid (fresh_app (HS.out) hsa (HF.out) hat)
        have HBRb := Lib.hid hbr
        have HBTb := Lib.hid hbt
        have hcT0 : wb.cell? ⟨D, 0, none⟩ = some (.int .i64 5) := hbt.cell 0
        have hcT1 : wb.cell? ⟨D, 1, none⟩ = some (.slice A2 k C2) := hbt.cell 1
        have hfT1 := hbt.free 1
        have hlT := hbt.lt
        clear hOb hgb hat hsa hN hbr hbt hnR hnD
        go_wp2
        go_roundw
        case rel =>
          refine ⟨k + 1, some ⟨gg, 0, none⟩, cap, by omega, by go_num, HSb.out.setNew 1 _ hwD, HBRb.out.far (p := ⟨D, 1, none⟩) hRD _, ?_, HFb.out, fun b ⟨a, h, h2⟩ => by injection h with h; subst h; subst h2; exact ⟨hgR, hgD⟩, ?_⟩
          · have := HBTb.out.set 1 (.slice (some ⟨gg, 0, none⟩) (k + 1) cap)
            simpa using this
          · rw [HNX.out]
            exact Own.far (p := ⟨D, 1, none⟩) HOb.out (fun a h => by injection h with h; subst h; exact hgD) _
        case measure => simp [intOf] <;> omega
    · obtain rfl : k = 1 := by omega
      have hfull := HO.out
      rw [List.take_of_length_le (by rw [tabW_len, HNW.out]; exact Nat.le_refl _)] at hfull
      have hcR0 : wr.cell? ⟨R, 0, none⟩ = some (.int .i64 0) := HR.out.cell 0
      have hcR1 : wr.cell? ⟨R, 1, none⟩ = some (.slice none 0 0) := HR.out.cell 1
      have hcT0 : wr.cell? ⟨D, 0, none⟩ = some (.int .i64 5) := HT.out.cell 0
      have hcT1 : wr.cell? ⟨D, 1, none⟩ = some (.slice A2 1 C2) := HT.out.cell 1
      have hfR0 := HR.out.free 0
      have hfR1 := HR.out.free 1
      have hlR := HR.out.lt
      have hlT := HT.out.lt
      have HFU := Lib.hid hfull
      clear hfull
      go_wp2
      refine wp_post fun we hwe => ?_
      have hBE : Blk we R 30 #[.int .i64 5, .slice A2 1 C2] := by
        rw [hwe]
        have := (HR.out.set 0 (.int .i64 5)).set 1 (.slice A2 1 C2)
        simpa using this
      have hSE : Same w we := by rw [hwe]; exact (HS.out.setNew 0 _ hwR).setNew 1 _ hwR
      have hnR : ∀ a, A2 = some a → a.block ≠ R := fun a ha => (HNE.out a.block ⟨a, ha, rfl⟩).1
      have hOE : OwnW we A2 1 C2 (tabW 5 us) := by
        rw [hwe]
        exact Own.far (p := ⟨R, 1, none⟩) (Own.far (p := ⟨R, 0, none⟩) HFU.out hnR _) hnR _
      have hr0 : we.cell? ⟨R, 0, none⟩ = some (.int .i64 5) := hBE.cell 0
      have hr1 : we.cell? ⟨R, 1, none⟩ = some (.slice A2 1 C2) := hBE.cell 1
      clear hwe hBE
      refine bodyPost_ret (v := .agg #[.int .i64 5, .slice A2 1 C2]) (by simp [results, Try.results12, go_sem, hr0, hr1]) rfl ?_
      have hll : (tabW 5 us).length = 1 := by rw [tabW_len]; exact HNW.out
      exact ⟨A2, C2, by rw [hll], by rw [← hll] at hOE; exact ⟨hOE, HF.out, hSE⟩⟩
set_option maxRecDepth 100000 in
set_option maxHeartbeats 16000000 in
theorem table_6 (A : Option Addr) (m C : Nat) (us : List Nat) (w : World) (h : WL w A m us) (hsm : Small us) : Calls Try.prog 12 #[.int .i64 6, .slice A m C] w (RetT w 6 (tabW 6 us)) := by
  obtain rfl := h.len
  have H := Lib.hid h
  have HSM := Lib.hid hsm
  clear h hsm
  have hnw : nw 6 = 1 := by decide
  have HNW := Lib.hid hnw
  clear hnw
  go_enter Try.func12, Try.ntmps12
  go_upto_region 3 with fail
  refine wp_world fun w1 hw1 => ?_
  have hs1 : Same w w1 := by rw [hw1]; exact ((Frm.refl _ _).alloc _).alloc _
  have hBR : Blk w1 (w.heap.size) 30 #[.int .i64 0, .slice none 0 0] := by
    rw [hw1]
    have := ((Blk.new w 30 #[.int .i64 0, .slice none 0 0]).alloc (.cells #[.int .i64 6, .slice none 0 0] 30))
    simpa using this
  have hBT : Blk w1 (w.heap.size + 1) 30 #[.int .i64 6, .slice none 0 0] := by
    rw [hw1]
    have := (Blk.new (w.alloc (.cells #[.int .i64 0, .slice none 0 0] 30)) 30 #[.int .i64 6, .slice none 0 0])
    simpa using this
  clear hw1
  obtain ⟨R, hR⟩ : ∃ b, w.heap.size = b := ⟨_, rfl⟩
  obtain ⟨D, hD⟩ : ∃ b, w.heap.size + 1 = b := ⟨_, rfl⟩
  rw [hD] at hBT ⊢
  rw [hR] at hBR ⊢
  have hRD : R ≠ D := by omega
  have hwR : w.heap.size ≤ R := by omega
  have hwD : w.heap.size ≤ D := by omega
  clear hR hD
  have HS1 := Lib.hid hs1
  have HBR := Lib.hid hBR
  have HBT := Lib.hid hBT
  clear hs1 hBR hBT
  go_wp2
  go_loopw [7, 8] (fun i _x wr => ∃ (k : Nat) (A2 : Option Addr) (C2 : Nat), k ≤ 1 ∧ i = .int .i64 k ∧ Same w wr ∧ Blk wr R 30 #[.int .i64 0, .slice none 0 0] ∧ Blk wr D 30 #[.int .i64 6, .slice A2 k C2] ∧ Fresh w.heap.size A2 ∧ (∀ b, rowOf A2 b → b ≠ R ∧ b ≠ D) ∧ OwnW wr A2 k C2 ((tabW 6 us).take k)) (fun i _ _ => 1 - (intOf i).toNat)
  case atStart => exact ⟨0, none, 0, by omega, rfl, HS1.out, HBR.out, HBT.out, fresh_none _, fun b ⟨a, h, _⟩ => (by cases h), Own.nil _ _ _ _⟩
  case round =>
    obtain ⟨k, A2, C2, hk, rfl, hs, hbr, hbt, hf, hne, ho⟩ := hrel
    have HS := Lib.hid hs
    have HR := Lib.hid hbr
    have HT := Lib.hid hbt
    have HF := Lib.hid hf
    have HNE := Lib.hid hne
    have HO := Lib.hid ho
    have hlk : ((tabW 6 us).take k).length = k := by rw [List.length_take, tabW_len, HNW.out]; omega
    have HLK := Lib.hid hlk
    clear hs hbr hbt hf hne ho hlk
    by_cases hlt : k < 1
    · have hi1 : (k : Int) < 1 := by omega
      have hi0 : (0 : Int) ≤ k := by omega
      have hnx := take_snoc (tabW_get (n := 6) (us := us) (show k < nw 6 by rw [HNW.out]; exact hlt))
      have HNX := Lib.hid hnx
      clear hnx
      by_cases hm0 : us.length = 0
      · have hz : tblW 6 us k = 0 := by
          obtain rfl : us = [] := List.length_eq_zero_iff.1 hm0
          unfold tblW; simp
        rw [hz] at HNX
        have hm1 : ¬ (0 : Int) < us.length := by omega
        have hm2 : ¬ 0 < us.length := by omega
        clear hz hm0
        go_upto_region 13 with fail
        have hcT1 : wr.cell? ⟨D, 1, none⟩ = some (.slice A2 k C2) := HT.out.cell 1
        have hlT := HT.out.lt
        refine wp_read 3 ?_
        simp only [List.take_succ_cons, List.take_zero, List.drop_succ_cons, List.drop_zero]
        repeat (any_goals (first | go_big_quiet_step (fail) | quiet_step (fail)))
        refine wpQuiet_nil ?_
        refine wpList_plain rfl fun K hK => ?_
        go_simp
        refine hK _ _ ?_
        clear hK K
        refine list_world fun wa hwa => ?_
        have hN := Blk.new wr 39 #[.int .u64 0]
        have hsa : Same wr wa := by rw [hwa]; exact (Frm.refl _ _).alloc _
        rw [← hwa] at hN
        clear hwa hcT1 hlT
        refine Own.append_list (f := ucell) rfl (.tmp 40) (.tmp 42) _ rfl Try.underlying28 info_u64 rfl (by omega) rfl ((HO.out).frm hsa (fun _ _ => id)) (fun _ => rfl) 0 wr.heap.size 1 rfl hN (by simp [Value.oneCell', ucell]) (by rw [HLK.out]; simp [maxLen] <;> omega) (by rw [HLK.out]; omega) ?_
        intro gg cap wb hOb hgb hat
        have hnR : (Value.slice A2 k C2).ownBlock ≠ some R := fun h => (HNE.out R (ownBlock_row.1 h)).1 rfl
        have hnD : (Value.slice A2 k C2).ownBlock ≠ some D := fun h => (HNE.out D (ownBlock_row.1 h)).2 rfl
        have hbr := (HR.out.frm hsa id).grown hgb (fun h => hnR h.symm)
        have hbt := (HT.out.frm hsa id).grown hgb (fun h => hnD h.symm)
        have hgR : gg ≠ R := fun h => by
          rcases hat with h1 | h1
          · exact hnR (h ▸ h1)
          · have := (HR.out.frm hsa id).lt; omega
        have hgD : gg ≠ D := fun h => by
          rcases hat with h1 | h1
          · exact hnD (h ▸ h1)
          · have := (HT.out.frm hsa id).lt; omega
        have HOb := Lib.hid hOb
        have HSb := Lib.hid (Same.app (HS.out) hsa hgb (HF.out))
        have HFb := Lib.hid (fresh_app (HS.out) hsa (HF.out) hat)
        have HBRb := Lib.hid hbr
        have HBTb := Lib.hid hbt
        have hcT0 : wb.cell? ⟨D, 0, none⟩ = some (.int .i64 6) := hbt.cell 0
        have hcT1 : wb.cell? ⟨D, 1, none⟩ = some (.slice A2 k C2) := hbt.cell 1
        have hfT1 := hbt.free 1
        have hlT := hbt.lt
        clear hOb hgb hat hsa hN hbr hbt hnR hnD
        go_wp2
        go_roundw
        case rel =>
          refine ⟨k + 1, some ⟨gg, 0, none⟩, cap, by omega, by go_num, HSb.out.setNew 1 _ hwD, HBRb.out.far (p := ⟨D, 1, none⟩) hRD _, ?_, HFb.out, fun b ⟨a, h, h2⟩ => by injection h with h; subst h; subst h2; exact ⟨hgR, hgD⟩, ?_⟩
          · have := HBTb.out.set 1 (.slice (some ⟨gg, 0, none⟩) (k + 1) cap)
            simpa using this
          · rw [HNX.out]
            exact Own.far (p := ⟨D, 1, none⟩) HOb.out (fun a h => by injection h with h; subst h; exact hgD) _
        case measure => simp [intOf] <;> omega
      · have hm1 : (0 : Int) < us.length := by omega
        obtain ⟨d, hd⟩ : ∃ d, k % us.length = d := ⟨_, rfl⟩
        have hdl : d < us.length := by rw [← hd]; exact Nat.mod_lt _ (by omega)
        have hdk : d ≤ k := by rw [← hd]; exact Nat.mod_le _ _
        have hq2 : IntKind.i64.wrap (d : Int) = d := IntWalk.i64_in _ (by omega)
        obtain ⟨y, hy⟩ : ∃ y, us[d]? = some y := ⟨_, List.getElem?_eq_getElem hdl⟩
        have hyl := HSM.out.at1 hy
        have hz : tblW 6 us k = y % 18446744073709551616 := by unfold tblW; rw [hd, List.getD_eq_getElem?_getD, hy]; rfl
        rw [hz] at HNX
        obtain ⟨b, off, rfl, hb, hc⟩ := WL.at1 (Sl.same H.out HS.out) hy
        have hq0 : ¬ ((us.length : Nat) : Int) = 0 := by omega
        have hq1 : (k : Int).tmod ((us.length : Nat) : Int) = (d : Int) := by rw [← hd]; exact (Int.natCast_emod k us.length).symm ▸ (Int.tmod_eq_emod_of_nonneg (by omega))
        have hq3 : (k : Int) % ((us.length : Nat) : Int) = (d : Int) := by rw [← hd]; exact (Int.natCast_emod k us.length).symm
        have hd0 : (0 : Int) ≤ d := by omega
        have hd1 : (d : Int) < us.length := by omega
        have hzy : y % 18446744073709551616 = y := Nat.mod_eq_of_lt hyl
        rw [hzy] at HNX
        clear hz hd hy hzy
        go_upto_region 13 with fail
        have hcT1 : wr.cell? ⟨D, 1, none⟩ = some (.slice A2 k C2) := HT.out.cell 1
        have hlT := HT.out.lt
        refine wp_read 3 ?_
        simp only [List.take_succ_cons, List.take_zero, List.drop_succ_cons, List.drop_zero]
        repeat (any_goals (first | go_big_quiet_step (fail) | quiet_step (fail)))
        refine wpQuiet_nil ?_
        refine wpList_plain rfl fun K hK => ?_
        go_simp
        refine hK _ _ ?_
        clear hK K
        refine list_world fun wa hwa => ?_
        have hN := Blk.new wr 39 #[.int .u64 (y : Int)]
        have hsa : Same wr wa := by rw [hwa]; exact (Frm.refl _ _).alloc _
        rw [← hwa] at hN
        clear hwa hcT1 hlT
        refine Own.append_list (f := ucell) rfl (.tmp 40) (.tmp 42) _ rfl Try.underlying28 info_u64 rfl (by omega) rfl ((HO.out).frm hsa (fun _ _ => id)) (fun _ => rfl) y wr.heap.size 1 rfl hN (by simp [Value.oneCell', ucell]) (by rw [HLK.out]; simp [maxLen] <;> omega) (by rw [HLK.out]; omega) ?_
        intro gg cap wb hOb hgb hat
        have hnR : (Value.slice A2 k C2).ownBlock ≠ some R := fun h => (HNE.out R (ownBlock_row.1 h)).1 rfl
        have hnD : (Value.slice A2 k C2).ownBlock ≠ some D := fun h => (HNE.out D (ownBlock_row.1 h)).2 rfl
        have hbr := (HR.out.frm hsa id).grown hgb (fun h => hnR h.symm)
        have hbt := (HT.out.frm hsa id).grown hgb (fun h => hnD h.symm)
        have hgR : gg ≠ R := fun h => by
          rcases hat with h1 | h1
          · exact hnR (h ▸ h1)
          · have := (HR.out.frm hsa id).lt; omega
        have hgD : gg ≠ D := fun h => by
          rcases hat with h1 | h1
          · exact hnD (h ▸ h1)
          · have := (HT.out.frm hsa id).lt; omega
        have HOb := Lib.hid hOb
        have HSb := Lib.hid (Same.app (HS.out) hsa hgb (HF.out))
        have HFb := Lib.hid (fresh_app (HS.out) hsa (HF.out) hat)
        have HBRb := Lib.hid hbr
        have HBTb := Lib.hid hbt
        have hcT0 : wb.cell? ⟨D, 0, none⟩ = some (.int .i64 6) := hbt.cell 0
        have hcT1 : wb.cell? ⟨D, 1, none⟩ = some (.slice A2 k C2) := hbt.cell 1
        have hfT1 := hbt.free 1
        have hlT := hbt.lt
        clear hOb hgb hat hsa hN hbr hbt hnR hnD
        go_wp2
        go_roundw
        case rel =>
          refine ⟨k + 1, some ⟨gg, 0, none⟩, cap, by omega, by go_num, HSb.out.setNew 1 _ hwD, HBRb.out.far (p := ⟨D, 1, none⟩) hRD _, ?_, HFb.out, fun b ⟨a, h, h2⟩ => by injection h with h; subst h; subst h2; exact ⟨hgR, hgD⟩, ?_⟩
          · have := HBTb.out.set 1 (.slice (some ⟨gg, 0, none⟩) (k + 1) cap)
            simpa using this
          · rw [HNX.out]
            exact Own.far (p := ⟨D, 1, none⟩) HOb.out (fun a h => by injection h with h; subst h; exact hgD) _
        case measure => simp [intOf] <;> omega
    · obtain rfl : k = 1 := by omega
      have hfull := HO.out
      rw [List.take_of_length_le (by rw [tabW_len, HNW.out]; exact Nat.le_refl _)] at hfull
      have hcR0 : wr.cell? ⟨R, 0, none⟩ = some (.int .i64 0) := HR.out.cell 0
      have hcR1 : wr.cell? ⟨R, 1, none⟩ = some (.slice none 0 0) := HR.out.cell 1
      have hcT0 : wr.cell? ⟨D, 0, none⟩ = some (.int .i64 6) := HT.out.cell 0
      have hcT1 : wr.cell? ⟨D, 1, none⟩ = some (.slice A2 1 C2) := HT.out.cell 1
      have hfR0 := HR.out.free 0
      have hfR1 := HR.out.free 1
      have hlR := HR.out.lt
      have hlT := HT.out.lt
      have HFU := Lib.hid hfull
      clear hfull
      go_wp2
      refine wp_post fun we hwe => ?_
      have hBE : Blk we R 30 #[.int .i64 6, .slice A2 1 C2] := by
        rw [hwe]
        have := (HR.out.set 0 (.int .i64 6)).set 1 (.slice A2 1 C2)
        simpa using this
      have hSE : Same w we := by rw [hwe]; exact (HS.out.setNew 0 _ hwR).setNew 1 _ hwR
      have hnR : ∀ a, A2 = some a → a.block ≠ R := fun a ha => (HNE.out a.block ⟨a, ha, rfl⟩).1
      have hOE : OwnW we A2 1 C2 (tabW 6 us) := by
        rw [hwe]
        exact Own.far (p := ⟨R, 1, none⟩) (Own.far (p := ⟨R, 0, none⟩) HFU.out hnR _) hnR _
      have hr0 : we.cell? ⟨R, 0, none⟩ = some (.int .i64 6) := hBE.cell 0
      have hr1 : we.cell? ⟨R, 1, none⟩ = some (.slice A2 1 C2) := hBE.cell 1
      clear hwe hBE
      refine bodyPost_ret (v := .agg #[.int .i64 6, .slice A2 1 C2]) (by simp [results, Try.results12, go_sem, hr0, hr1]) rfl ?_
      have hll : (tabW 6 us).length = 1 := by rw [tabW_len]; exact HNW.out
      exact ⟨A2, C2, by rw [hll], by rw [← hll] at hOE; exact ⟨hOE, HF.out, hSE⟩⟩
set_option maxRecDepth 100000 in
set_option maxHeartbeats 16000000 in
theorem table_7 (A : Option Addr) (m C : Nat) (us : List Nat) (w : World) (h : WL w A m us) (hsm : Small us) : Calls Try.prog 12 #[.int .i64 7, .slice A m C] w (RetT w 7 (tabW 7 us)) := by
  obtain rfl := h.len
  have H := Lib.hid h
  have HSM := Lib.hid hsm
  clear h hsm
  have hnw : nw 7 = 2 := by decide
  have HNW := Lib.hid hnw
  clear hnw
  go_enter Try.func12, Try.ntmps12
  go_upto_region 3 with fail
  refine wp_world fun w1 hw1 => ?_
  have hs1 : Same w w1 := by rw [hw1]; exact ((Frm.refl _ _).alloc _).alloc _
  have hBR : Blk w1 (w.heap.size) 30 #[.int .i64 0, .slice none 0 0] := by
    rw [hw1]
    have := ((Blk.new w 30 #[.int .i64 0, .slice none 0 0]).alloc (.cells #[.int .i64 7, .slice none 0 0] 30))
    simpa using this
  have hBT : Blk w1 (w.heap.size + 1) 30 #[.int .i64 7, .slice none 0 0] := by
    rw [hw1]
    have := (Blk.new (w.alloc (.cells #[.int .i64 0, .slice none 0 0] 30)) 30 #[.int .i64 7, .slice none 0 0])
    simpa using this
  clear hw1
  obtain ⟨R, hR⟩ : ∃ b, w.heap.size = b := ⟨_, rfl⟩
  obtain ⟨D, hD⟩ : ∃ b, w.heap.size + 1 = b := ⟨_, rfl⟩
  rw [hD] at hBT ⊢
  rw [hR] at hBR ⊢
  have hRD : R ≠ D := by omega
  have hwR : w.heap.size ≤ R := by omega
  have hwD : w.heap.size ≤ D := by omega
  clear hR hD
  have HS1 := Lib.hid hs1
  have HBR := Lib.hid hBR
  have HBT := Lib.hid hBT
  clear hs1 hBR hBT
  go_wp2
  go_loopw [7, 8] (fun i _x wr => ∃ (k : Nat) (A2 : Option Addr) (C2 : Nat), k ≤ 2 ∧ i = .int .i64 k ∧ Same w wr ∧ Blk wr R 30 #[.int .i64 0, .slice none 0 0] ∧ Blk wr D 30 #[.int .i64 7, .slice A2 k C2] ∧ Fresh w.heap.size A2 ∧ (∀ b, rowOf A2 b → b ≠ R ∧ b ≠ D) ∧ OwnW wr A2 k C2 ((tabW 7 us).take k)) (fun i _ _ => 2 - (intOf i).toNat)
  case atStart => exact ⟨0, none, 0, by omega, rfl, HS1.out, HBR.out, HBT.out, fresh_none _, fun b ⟨a, h, _⟩ => (by cases h), Own.nil _ _ _ _⟩
  case round =>
    obtain ⟨k, A2, C2, hk, rfl, hs, hbr, hbt, hf, hne, ho⟩ := hrel
    have HS := Lib.hid hs
    have HR := Lib.hid hbr
    have HT := Lib.hid hbt
    have HF := Lib.hid hf
    have HNE := Lib.hid hne
    have HO := Lib.hid ho
    have hlk : ((tabW 7 us).take k).length = k := by rw [List.length_take, tabW_len, HNW.out]; omega
    have HLK := Lib.hid hlk
    clear hs hbr hbt hf hne ho hlk
    by_cases hlt : k < 2
    · have hi1 : (k : Int) < 2 := by omega
      have hi0 : (0 : Int) ≤ k := by omega
      have hnx := take_snoc (tabW_get (n := 7) (us := us) (show k < nw 7 by rw [HNW.out]; exact hlt))
      have HNX := Lib.hid hnx
      clear hnx
      by_cases hm0 : us.length = 0
      · have hz : tblW 7 us k = 0 := by
          obtain rfl : us = [] := List.length_eq_zero_iff.1 hm0
          unfold tblW; simp
        rw [hz] at HNX
        have hm1 : ¬ (0 : Int) < us.length := by omega
        have hm2 : ¬ 0 < us.length := by omega
        clear hz hm0
        go_upto_region 13 with fail
        have hcT1 : wr.cell? ⟨D, 1, none⟩ = some (.slice A2 k C2) := HT.out.cell 1
        have hlT := HT.out.lt
        refine wp_read 3 ?_
        simp only [List.take_succ_cons, List.take_zero, List.drop_succ_cons, List.drop_zero]
        repeat (any_goals (first | go_big_quiet_step (fail) | quiet_step (fail)))
        refine wpQuiet_nil ?_
        refine wpList_plain rfl fun K hK => ?_
        go_simp
        refine hK _ _ ?_
        clear hK K
        refine list_world fun wa hwa => ?_
        have hN := Blk.new wr 39 #[.int .u64 0]
        have hsa : Same wr wa := by rw [hwa]; exact (Frm.refl _ _).alloc _
        rw [← hwa] at hN
        clear hwa hcT1 hlT
        refine Own.append_list (f := ucell) rfl (.tmp 40) (.tmp 42) _ rfl Try.underlying28 info_u64 rfl (by omega) rfl ((HO.out).frm hsa (fun _ _ => id)) (fun _ => rfl) 0 wr.heap.size 1 rfl hN (by simp [Value.oneCell', ucell]) (by rw [HLK.out]; simp [maxLen] <;> omega) (by rw [HLK.out]; omega) ?_
        intro gg cap wb hOb hgb hat
        have hnR : (Value.slice A2 k C2).ownBlock ≠ some R := fun h => (HNE.out R (ownBlock_row.1 h)).1 rfl
        have hnD : (Value.slice A2 k C2).ownBlock ≠ some D := fun h => (HNE.out D (ownBlock_row.1 h)).2 rfl
        have hbr := (HR.out.frm hsa id).grown hgb (fun h => hnR h.symm)
        have hbt := (HT.out.frm hsa id).grown hgb (fun h => hnD h.symm)
        have hgR : gg ≠ R := fun h => by
          rcases hat with h1 | h1
          · exact hnR (h ▸ h1)
          · have := (HR.out.frm hsa id).lt; omega
        have hgD : gg ≠ D := fun h => by
          rcases hat with h1 | h1
          · exact hnD (h ▸ h1)
          · have := (HT.out.frm hsa id).lt; omega
        have HOb := Lib.hid hOb
        have HSb := Lib.hid (Same.app (HS.out) hsa hgb (HF.out))
        have HFb := Lib.hid (fresh_app (HS.out) hsa (HF.out) hat)
        have HBRb := Lib.hid hbr
        have HBTb := Lib.hid hbt
        have hcT0 : wb.cell? ⟨D, 0, none⟩ = some (.int .i64 7) := hbt.cell 0
        have hcT1 : wb.cell? ⟨D, 1, none⟩ = some (.slice A2 k C2) := hbt.cell 1
        have hfT1 := hbt.free 1
        have hlT := hbt.lt
        clear hOb hgb hat hsa hN hbr hbt hnR hnD
        go_wp2
        go_roundw
        case rel =>
          refine ⟨k + 1, some ⟨gg, 0, none⟩, cap, by omega, by go_num, HSb.out.setNew 1 _ hwD, HBRb.out.far (p := ⟨D, 1, none⟩) hRD _, ?_, HFb.out, fun b ⟨a, h, h2⟩ => by injection h with h; subst h; subst h2; exact ⟨hgR, hgD⟩, ?_⟩
          · have := HBTb.out.set 1 (.slice (some ⟨gg, 0, none⟩) (k + 1) cap)
            simpa using this
          · rw [HNX.out]
            exact Own.far (p := ⟨D, 1, none⟩) HOb.out (fun a h => by injection h with h; subst h; exact hgD) _
        case measure => simp [intOf] <;> omega
      · have hm1 : (0 : Int) < us.length := by omega
        obtain ⟨d, hd⟩ : ∃ d, k % us.length = d := ⟨_, rfl⟩
        have hdl : d < us.length := by rw [← hd]; exact Nat.mod_lt _ (by omega)
        have hdk : d ≤ k := by rw [← hd]; exact Nat.mod_le _ _
        have hq2 : IntKind.i64.wrap (d : Int) = d := IntWalk.i64_in _ (by omega)
        obtain ⟨y, hy⟩ : ∃ y, us[d]? = some y := ⟨_, List.getElem?_eq_getElem hdl⟩
        have hyl := HSM.out.at1 hy
        have hz : tblW 7 us k = y % 18446744073709551616 := by unfold tblW; rw [hd, List.getD_eq_getElem?_getD, hy]; rfl
        rw [hz] at HNX
        obtain ⟨b, off, rfl, hb, hc⟩ := WL.at1 (Sl.same H.out HS.out) hy
        have hq0 : ¬ ((us.length : Nat) : Int) = 0 := by omega
        have hq1 : (k : Int).tmod ((us.length : Nat) : Int) = (d : Int) := by rw [← hd]; exact (Int.natCast_emod k us.length).symm ▸ (Int.tmod_eq_emod_of_nonneg (by omega))
        have hq3 : (k : Int) % ((us.length : Nat) : Int) = (d : Int) := by rw [← hd]; exact (Int.natCast_emod k us.length).symm
        have hd0 : (0 : Int) ≤ d := by omega
        have hd1 : (d : Int) < us.length := by omega
        have hzy : y % 18446744073709551616 = y := Nat.mod_eq_of_lt hyl
        rw [hzy] at HNX
        clear hz hd hy hzy
        go_upto_region 13 with fail
        have hcT1 : wr.cell? ⟨D, 1, none⟩ = some (.slice A2 k C2) := HT.out.cell 1
        have hlT := HT.out.lt
        refine wp_read 3 ?_
        simp only [List.take_succ_cons, List.take_zero, List.drop_succ_cons, List.drop_zero]
        repeat (any_goals (first | go_big_quiet_step (fail) | quiet_step (fail)))
        refine wpQuiet_nil ?_
        refine wpList_plain rfl fun K hK => ?_
        go_simp
        refine hK _ _ ?_
        clear hK K
        refine list_world fun wa hwa => ?_
        have hN := Blk.new wr 39 #[.int .u64 (y : Int)]
        have hsa : Same wr wa := by rw [hwa]; exact (Frm.refl _ _).alloc _
        rw [← hwa] at hN
        clear hwa hcT1 hlT
        refine Own.append_list (f := ucell) rfl (.tmp 40) (.tmp 42) _ rfl Try.underlying28 info_u64 rfl (by omega) rfl ((HO.out).frm hsa (fun _ _ => id)) (fun _ => rfl) y wr.heap.size 1 rfl hN (by simp [Value.oneCell', ucell]) (by rw [HLK.out]; simp [maxLen] <;> omega) (by rw [HLK.out]; omega) ?_
        intro gg cap wb hOb hgb hat
        have hnR : (Value.slice A2 k C2).ownBlock ≠ some R := fun h => (HNE.out R (ownBlock_row.1 h)).1 rfl
        have hnD : (Value.slice A2 k C2).ownBlock ≠ some D := fun h => (HNE.out D (ownBlock_row.1 h)).2 rfl
        have hbr := (HR.out.frm hsa id).grown hgb (fun h => hnR h.symm)
        have hbt := (HT.out.frm hsa id).grown hgb (fun h => hnD h.symm)
        have hgR : gg ≠ R := fun h => by
          rcases hat with h1 | h1
          · exact hnR (h ▸ h1)
          · have := (HR.out.frm hsa id).lt; omega
        have hgD : gg ≠ D := fun h => by
          rcases hat with h1 | h1
          · exact hnD (h ▸ h1)
          · have := (HT.out.frm hsa id).lt; omega
        have HOb := Lib.hid hOb
        have HSb := Lib.hid (Same.app (HS.out) hsa hgb (HF.out))
        have HFb := Lib.hid (fresh_app (HS.out) hsa (HF.out) hat)
        have HBRb := Lib.hid hbr
        have HBTb := Lib.hid hbt
        have hcT0 : wb.cell? ⟨D, 0, none⟩ = some (.int .i64 7) := hbt.cell 0
        have hcT1 : wb.cell? ⟨D, 1, none⟩ = some (.slice A2 k C2) := hbt.cell 1
        have hfT1 := hbt.free 1
        have hlT := hbt.lt
        clear hOb hgb hat hsa hN hbr hbt hnR hnD
        go_wp2
        go_roundw
        case rel =>
          refine ⟨k + 1, some ⟨gg, 0, none⟩, cap, by omega, by go_num, HSb.out.setNew 1 _ hwD, HBRb.out.far (p := ⟨D, 1, none⟩) hRD _, ?_, HFb.out, fun b ⟨a, h, h2⟩ => by injection h with h; subst h; subst h2; exact ⟨hgR, hgD⟩, ?_⟩
          · have := HBTb.out.set 1 (.slice (some ⟨gg, 0, none⟩) (k + 1) cap)
            simpa using this
          · rw [HNX.out]
            exact Own.far (p := ⟨D, 1, none⟩) HOb.out (fun a h => by injection h with h; subst h; exact hgD) _
        case measure => simp [intOf] <;> omega
    · obtain rfl : k = 2 := by omega
      have hfull := HO.out
      rw [List.take_of_length_le (by rw [tabW_len, HNW.out]; exact Nat.le_refl _)] at hfull
      have hcR0 : wr.cell? ⟨R, 0, none⟩ = some (.int .i64 0) := HR.out.cell 0
      have hcR1 : wr.cell? ⟨R, 1, none⟩ = some (.slice none 0 0) := HR.out.cell 1
      have hcT0 : wr.cell? ⟨D, 0, none⟩ = some (.int .i64 7) := HT.out.cell 0
      have hcT1 : wr.cell? ⟨D, 1, none⟩ = some (.slice A2 2 C2) := HT.out.cell 1
      have hfR0 := HR.out.free 0
      have hfR1 := HR.out.free 1
      have hlR := HR.out.lt
      have hlT := HT.out.lt
      have HFU := Lib.hid hfull
      clear hfull
      go_wp2
      refine wp_post fun we hwe => ?_
      have hBE : Blk we R 30 #[.int .i64 7, .slice A2 2 C2] := by
        rw [hwe]
        have := (HR.out.set 0 (.int .i64 7)).set 1 (.slice A2 2 C2)
        simpa using this
      have hSE : Same w we := by rw [hwe]; exact (HS.out.setNew 0 _ hwR).setNew 1 _ hwR
      have hnR : ∀ a, A2 = some a → a.block ≠ R := fun a ha => (HNE.out a.block ⟨a, ha, rfl⟩).1
      have hOE : OwnW we A2 2 C2 (tabW 7 us) := by
        rw [hwe]
        exact Own.far (p := ⟨R, 1, none⟩) (Own.far (p := ⟨R, 0, none⟩) HFU.out hnR _) hnR _
      have hr0 : we.cell? ⟨R, 0, none⟩ = some (.int .i64 7) := hBE.cell 0
      have hr1 : we.cell? ⟨R, 1, none⟩ = some (.slice A2 2 C2) := hBE.cell 1
      clear hwe hBE
      refine bodyPost_ret (v := .agg #[.int .i64 7, .slice A2 2 C2]) (by simp [results, Try.results12, go_sem, hr0, hr1]) rfl ?_
      have hll : (tabW 7 us).length = 2 := by rw [tabW_len]; exact HNW.out
      exact ⟨A2, C2, by rw [hll], by rw [← hll] at hOE; exact ⟨hOE, HF.out, hSE⟩⟩
set_option maxRecDepth 100000 in
set_option maxHeartbeats 16000000 in
theorem table_8 (A : Option Addr) (m C : Nat) (us : List Nat) (w : World) (h : WL w A m us) (hsm : Small us) : Calls Try.prog 12 #[.int .i64 8, .slice A m C] w (RetT w 8 (tabW 8 us)) := by
  obtain rfl := h.len
  have H := Lib.hid h
  have HSM := Lib.hid hsm
  clear h hsm
  have hnw : nw 8 = 4 := by decide
  have HNW := Lib.hid hnw
  clear hnw
  go_enter Try.func12, Try.ntmps12
  go_upto_region 3 with fail
  refine wp_world fun w1 hw1 => ?_
  have hs1 : Same w w1 := by rw [hw1]; exact ((Frm.refl _ _).alloc _).alloc _
  have hBR : Blk w1 (w.heap.size) 30 #[.int .i64 0, .slice none 0 0] := by
    rw [hw1]
    have := ((Blk.new w 30 #[.int .i64 0, .slice none 0 0]).alloc (.cells #[.int .i64 8, .slice none 0 0] 30))
    simpa using this
  have hBT : Blk w1 (w.heap.size + 1) 30 #[.int .i64 8, .slice none 0 0] := by
    rw [hw1]
    have := (Blk.new (w.alloc (.cells #[.int .i64 0, .slice none 0 0] 30)) 30 #[.int .i64 8, .slice none 0 0])
    simpa using this
  clear hw1
  obtain ⟨R, hR⟩ : ∃ b, w.heap.size = b := ⟨_, rfl⟩
  obtain ⟨D, hD⟩ : ∃ b, w.heap.size + 1 = b := ⟨_, rfl⟩
  rw [hD] at hBT ⊢
  rw [hR] at hBR ⊢
  have hRD : R ≠ D := by omega
  have hwR : w.heap.size ≤ R := by omega
  have hwD : w.heap.size ≤ D := by omega
  clear hR hD
  have HS1 := Lib.hid hs1
  have HBR := Lib.hid hBR
  have HBT := Lib.hid hBT
  clear hs1 hBR hBT
  go_wp2
  go_loopw [7, 8] (fun i _x wr => ∃ (k : Nat) (A2 : Option Addr) (C2 : Nat), k ≤ 4 ∧ i = .int .i64 k ∧ Same w wr ∧ Blk wr R 30 #[.int .i64 0, .slice none 0 0] ∧ Blk wr D 30 #[.int .i64 8, .slice A2 k C2] ∧ Fresh w.heap.size A2 ∧ (∀ b, rowOf A2 b → b ≠ R ∧ b ≠ D) ∧ OwnW wr A2 k C2 ((tabW 8 us).take k)) (fun i _ _ => 4 - (intOf i).toNat)
  case atStart => exact ⟨0, none, 0, by omega, rfl, HS1.out, HBR.out, HBT.out, fresh_none _, fun b ⟨a, h, _⟩ => (by cases h), Own.nil _ _ _ _⟩
  case round =>
    obtain ⟨k, A2, C2, hk, rfl, hs, hbr, hbt, hf, hne, ho⟩ := hrel
    have HS := Lib.hid hs
    have HR := Lib.hid hbr
    have HT := Lib.hid hbt
    have HF := Lib.hid hf
    have HNE := Lib.hid hne
    have HO := Lib.hid ho
    have hlk : ((tabW 8 us).take k).length = k := by rw [List.length_take, tabW_len, HNW.out]; omega
    have HLK := Lib.hid hlk
    clear hs hbr hbt hf hne ho hlk
    by_cases hlt : k < 4
    · have hi1 : (k : Int) < 4 := by omega
      have hi0 : (0 : Int) ≤ k := by omega
      have hnx := take_snoc (tabW_get (n := 8) (us := us) (show k < nw 8 by rw [HNW.out]; exact hlt))
      have HNX := Lib.hid hnx
      clear hnx
      by_cases hm0 : us.length = 0
      · have hz : tblW 8 us k = 0 := by
          obtain rfl : us = [] := List.length_eq_zero_iff.1 hm0
          unfold tblW; simp
        rw [hz] at HNX
        have hm1 : ¬ (0 : Int) < us.length := by omega
        have hm2 : ¬ 0 < us.length := by omega
        clear hz hm0
        go_upto_region 13 with fail
        have hcT1 : wr.cell? ⟨D, 1, none⟩ = some (.slice A2 k C2) := HT.out.cell 1
        have hlT := HT.out.lt
        refine wp_read 3 ?_
        simp only [List.take_succ_cons, List.take_zero, List.drop_succ_cons, List.drop_zero]
        repeat (any_goals (first | go_big_quiet_step (fail) | quiet_step (fail)))
        refine wpQuiet_nil ?_
        refine wpList_plain rfl fun K hK => ?_
        go_simp
        refine hK _ _ ?_
        clear hK K
        refine list_world fun wa hwa => ?_
        have hN := Blk.new wr 39 #[.int .u64 0]
        have hsa : Same wr wa := by rw [hwa]; exact (Frm.refl _ _).alloc _
        rw [← hwa] at hN
        clear hwa hcT1 hlT
        refine Own.append_list (f := ucell) rfl (.tmp 40) (.tmp 42) _ rfl Try.underlying28 info_u64 rfl (by omega) rfl ((HO.out).frm hsa (fun _ _ => id)) (fun _ => rfl) 0 wr.heap.size 1 rfl hN (by simp [Value.oneCell', ucell]) (by rw [HLK.out]; simp [maxLen] <;> omega) (by rw [HLK.out]; omega) ?_
        intro gg cap wb hOb hgb hat
        have hnR : (Value.slice A2 k C2).ownBlock ≠ some R := fun h => (HNE.out R (ownBlock_row.1 h)).1 rfl
        have hnD : (Value.slice A2 k C2).ownBlock ≠ some D := fun h => (HNE.out D (ownBlock_row.1 h)).2 rfl
        have hbr := (HR.out.frm hsa id).grown hgb (fun h => hnR h.symm)
        have hbt := (HT.out.frm hsa id).grown hgb (fun h => hnD h.symm)
        have hgR : gg ≠ R := fun h => by
          rcases hat with h1 | h1
          · exact hnR (h ▸ h1)
          · have := (HR.out.frm hsa id).lt; omega
        have hgD : gg ≠ D := fun h => by
          rcases hat with h1 | h1
          · exact hnD (h ▸ h1)
          · have := (HT.out.frm hsa id).lt; omega
        have HOb := Lib.hid hOb
        have HSb := Lib.hid (Same.app (HS.out) hsa hgb (HF.out))
        have HFb := Lib.hid (fresh_app (HS.out) hsa (HF.out) hat)
        have HBRb := Lib.hid hbr
        have HBTb := Lib.hid hbt
        have hcT0 : wb.cell? ⟨D, 0, none⟩ = some (.int .i64 8) := hbt.cell 0
        have hcT1 : wb.cell? ⟨D, 1, none⟩ = some (.slice A2 k C2) := hbt.cell 1
        have hfT1 := hbt.free 1
        have hlT := hbt.lt
        clear hOb hgb hat hsa hN hbr hbt hnR hnD
        go_wp2
        go_roundw
        case rel =>
          refine ⟨k + 1, some ⟨gg, 0, none⟩, cap, by omega, by go_num, HSb.out.setNew 1 _ hwD, HBRb.out.far (p := ⟨D, 1, none⟩) hRD _, ?_, HFb.out, fun b ⟨a, h, h2⟩ => by injection h with h; subst h; subst h2; exact ⟨hgR, hgD⟩, ?_⟩
          · have := HBTb.out.set 1 (.slice (some ⟨gg, 0, none⟩) (k + 1) cap)
            simpa using this
          · rw [HNX.out]
            exact Own.far (p := ⟨D, 1, none⟩) HOb.out (fun a h => by injection h with h; subst h; exact hgD) _
        case measure => simp [intOf] <;> omega
      · have hm1 : (0 : Int) < us.length := by omega
        obtain ⟨d, hd⟩ : ∃ d, k % us.length = d := ⟨_, rfl⟩
        have hdl : d < us.length := by rw [← hd]; exact Nat.mod_lt _ (by omega)
        have hdk : d ≤ k := by rw [← hd]; exact Nat.mod_le _ _
        have hq2 : IntKind.i64.wrap (d : Int) = d := IntWalk.i64_in _ (by omega)
        obtain ⟨y, hy⟩ : ∃ y, us[d]? = some y := ⟨_, List.getElem?_eq_getElem hdl⟩
        have hyl := HSM.out.at1 hy
        have hz : tblW 8 us k = y % 18446744073709551616 := by unfold tblW; rw [hd, List.getD_eq_getElem?_getD, hy]; rfl
        rw [hz] at HNX
        obtain ⟨b, off, rfl, hb, hc⟩ := WL.at1 (Sl.same H.out HS.out) hy
        have hq0 : ¬ ((us.length : Nat) : Int) = 0 := by omega
        have hq1 : (k : Int).tmod ((us.length : Nat) : Int) = (d : Int) := by rw [← hd]; exact (Int.natCast_emod k us.length).symm ▸ (Int.tmod_eq_emod_of_nonneg (by omega))
        have hq3 : (k : Int) % ((us.length : Nat) : Int) = (d : Int) := by rw [← hd]; exact (Int.natCast_emod k us.length).symm
        have hd0 : (0 : Int) ≤ d := by omega
        have hd1 : (d : Int) < us.length := by omega
        have hzy : y % 18446744073709551616 = y := Nat.mod_eq_of_lt hyl
        rw [hzy] at HNX
        clear hz hd hy hzy
        go_upto_region 13 with fail
        have hcT1 : wr.cell? ⟨D, 1, none⟩ = some (.slice A2 k C2) := HT.out.cell 1
        have hlT := HT.out.lt
        refine wp_read 3 ?_
        simp only [List.take_succ_cons, List.take_zero, List.drop_succ_cons, List.drop_zero]
        repeat (any_goals (first | go_big_quiet_step (fail) | quiet_step (fail)))
        refine wpQuiet_nil ?_
        refine wpList_plain rfl fun K hK => ?_
        go_simp
        refine hK _ _ ?_
        clear hK K
        refine list_world fun wa hwa => ?_
        have hN := Blk.new wr 39 #[.int .u64 (y : Int)]
        have hsa : Same wr wa := by rw [hwa]; exact (Frm.refl _ _).alloc _
        rw [← hwa] at hN
        clear hwa hcT1 hlT
        refine Own.append_list (f := ucell) rfl (.tmp 40) (.tmp 42) _ rfl Try.underlying28 info_u64 rfl (by omega) rfl ((HO.out).frm hsa (fun _ _ => id)) (fun _ => rfl) y wr.heap.size 1 rfl hN (by simp [Value.oneCell', ucell]) (by rw [HLK.out]; simp [maxLen] <;> omega) (by rw [HLK.out]; omega) ?_
        intro gg cap wb hOb hgb hat
        have hnR : (Value.slice A2 k C2).ownBlock ≠ some R := fun h => (HNE.out R (ownBlock_row.1 h)).1 rfl
        have hnD : (Value.slice A2 k C2).ownBlock ≠ some D := fun h => (HNE.out D (ownBlock_row.1 h)).2 rfl
        have hbr := (HR.out.frm hsa id).grown hgb (fun h => hnR h.symm)
        have hbt := (HT.out.frm hsa id).grown hgb (fun h => hnD h.symm)
        have hgR : gg ≠ R := fun h => by
          rcases hat with h1 | h1
          · exact hnR (h ▸ h1)
          · have := (HR.out.frm hsa id).lt; omega
        have hgD : gg ≠ D := fun h => by
          rcases hat with h1 | h1
          · exact hnD (h ▸ h1)
          · have := (HT.out.frm hsa id).lt; omega
        have HOb := Lib.hid hOb
        have HSb := Lib.hid (Same.app (HS.out) hsa hgb (HF.out))
        have HFb := Lib.hid (fresh_app (HS.out) hsa (HF.out) hat)
        have HBRb := Lib.hid hbr
        have HBTb := Lib.hid hbt
        have hcT0 : wb.cell? ⟨D, 0, none⟩ = some (.int .i64 8) := hbt.cell 0
        have hcT1 : wb.cell? ⟨D, 1, none⟩ = some (.slice A2 k C2) := hbt.cell 1
        have hfT1 := hbt.free 1
        have hlT := hbt.lt
        clear hOb hgb hat hsa hN hbr hbt hnR hnD
        go_wp2
        go_roundw
        case rel =>
          refine ⟨k + 1, some ⟨gg, 0, none⟩, cap, by omega, by go_num, HSb.out.setNew 1 _ hwD, HBRb.out.far (p := ⟨D, 1, none⟩) hRD _, ?_, HFb.out, fun b ⟨a, h, h2⟩ => by injection h with h; subst h; subst h2; exact ⟨hgR, hgD⟩, ?_⟩
          · have := HBTb.out.set 1 (.slice (some ⟨gg, 0, none⟩) (k + 1) cap)
            simpa using this
          · rw [HNX.out]
            exact Own.far (p := ⟨D, 1, none⟩) HOb.out (fun a h => by injection h with h; subst h; exact hgD) _
        case measure => simp [intOf] <;> omega
    · obtain rfl : k = 4 := by omega
      have hfull := HO.out
      rw [List.take_of_length_le (by rw [tabW_len, HNW.out]; exact Nat.le_refl _)] at hfull
      have hcR0 : wr.cell? ⟨R, 0, none⟩ = some (.int .i64 0) := HR.out.cell 0
      have hcR1 : wr.cell? ⟨R, 1, none⟩ = some (.slice none 0 0) := HR.out.cell 1
      have hcT0 : wr.cell? ⟨D, 0, none⟩ = some (.int .i64 8) := HT.out.cell 0
      have hcT1 : wr.cell? ⟨D, 1, none⟩ = some (.slice A2 4 C2) := HT.out.cell 1
      have hfR0 := HR.out.free 0
      have hfR1 := HR.out.free 1
      have hlR := HR.out.lt
      have hlT := HT.out.lt
      have HFU := Lib.hid hfull
      clear hfull
      go_wp2
      refine wp_post fun we hwe => ?_
      have hBE : Blk we R 30 #[.int .i64 8, .slice A2 4 C2] := by
        rw [hwe]
        have := (HR.out.set 0 (.int .i64 8)).set 1 (.slice A2 4 C2)
        simpa using this
      have hSE : Same w we := by rw [hwe]; exact (HS.out.setNew 0 _ hwR).setNew 1 _ hwR
      have hnR : ∀ a, A2 = some a → a.block ≠ R := fun a ha => (HNE.out a.block ⟨a, ha, rfl⟩).1
      have hOE : OwnW we A2 4 C2 (tabW 8 us) := by
        rw [hwe]
        exact Own.far (p := ⟨R, 1, none⟩) (Own.far (p := ⟨R, 0, none⟩) HFU.out hnR _) hnR _
      have hr0 : we.cell? ⟨R, 0, none⟩ = some (.int .i64 8) := hBE.cell 0
      have hr1 : we.cell? ⟨R, 1, none⟩ = some (.slice A2 4 C2) := hBE.cell 1
      clear hwe hBE
      refine bodyPost_ret (v := .agg #[.int .i64 8, .slice A2 4 C2]) (by simp [results, Try.results12, go_sem, hr0, hr1]) rfl ?_
      have hll : (tabW 8 us).length = 4 := by rw [tabW_len]; exact HNW.out
      exact ⟨A2, C2, by rw [hll], by rw [← hll] at hOE; exact ⟨hOE, HF.out, hSE⟩⟩
theorem table_any (n : Nat) (A : Option Addr) (m C : Nat) (us : List Nat) (w : World) (hn : n ≤ 8) (h : WL w A m us) (hsm : Small us) : Calls Try.prog 12 #[.int .i64 n, .slice A m C] w (RetT w n (tabW n us)) := by
  obtain rfl | rfl | rfl | rfl | rfl | rfl | rfl | rfl | rfl : n = 0 ∨ n = 1 ∨ n = 2 ∨ n = 3 ∨ n = 4 ∨ n = 5 ∨ n = 6 ∨ n = 7 ∨ n = 8 := by omega
  · exact table_0 A m C us w h hsm
  · exact table_1 A m C us w h hsm
  · exact table_2 A m C us w h hsm
  · exact table_3 A m C us w h hsm
  · exact table_4 A m C us w h hsm
  · exact table_5 A m C us w h hsm
  · exact table_6 A m C us w h hsm
  · exact table_7 A m C us w h hsm
  · exact table_8 A m C us w h hsm
end Go.Proofs.Ytjgndclfbcijmaa


/- WholeShape: tables. -/
namespace Go.Proofs.Ytjgndclfbcijmaa
open Go.RowKit Go.Tk

set_option maxRecDepth 100000 in
set_option maxHeartbeats 4000000 in
theorem tables_any (N : Nat) (A : Option Addr) (m C : Nat) (rs : List WRow) (w : World) (hN : N ≤ 8) (h : Sl w 1 WRow.cells A m rs) (hok : ∀ r ∈ rs, RowIn w r) (hm : m ≤ 1048576) :
    Calls Try.prog 4 #[.int .i64 N, .slice A m C] w fun e w' => ∃ B D ts, e = .returned (.slice B m D) ∧ GL w w' N (rs.map fun r => tabW N r.us) m B D ts := by
  have H := Lib.hid h
  have HOK := Lib.hid hok
  have HRL := Lib.hid h.len
  have HN := Lib.hid hN
  clear h hok
  have HG := Lib.hid (GL.nil w N (rs.map fun r => tabW N r.us))
  go_enter Try.func4, Try.ntmps4
  go_wp2
  go_loopw [5, 6] (fun l i wi => ∃ (k : Nat) (B : Option Addr) (D : Nat) (ts : List Tb), k ≤ m ∧ i = .int .i64 k ∧ l = .slice B k D ∧ GL w wi N (rs.map fun r => tabW N r.us) k B D ts) (fun _ i _ => m - (intOf i).toNat)
  case atStart => exact ⟨0, none, 0, [], by omega, rfl, rfl, HG.out⟩
  case round =>
    clear HG
    obtain ⟨k, B, D, ts, hk, rfl, rfl, hg⟩ := hrel
    by_cases hlt : k < m
    · obtain ⟨r, hr⟩ : ∃ r, rs[k]? = some r := ⟨_, List.getElem?_eq_getElem (by rw [← HRL.out]; exact hlt)⟩
      obtain ⟨bl, o, hA, hbl, hc⟩ := (Sl.same H.out hg.same).get k r hr
      have c0 : wr.cell? ⟨bl, o + k, none⟩ = some (.slice r.A r.us.length r.C) := by simpa [WRow.cells] using hc 0 (by omega)
      subst hA
      have HZ := Lib.hid (show (rs.map fun r => tabW N r.us)[k]? = some (tabW N r.us) by rw [List.getElem?_map, hr]; rfl)
      have HRO := Lib.hid ((HOK.out r (List.mem_of_getElem? hr)).same hg.same)
      have HG := Lib.hid hg
      have hk0 : (0 : Int) ≤ k := by omega
      have hk1 : (k : Int) < m := by omega
      clear hc hr hg
      go_upto_region 5 with fail
      refine wp_region_lit ?_
      refine wpList_read 6 ?_
      simp only [List.take_succ_cons, List.take_zero, List.drop_succ_cons, List.drop_zero]
      repeat (any_goals (first | go_big_quiet_step (fail) | quiet_step (fail)))
      refine wpQuiet_nil ?_
      refine wpList_plain rfl fun K hK => ?_
      go_simp
      refine (table_any N r.A r.us.length r.C r.us wr HN.out HRO.out.wl HRO.out.small).mono ?_
      rintro e wa ⟨At, Ct, rfl, hNT⟩
      refine hK _ _ ?_
      clear hK K c0 hbl
      obtain ⟨tw, htw⟩ : ∃ z, z = tabW N r.us := ⟨_, rfl⟩
      rw [← htw] at hNT HZ ⊢
      replace HG := Lib.hid (HG.out.next hNT.2.2)
      have HOT := Lib.hid hNT.1
      clear hNT htw HRO
      refine wpList_plain rfl fun K hK => ?_
      go_simp
      refine hK _ _ ?_
      clear hK K
      refine list_world fun wd hwd => ?_
      have hsd : Same wa wd := by rw [hwd]; exact (Frm.refl _ _).alloc _
      have hNc := Blk.new wa 30 #[.int .i64 N, .slice At tw.length Ct]
      rw [← hwd] at hNc
      clear hwd
      refine wpList_plain rfl fun K hK => ?_
      refine Own.grow (f := Tb.cells) (.tmp 13) (.tmp 20) _ rfl Try.underlying24 info_tb3 rfl rfl (Own.frm HG.out.own hsd (fun _ _ => id)) (fun _ => rfl) [⟨(N : Int), At, Ct, tw⟩] (by simp) ⟨wa.heap.size, 0, none⟩ 1 rfl (fun j u hj => news_of_blk hNc j u hj) (by simp [Tb.cells, Value.oneCell']) (by simp [maxLen] <;> omega) (by simp <;> omega) ?_
      intro g D' we hOd _ hgr hat
      refine hK _ _ ?_
      clear hK K
      have HG2 := Lib.hid (HG.out.step hsd (t := ⟨(N : Int), At, Ct, tw⟩) (Own.frm HOT.out hsd (fun _ _ => id)) rfl HZ.out hgr hOd hat)
      clear hgr hOd hat hNc hsd HG HOT
      go_wp2
      go_roundw
      case rel => exact ⟨k + 1, some ⟨g, 0, none⟩, D', _, by omega, by go_num, rfl, HG2.out⟩
      case measure => simp [intOf] <;> omega
    · obtain rfl : k = m := by omega
      have HG := Lib.hid hg
      clear hg
      go_wp2
      go_ret
      exact ⟨B, D, ts, rfl, HG.out⟩
end Go.Proofs.Ytjgndclfbcijmaa


/- Shape: the key of a table. -/
namespace Go.Proofs.Ytjgndclfbcijmaa
open Go.RowKit Go.Tk

def u8cell (x : UInt8) : List Value := [.int .u8 (x.toNat : Int)]
theorem u8cell_len (x : UInt8) : (u8cell x).length = 1 := rfl
theorem info_u8 : (Try.prog.info? 5).map (fun i => (i.zero, i.size, i.bytes)) = some (some (.int .u8 0), 1, 1) := by kernel_rfl
def byteAt (x i : Nat) : UInt8 := UInt8.ofNat (x / 2 ^ (8 * i))
def wbytes (x : Nat) : List UInt8 := (List.range 8).map (byteAt x)
def kbytes (ws : List Nat) : List UInt8 := ws.flatMap wbytes
def kstr (ws : List Nat) : ByteArray := ⟨(kbytes ws).toArray⟩
theorem byteAt_nat (x i : Nat) : (byteAt x i).toNat = x / 2 ^ (8 * i) % 256 := by simp [byteAt]
theorem byteAt_int (x i : Nat) : (x : Int) / 2 ^ (8 * i) % 256 = ((byteAt x i).toNat : Int) := by
  rw [byteAt_nat, Int.natCast_emod, Int.natCast_ediv, Int.natCast_pow]
  rfl
theorem wbytes_len (x : Nat) : (wbytes x).length = 8 := by simp [wbytes]
theorem wbytes_take (x : Nat) {j : Nat} (hj : j < 8) : (wbytes x).take (j + 1) = (wbytes x).take j ++ [byteAt x j] := by
  rw [List.take_add_one]
  simp [wbytes, hj]
theorem kbytes_len (ws : List Nat) : (kbytes ws).length = 8 * ws.length := by
  induction ws with
  | nil => rfl
  | cons x ws ih => rw [kbytes, List.flatMap_cons, List.length_append, wbytes_len]; rw [kbytes] at ih; rw [ih, List.length_cons]; omega
theorem kbytes_take {ws : List Nat} {k x : Nat} (h : ws[k]? = some x) : kbytes (ws.take (k + 1)) = kbytes (ws.take k) ++ wbytes x := by
  rw [List.take_add_one, h, kbytes, List.flatMap_append]
  simp [kbytes]
theorem byte_sum {x : Nat} (hx : x < 18446744073709551616) : x = x / 2 ^ (8 * 0) % 256 + 256 * (x / 2 ^ (8 * 1) % 256) + 65536 * (x / 2 ^ (8 * 2) % 256) + 16777216 * (x / 2 ^ (8 * 3) % 256) + 4294967296 * (x / 2 ^ (8 * 4) % 256) + 1099511627776 * (x / 2 ^ (8 * 5) % 256) + 281474976710656 * (x / 2 ^ (8 * 6) % 256) + 72057594037927936 * (x / 2 ^ (8 * 7) % 256) := by
  simp only [Nat.reduceMul, Nat.reducePow]
  omega
theorem wbytes_inj {x y : Nat} (hx : x < 18446744073709551616) (hy : y < 18446744073709551616) (h : wbytes x = wbytes y) : x = y := by
  have key : ∀ i, i < 8 → x / 2 ^ (8 * i) % 256 = y / 2 ^ (8 * i) % 256 := fun i hi => by
    have h1 := congrArg (fun l : List UInt8 => l[i]?) h
    simp only [wbytes, List.getElem?_map, List.getElem?_range hi, Option.map_some, Option.some.injEq] at h1
    rw [← byteAt_nat, ← byteAt_nat, h1]
  rw [byte_sum hx, byte_sum hy, key 0 (by omega), key 1 (by omega), key 2 (by omega), key 3 (by omega), key 4 (by omega), key 5 (by omega), key 6 (by omega), key 7 (by omega)]
theorem kbytes_inj : ∀ {xs ys : List Nat}, Small xs → Small ys → kbytes xs = kbytes ys → xs = ys
  | [], [], _, _, _ => rfl
  | [], y :: ys, _, _, h => by have := congrArg List.length h; rw [kbytes_len, kbytes_len] at this; simp at this
  | x :: xs, [], _, _, h => by have := congrArg List.length h; rw [kbytes_len, kbytes_len] at this; simp at this
  | x :: xs, y :: ys, hx, hy, h => by
    have h1 : wbytes x ++ kbytes xs = wbytes y ++ kbytes ys := h
    obtain ⟨h2, h3⟩ := List.append_inj h1 (by rw [wbytes_len, wbytes_len])
    rw [wbytes_inj (hx x List.mem_cons_self) (hy y List.mem_cons_self) h2, kbytes_inj (fun z hz => hx z (List.mem_cons_of_mem _ hz)) (fun z hz => hy z (List.mem_cons_of_mem _ hz)) h3]
theorem kstr_inj {xs ys : List Nat} (hx : Small xs) (hy : Small ys) (h : kstr xs = kstr ys) : xs = ys := by
  refine kbytes_inj hx hy ?_
  have := congrArg (fun b : ByteArray => b.data.toList) h
  simpa [kstr] using this
set_option maxRecDepth 100000 in
set_option maxHeartbeats 8000000 in
theorem key_any (N : Int) (A : Option Addr) (C : Nat) (ws : List Nat) (w : World) (h : TbOk w ⟨N, A, C, ws⟩) (h0 : 0 < ws.length) (h1 : ws.length ≤ 1024) :
    Calls Try.prog 29 #[.agg #[.int .i64 N, .slice A ws.length C]] w fun e w' => e = .returned (.string (kstr ws)) ∧ Same w w' := by
  have H := Lib.hid h
  clear h
  go_enter Try.func29, Try.ntmps29
  go_upto_region 1 with fail
  refine wp_world fun w1 hw1 => ?_
  have hs1 : Same w w1 := by rw [hw1]; exact (Frm.refl _ _).alloc _
  have hBX : Blk w1 w.heap.size 30 #[.int .i64 N, .slice A ws.length C] := by rw [hw1]; exact Blk.new _ _ _
  have hws : w.heap.size ≤ w.heap.size := Nat.le_refl _
  obtain ⟨X, hX⟩ : ∃ b, w.heap.size = b := ⟨_, rfl⟩
  rw [hX] at hBX ⊢
  have cX1 : w1.cell? ⟨X, 1, none⟩ = some (.slice A ws.length C) := hBX.cell 1
  have lX := hBX.lt
  have HS1 := Lib.hid hs1
  clear hw1 hX hs1 hBX hws
  go_wp2
  clear cX1 lX
  go_loopw [3, 10] (fun b i wi => ∃ (k : Nat) (B : Option Addr) (D : Nat), k ≤ ws.length ∧ i = .int .i64 k ∧ b = .slice B (8 * k) D ∧ Own wi 5 1 u8cell B (8 * k) D (kbytes (ws.take k)) ∧ Fresh w.heap.size B ∧ Same w wi) (fun _ i _ => ws.length - (intOf i).toNat)
  case atStart => exact ⟨0, none, 0, by omega, rfl, rfl, Own.nil _ _ _ _, fresh_none _, HS1.out⟩
  case round =>
    obtain ⟨k, B, D, hk, rfl, rfl, ho, hfB, hs⟩ := hrel
    clear HS1
    by_cases hlt : k < ws.length
    · obtain ⟨x, hx⟩ : ∃ x, ws[k]? = some x := ⟨_, List.getElem?_eq_getElem hlt⟩
      obtain ⟨bw, ow, hA, hbw, hc⟩ := WL.at1 (Sl.same H.out.wl hs) hx
      subst hA
      have hx64 := Small.at1 H.out.small hx
      have hk0 : (0 : Int) ≤ k := by omega
      have hk1 : (k : Int) < ws.length := by omega
      have HX := Lib.hid hx
      have HO := Lib.hid ho
      have HFB := Lib.hid hfB
      have HS := Lib.hid hs
      clear hx ho hfB hs
      go_wp2
      obtain ⟨wo, rfl⟩ : ∃ z, z = wr := ⟨_, rfl⟩
      clear hc hbw
      go_loopw [3, 14] (fun b i wi => ∃ (j : Nat) (B : Option Addr) (D : Nat), j ≤ 8 ∧ i = .int .i64 j ∧ b = .slice B (8 * k + j) D ∧ Own wi 5 1 u8cell B (8 * k + j) D (kbytes (ws.take k) ++ (wbytes x).take j) ∧ Fresh w.heap.size B ∧ Same w wi) (fun _ i _ => 8 - (intOf i).toNat)
      case atStart => exact ⟨0, B, D, by omega, rfl, rfl, by simpa using HO.out, HFB.out, HS.out⟩
      case round =>
        clear HO HFB HS
        obtain ⟨j, B, D, hj, rfl, rfl, ho, hfB, hs⟩ := hrel
        by_cases hlj : j < 8
        · have hj0 : (0 : Int) ≤ j := by omega
          have hj1 : (j : Int) < 8 := by omega
          have hwr : IntKind.i64.wrap (8 * (j : Int)) = 8 * (j : Int) := IntWalk.i64_in _ (by omega)
          have HO := Lib.hid ho
          have HFB := Lib.hid hfB
          have HS := Lib.hid hs
          clear ho hfB hs
          go_upto_region 8 with fail
          refine wp_region_lit ?_
          refine wpList_read 6 ?_
          simp only [List.take_succ_cons, List.take_zero, List.drop_succ_cons, List.drop_zero]
          repeat (any_goals (first | go_big_quiet_step (fail) | quiet_step (fail)))
          refine wpQuiet_nil ?_
          rw [byteAt_int x j]
          refine wpList_plain rfl fun K hK => ?_
          go_simp
          refine hK _ _ ?_
          clear hK K
          refine list_world fun wc hwc => ?_
          have hsc : Same wr wc := by rw [hwc]; exact (Frm.refl _ _).alloc _
          have hNc := Blk.new wr 5 #[.int .u8 ((byteAt x j).toNat : Int)]
          rw [← hwc] at hNc
          clear hwc
          refine wpList_plain rfl fun K hK => ?_
          refine Own.grow (f := u8cell) (.tmp 17) (.tmp 23) _ rfl Try.underlying23 info_u8 rfl rfl (Own.frm HO.out hsc (fun _ _ => id)) u8cell_len [byteAt x j] (by simp) ⟨wr.heap.size, 0, none⟩ 1 rfl (fun j u hj => news_of_blk hNc j u hj) (by simp [u8cell, Value.oneCell']) (by simp [maxLen] <;> omega) (by simp <;> omega) ?_
          intro g D' wd hOd _ hgr hat
          refine hK _ _ ?_
          clear hK K
          have hsd : Same w wd := (HS.out.trans hsc (fun _ _ h => h)).grown hgr (fun b hb => .inr (HFB.out b (ownBlock_row.1 hb)))
          have hgF : Fresh w.heap.size (some ⟨g, 0, none⟩) := by
            rcases hat with ⟨h1, _⟩ | ⟨h1, _⟩
            · rw [← h1]; exact HFB.out
            · have := HS.out.size; have := hsc.size; exact fresh_some (by omega)
          have hod : Own wd 5 1 u8cell (some ⟨g, 0, none⟩) (8 * k + (j + 1)) D' (kbytes (ws.take k) ++ (wbytes x).take (j + 1)) := by
            rw [wbytes_take x hlj, ← List.append_assoc]
            exact hOd
          have HOD := Lib.hid hod
          have HSD := Lib.hid hsd
          have HGF := Lib.hid hgF
          clear hgr hOd hat hNc hsc hod hsd hgF HO HS HFB hwr
          go_wp2
          go_roundw
          case rel => exact ⟨j + 1, some ⟨g, 0, none⟩, D', by omega, by go_num, by go_num, HOD.out, HGF.out, HSD.out⟩
          case measure => simp [intOf] <;> omega
        · obtain rfl : j = 8 := by omega
          have hod : Own wr 5 1 u8cell B (8 * (k + 1)) D (kbytes (ws.take (k + 1))) := by
            rw [kbytes_take HX.out]
            rw [show (wbytes x).take 8 = wbytes x from List.take_of_length_le (by rw [wbytes_len]; exact Nat.le_refl _)] at ho
            exact ho
          have HOD := Lib.hid hod
          have HFB := Lib.hid hfB
          have HS := Lib.hid hs
          clear ho hfB hs hod
          go_wp2
          go_roundw
          case rel => exact ⟨k + 1, B, D, by omega, by go_num, by go_num, HOD.out, HFB.out, HS.out⟩
          case measure => simp [intOf] <;> omega
    · obtain rfl : k = ws.length := by omega
      rw [List.take_of_length_le (Nat.le_refl _)] at ho
      obtain ⟨g, hB, _⟩ := ho.form (by omega)
      subst hB
      have hcv : (convert 23 9 (.slice (some ⟨g, 0, none⟩) (8 * ws.length) D)).run Try.prog wr = .ok (.string (kstr ws)) wr := by
        have h2 := run_convert_bytes_back (P := Try.prog) wr 23 9 5 ⟨g, 0, none⟩ D (kbytes ws) Try.underlying23 Try.underlying5 Try.underlying9 (fun j hj => by
          obtain ⟨sb, h3, _, h4⟩ := Own.at1 (c := fun x : UInt8 => .int .u8 (x.toNat : Int)) ho (i := j) (x := (kbytes ws)[j]) (List.getElem?_eq_getElem hj)
          injection h3 with h3
          injection h3 with h3
          subst h3
          have hadd : (⟨g, 0, none⟩ : Addr).add j = ⟨g, j, none⟩ := by unfold Addr.add; split <;> simp_all
          rw [hadd]
          exact h4)
        rw [kbytes_len] at h2
        exact h2
      clear ho hfB
      go_wp2
      go_ret
      exact ⟨rfl, hs⟩
end Go.Proofs.Ytjgndclfbcijmaa


/- Shape: sets of tables: what a map of tables holds; add. -/
namespace Go.Tk
open Go.RowKit Go.Maps
/-- a store into a map, as one operation -/
theorem Own.mapPut {H : Type} {P : Program} {o : Oper} {a : Act} {w : World} {K : Act → World → Prop} {Q : Exit → Act → World → Prop} (m x v : Operand) (t : TypeId) (ho : o.op = Op.mapUpdate t m x v) (k e : TypeId) (KY : Keyed P k) (ht : P.underlying t = some (.map k e)) (R : Value → Option (DataW H × List MemPlace)) (b n : Nat) (D : DataW H)
    (hm : a.eval m = .map (some b)) (hown : w.ownsMap P k R b n D) (hn : n < maxLen) (key val : Value) (kl : Lit) (hx : a.eval x = key) (hv : a.eval v = val) (hkey : keyOf P k key = some kl) (d : DataW H) (ps : List MemPlace) (hval : R val = some (d, ps))
    (hK : ∀ w', w'.ownsMap P k R b (n + 1) (D.put kl d) → w.grownBy w' (some b) → K (a.put o.dst undef) w') : o.wp P a w K Q := by
  obtain ⟨w', hrun, r1, r2⟩ := hown.update KY ht hn hkey hval
  unfold Oper.wp
  simp [execOp, ho, hm, hx, hv, hrun, Result.andThen]
  exact hK _ r1 r2
theorem ownsMap_frm {H : Type} {P : Program} {k : TypeId} {R : Value → Option (DataW H × List MemPlace)} {w w' : World} {b n : Nat} {D : DataW H} {S : Nat → Prop} (h : w.ownsMap P k R b n D) (hf : Frm S w w') (hS : ¬ S b) : w'.ownsMap P k R b n D := by
  have hlt := h.lt
  obtain ⟨es, clock, hb, rest⟩ := h
  exact ⟨es, clock, (hf.block b hlt hS).trans hb, rest⟩
theorem ranges_frm {H : Type} {P : Program} {k : TypeId} {R : Value → Option (DataW H × List MemPlace)} {w w' : World} {b r n : Nat} {D : DataW H} {left : Lit → Bool} {cnt : Nat} {S : Nat → Prop} (h : w.ranges P k R b r n D left cnt) (hf : Frm S w w') (hS : ¬ S b) (hr : ¬ S r) : w'.ranges P k R b r n D left cnt := by
  have h1 := h.owns.lt
  have h2 := h.lt
  obtain ⟨es, clock, since, seen, c0, hb, F, hs, hD, hrr, rest⟩ := h
  exact ⟨es, clock, since, seen, c0, (hf.block b h1 hS).trans hb, F, hs, hD, (hf.block r h2 hr).trans hrr, rest⟩
/-- cells stay while a map turns -/
theorem cell_map {H : Type} {P : Program} {k : TypeId} {R : Value → Option (DataW H × List MemPlace)} {w w' : World} {b n : Nat} {D : DataW H} (h : w.ownsMap P k R b n D) (hf : Frm (fun x => x = b) w w') {p : Addr} {v : Value} (hp : p.block < w.heap.size) (hc : w.cell? p = some v) : w'.cell? p = some v := by
  have hne : p.block ≠ b := fun he => by
    obtain ⟨es, clock, hb, _⟩ := h
    unfold World.cell? at hc
    rw [he, hb] at hc
    cases hc
  exact (hf.cell hp hne).trans hc
theorem Sl.turnMap {H : Type} {P : Program} {k : TypeId} {R : Value → Option (DataW H × List MemPlace)} {w w' : World} {b n : Nat} {D : DataW H} (h : w.ownsMap P k R b n D) (hf : Frm (fun x => x = b) w w') {m : Nat} {α : Type} {f : α → List Value} {A : Option Addr} {N : Nat} {xs : List α} (hlen : ∀ x, (f x).length = m) (hs : Sl w m f A N xs) : Sl w' m f A N xs := by
  refine ⟨hs.len, fun i x hi => ?_⟩
  obtain ⟨b0, off, h1, h2, h3⟩ := hs.get i x hi
  exact ⟨b0, off, h1, Nat.lt_of_lt_of_le h2 hf.size, fun j hj => by
    have hc := h3 j hj
    have hlt : j < (f x).length := by rw [hlen]; exact hj
    rw [List.getElem?_eq_getElem hlt] at hc ⊢
    exact cell_map h hf (p := ⟨b0, off + i * m + j, none⟩) h2 hc⟩
end Go.Tk
namespace Go.Proofs.Ytjgndclfbcijmaa
open Go.RowKit Go.Tk Go.Maps

open Classical in
/-- a table in a map is held as it is -/
noncomputable def tabR (v : Value) : Option (DataW Value × List MemPlace) := if ∃ (N : Int) (A : Option Addr) (n C : Nat), v = .agg #[.int .i64 N, .slice A n C] then some (.held v, []) else none
theorem tabR_of (N : Int) (A : Option Addr) (n C : Nat) : tabR (.agg #[.int .i64 N, .slice A n C]) = some (.held (.agg #[.int .i64 N, .slice A n C]), []) := by
  unfold tabR
  rw [if_pos ⟨N, A, n, C, rfl⟩]
theorem tabR_inv {v : Value} {y : DataW Value × List MemPlace} (h : tabR v = some y) : ∃ c : Int × Option Addr × Nat × Nat, v = .agg #[.int .i64 c.1, .slice c.2.1 c.2.2.1 c.2.2.2] ∧ y = (.held v, []) := by
  unfold tabR at h
  split at h
  · rename_i hx
    obtain ⟨N, A, n, C, hv⟩ := hx
    exact ⟨(N, A, n, C), hv, (Option.some.inj h).symm⟩
  · cases h
def kl (ws : List Nat) : Lit := .string (kbytes ws)
theorem kl_key (ws : List Nat) : WideAt.IsKeyLit (kl ws) := trivial
theorem kl_inj {xs ys : List Nat} (hx : Small xs) (hy : Small ys) (h : kl xs = kl ys) : xs = ys := by
  unfold kl at h
  injection h with h
  exact kbytes_inj hx hy h
theorem key_of {ws : List Nat} (h1 : ws.length ≤ 1024) : keyOf Try.prog 9 (.string (kstr ws)) = some (kl ws) := by
  have hs : (kstr ws).size ≤ maxLen := by
    show (kbytes ws).toArray.size ≤ 9223372036854775807
    rw [List.size_toArray, kbytes_len]
    omega
  rw [WideMaps.keyOf_string_mk Try.underlying9 hs]
  simp [kstr, kl]
abbrev KS : Keyed Try.prog 9 := string_keyed Try.underlying9
/-- block b is a set of tables of N variables: those of which M holds -/
structure ST (lo : Nat) (w : World) (b n : Nat) (D : DataW Value) (N : Int) (M : List Nat → Prop) : Prop where
  own : w.ownsMap Try.prog 9 tabR b n D
  dom : ∀ k, Maps.has D k = true → ∃ ws, M ws ∧ k = kl ws
  cod : ∀ ws, M ws → Maps.has D (kl ws) = true
  val : ∀ ws, M ws → ∃ A C, (∀ z, D.atKey (kl ws) z = .held (.agg #[.int .i64 N, .slice A ws.length C])) ∧ WL w A ws.length ws ∧ Fresh lo A
  good : ∀ ws, M ws → Small ws ∧ 0 < ws.length ∧ ws.length ≤ 1024
theorem ST.same {lo : Nat} {w w' : World} {b n : Nat} {D : DataW Value} {N : Int} {M : List Nat → Prop} (h : ST lo w b n D N M) (hs : Same w w') : ST lo w' b n D N M :=
  ⟨ownsMap_frm h.own hs id, h.dom, h.cod, fun ws hw => by obtain ⟨A, C, h1, h2, h3⟩ := h.val ws hw; exact ⟨A, C, h1, Sl.same h2 hs, h3⟩, h.good⟩
theorem ST.iff {lo : Nat} {w : World} {b n : Nat} {D : DataW Value} {N : Int} {M M' : List Nat → Prop} (h : ST lo w b n D N M) (hm : ∀ ws, M ws ↔ M' ws) : ST lo w b n D N M' := by
  have : M = M' := funext fun ws => propext (hm ws)
  rw [← this]; exact h
theorem ST.made (lo : Nat) (w : World) (N : Int) : ST lo (w.alloc (.map #[] 0)) w.heap.size 0 (.map []) N (fun _ => False) :=
  ⟨World.ownsMap_made _ _ _ _, fun k hk => (by cases hk), fun ws h => h.elim, fun ws h => h.elim, fun ws h => h.elim⟩
theorem ST.put {lo : Nat} {w w' : World} {b n : Nat} {D : DataW Value} {N : Int} {M : List Nat → Prop} (h : ST lo w b n D N M) {ws : List Nat} {A : Option Addr} {C : Nat} (hw : WL w A ws.length ws) (hfr : Fresh lo A) (hg : Small ws ∧ 0 < ws.length ∧ ws.length ≤ 1024)
    (ho : w'.ownsMap Try.prog 9 tabR b (n + 1) (D.put (kl ws) (.held (.agg #[.int .i64 N, .slice A ws.length C])))) (hf : Frm (fun x => x = b) w w') : ST lo w' b (n + 1) (D.put (kl ws) (.held (.agg #[.int .i64 N, .slice A ws.length C]))) N (fun x => M x ∨ x = ws) := by
  have him : IsMap D := by
    obtain ⟨es, hD, _⟩ := h.own.entries KS
    exact ⟨es, hD⟩
  refine ⟨ho, fun k hk => ?_, fun x hx => ?_, fun x hx => ?_, fun x hx => ?_⟩
  · by_cases he : k = kl ws
    · exact ⟨ws, .inr rfl, he⟩
    · rw [has_put_other he] at hk
      obtain ⟨x, h1, h2⟩ := h.dom k hk
      exact ⟨x, .inl h1, h2⟩
  · by_cases he : kl x = kl ws
    · rw [he]; exact has_put_same him (kl_key ws) _
    · rw [has_put_other he]
      rcases hx with hx | rfl
      · exact h.cod x hx
      · exact absurd rfl he
  · have hxs : Small x := by
      rcases hx with hx | rfl
      · exact (h.good x hx).1
      · exact hg.1
    by_cases he : x = ws
    · subst he
      exact ⟨A, C, fun z => atKey_put_same him (kl_key x) _ z, Sl.turnMap h.own hf ucell_len hw, hfr⟩
    · rcases hx with hx | hx
      · obtain ⟨A1, C1, h1, h2, h3⟩ := h.val x hx
        exact ⟨A1, C1, fun z => by rw [atKey_put_other (fun hk => he (kl_inj hxs hg.1 hk))]; exact h1 z, Sl.turnMap h.own hf ucell_len h2, h3⟩
      · exact absurd hx he
  · rcases hx with hx | rfl
    · exact h.good x hx
    · exact hg
set_option maxRecDepth 100000 in
set_option maxHeartbeats 8000000 in
theorem add_any (lo b n : Nat) (D : DataW Value) (N : Int) (M : List Nat → Prop) (A : Option Addr) (C : Nat) (ws : List Nat) (w : World) (hst : ST lo w b n D N M) (hn : n < maxLen) (h : WL w A ws.length ws) (hfr : Fresh lo A) (hg : Small ws ∧ 0 < ws.length ∧ ws.length ≤ 1024) :
    Calls Try.prog 27 #[.map (some b), .agg #[.int .i64 N, .slice A ws.length C]] w fun e w' => e = .returned (.tuple #[]) ∧ Frm (fun x => x = b) w w' ∧ ∃ D', ST lo w' b (n + 1) D' N (fun x => M x ∨ x = ws) := by
  have HST := Lib.hid hst
  have H := Lib.hid h
  have hg1 := hg.2.1
  have hg2 := hg.2.2
  have hG := Lib.hid hg
  have HFR := Lib.hid hfr
  clear hst h hg hfr
  go_enter Try.func27, Try.ntmps27
  go_upto_region 1 with fail
  refine wp_world fun w1 hw1 => ?_
  have hs1 : Same w w1 := by rw [hw1]; exact (Frm.refl _ _).alloc _
  have hBX : Blk w1 w.heap.size 30 #[.int .i64 N, .slice A ws.length C] := by rw [hw1]; exact Blk.new _ _ _
  have hbX : b < w.heap.size := HST.out.own.lt
  obtain ⟨X, hX⟩ : ∃ z, w.heap.size = z := ⟨_, rfl⟩
  rw [hX] at hBX hbX ⊢
  have cX0 : w1.cell? ⟨X, 0, none⟩ = some (.int .i64 N) := hBX.cell 0
  have cX1 : w1.cell? ⟨X, 1, none⟩ = some (.slice A ws.length C) := hBX.cell 1
  have lX := hBX.lt
  have HS1 := Lib.hid hs1
  clear hw1 hX hs1 hBX
  obtain ⟨S, hS⟩ : ∃ S : Nat → Prop, (fun x => x = b) = S := ⟨_, rfl⟩
  have hSX : ¬ S X := by rw [← hS]; exact fun h => by omega
  have HSS := Lib.hid hS
  clear hS
  refine wp_phS S [([0, 1, 3], 2), ([], 4)] (by kernel_rfl) (by kernel_rfl) ?_
  simp only [wpPh, pick, List.map_cons, List.map_nil, List.getD_cons_zero, List.getD_cons_succ]
  repeat (any_goals (first | go_big_quiet_step (fail) | quiet_step (fail)))
  refine wpQuiet_nil ?_
  obtain ⟨wd, hwd⟩ : ∃ z, z = w1.drew := ⟨_, rfl⟩
  have hsd : Same w1 wd := by rw [hwd]; exact (Frm.refl _ _).drew
  rw [← hwd]
  clear hwd
  refine effStep_plain rfl fun K hK => ?_
  go_simp
  have HSD := Lib.hid (HS1.out.trans hsd (fun _ _ h => h))
  refine (key_any N A C ws wd ⟨Sl.same H.out HSD.out, hG.out.1⟩ hg1 hg2).mono ?_
  rintro e w2 ⟨rfl, hs⟩
  have hf2 : Frm S w1 w2 := (Frm.refl S w1).trans (hsd.trans hs (fun _ _ h => h)) (fun _ _ h => h.elim)
  refine hK _ _ (Lat.mk_ hf2) ?_
  clear hK K
  refine wpQuiet_nil ?_
  have HS2 := Lib.hid (HSD.out.trans hs (fun _ _ h => h))
  have HW2 := Lib.hid (Sl.same H.out HS2.out)
  clear hs hsd
  refine wpList_plain rfl fun K hK => ?_
  refine Own.mapPut (.tmp 4) (.tmp 6) (.tmp 7) 51 rfl 9 30 KS Try.underlying51 tabR b n D rfl (ownsMap_frm HST.out.own HS2.out id) hn (.string (kstr ws)) (.agg #[.int .i64 N, .slice A ws.length C]) (kl ws) rfl rfl (key_of hg2) _ _ (tabR_of _ _ _ _) ?_
  intro w3 ho hgr
  have hf3 : Frm (fun x => x = b) w2 w3 := (Frm.refl (fun x => x = b) w2).grown hgr (fun g hg => .inl (Option.some.inj hg).symm)
  have hst := (HST.out.same HS2.out).put HW2.out HFR.out hG.out ho hf3
  have hfw : Frm (fun x => x = b) w w3 := ((Frm.refl (fun x => x = b) w).trans HS2.out (fun _ _ h => h.elim)).trans hf3 (fun _ _ h => h)
  refine hK _ _ ?_
  clear hK K ho hgr hf3
  have HF := Lib.hid hfw
  have HT := Lib.hid hst
  clear hfw hst
  go_wp2
  go_end0
  exact ⟨rfl, HF.out, _, HT.out⟩
end Go.Proofs.Ytjgndclfbcijmaa


/- Shape: of, given. -/
namespace Go.Tk
open Go.RowKit Go.Maps
theorem cell_iter {w : World} {r : Nat} {m : Option Nat} {a b : _} {c : _} (h : w.heap[r]? = some (.mapIter m a b c)) {p : Addr} (hp : p.block = r) : w.cell? p = none := by
  unfold World.cell?
  rw [hp, h]
theorem Sl.turnIter {w w' : World} {r : Nat} (hn : ∀ p : Addr, p.block = r → w.cell? p = none) (hf : Frm (fun x => x = r) w w') {m : Nat} {α : Type} {f : α → List Value} {A : Option Addr} {N : Nat} {xs : List α} (hlen : ∀ x, (f x).length = m) (hs : Sl w m f A N xs) : Sl w' m f A N xs := by
  refine ⟨hs.len, fun i x hi => ?_⟩
  obtain ⟨b0, off, h1, h2, h3⟩ := hs.get i x hi
  refine ⟨b0, off, h1, Nat.lt_of_lt_of_le h2 hf.size, fun j hj => ?_⟩
  have hc := h3 j hj
  have hlt : j < (f x).length := by rw [hlen]; exact hj
  rw [List.getElem?_eq_getElem hlt] at hc ⊢
  refine (hf.cell (p := ⟨b0, off + i * m + j, none⟩) h2 (fun he => ?_)).trans hc
  rw [hn _ he] at hc
  cases hc
end Go.Tk
namespace Go.Proofs.Ytjgndclfbcijmaa
open Go.RowKit Go.Tk Go.Maps

theorem Tb.cells_len (t : Tb) : (Tb.cells t).length = 2 := rfl
theorem ST.iter {lo : Nat} {w w' : World} {b n r : Nat} {D : DataW Value} {N : Int} {M : List Nat → Prop} (h : ST lo w b n D N M) (hn : ∀ p : Addr, p.block = r → w.cell? p = none) (hbr : b ≠ r) (hf : Frm (fun x => x = r) w w') : ST lo w' b n D N M :=
  ⟨ownsMap_frm h.own hf hbr, h.dom, h.cod, fun ws hw => by obtain ⟨A, C, h1, h2, h3⟩ := h.val ws hw; exact ⟨A, C, h1, Sl.turnIter hn hf ucell_len h2, h3⟩, h.good⟩
set_option maxRecDepth 100000 in
set_option maxHeartbeats 8000000 in
theorem sof_any (A : Option Addr) (n C : Nat) (xs : List Tb) (N : Int) (w : World) (hs : Sl w 2 Tb.cells A n xs) (hok : ∀ t ∈ xs, TbOk w t ∧ t.N = N ∧ 0 < t.ws.length ∧ t.ws.length ≤ 1024) (hn : n ≤ 1000000000000000000) :
    Calls Try.prog 19 #[.slice A n C] w fun e w' => ∃ b D, e = .returned (.map (some b)) ∧ Same w w' ∧ w.heap.size ≤ b ∧ ST 0 w' b n D N (fun ws => ∃ t ∈ xs, ws = t.ws) := by
  have H := Lib.hid hs
  have HOK := Lib.hid hok
  have HL := Lib.hid hs.len
  clear hs hok
  have hmm := @run_makeMap Try.prog
  go_enter Try.func19, Try.ntmps19
  go_upto_region 2 with fail
  refine wp_world fun w1 hw1 => ?_
  have hs1 : Same w w1 := by rw [hw1]; exact (Frm.refl _ _).alloc _
  have hst := ST.made 0 w N
  rw [← hw1] at hst
  have hbw : w.heap.size ≤ w.heap.size := Nat.le_refl _
  obtain ⟨b, hb⟩ : ∃ z, z = w.heap.size := ⟨_, rfl⟩
  have hbw : w.heap.size ≤ b := Nat.le_of_eq hb.symm
  rw [← hb] at hst ⊢
  have HS1 := Lib.hid hs1
  have HST := Lib.hid hst
  clear hw1 hb hs1 hst hmm
  go_wp2
  go_loopw [9] (fun i wi => ∃ (k : Nat) (D : DataW Value), k ≤ n ∧ i = .int .i64 k ∧ Same w wi ∧ ST 0 wi b k D N (fun ws => ∃ t ∈ xs.take k, ws = t.ws)) (fun i _ => n - (intOf i).toNat)
  case atStart => exact ⟨0, _, by omega, rfl, HS1.out, HST.out.iff (fun ws => by simp)⟩
  case round =>
    clear HS1 HST
    obtain ⟨k, D, hk, rfl, hs, hst⟩ := hrel
    by_cases hlt : k < n
    · obtain ⟨t, ht⟩ : ∃ t, xs[k]? = some t := ⟨_, List.getElem?_eq_getElem (by rw [← HL.out]; exact hlt)⟩
      obtain ⟨bl, o, hA, hbl, hc⟩ := (Sl.same H.out hs).get k t ht
      have c0 : wr.cell? ⟨bl, o + k * 2, none⟩ = some (.int .i64 t.N) := hc 0 (by omega)
      have c1 : wr.cell? ⟨bl, o + k * 2 + 1, none⟩ = some (.slice t.A t.ws.length t.C) := hc 1 (by omega)
      obtain ⟨hto, htN, ht0, ht1⟩ := HOK.out t (List.mem_of_getElem? ht)
      subst hA
      have hk0 : (0 : Int) ≤ k := by omega
      have hk1 : (k : Int) < n := by omega
      have HST := Lib.hid hst
      have HS := Lib.hid hs
      have HT := Lib.hid ht
      have HTO := Lib.hid (hto.same hs)
      clear hc hst hs ht hto
      obtain ⟨tN, tA, tC, tw⟩ := t
      simp only at c0 c1 htN ht0 ht1
      subst htN
      go_upto_region 5 with fail
      refine wp_world fun w2 hw2 => ?_
      have hs2 : Same wr w2 := by rw [hw2]; exact (Frm.refl _ _).alloc _
      have hBX : Blk w2 wr.heap.size 30 #[.int .i64 tN, .slice tA tw.length tC] := by rw [hw2]; exact Blk.new _ _ _
      clear c0 c1 hbl hw2
      obtain ⟨X, hX⟩ : ∃ z, z = wr.heap.size := ⟨_, rfl⟩
      rw [← hX] at hBX ⊢
      have cX0 : w2.cell? ⟨X, 0, none⟩ = some (.int .i64 tN) := hBX.cell 0
      have cX1 : w2.cell? ⟨X, 1, none⟩ = some (.slice tA tw.length tC) := hBX.cell 1
      have lX := hBX.lt
      replace HS := Lib.hid (HS.out.trans hs2 (fun _ _ h => h))
      replace HST := Lib.hid (HST.out.same hs2)
      replace HTO := Lib.hid (HTO.out.same hs2)
      clear hX hBX hs2
      go_wp2_with (fail)
      refine (add_any 0 b k D tN _ tA tC tw w2 HST.out (by simp [maxLen] <;> omega) HTO.out.wl (fun _ _ => Nat.zero_le _) ⟨HTO.out.small, ht0, ht1⟩).mono ?_
      rintro e w3 ⟨rfl, hf, D', hst⟩
      have hsw : Same w w3 := HS.out.trans hf (fun i hi (h : i = b) => by omega)
      have hst2 := hst.iff (M' := fun ws => ∃ t ∈ xs.take (k + 1), ws = t.ws) (fun ws => by
        rw [List.take_add_one, HT.out]
        constructor
        · rintro (⟨t, h1, h2⟩ | rfl)
          · exact ⟨t, List.mem_append_left _ h1, h2⟩
          · exact ⟨⟨tN, tA, tC, ws⟩, List.mem_append_right _ (by simp), rfl⟩
        · rintro ⟨t, h1, h2⟩
          rcases List.mem_append.1 h1 with h1 | h1
          · exact .inl ⟨t, h1, h2⟩
          · simp at h1
            subst h1
            exact .inr h2)
      have HS3 := Lib.hid hsw
      have HT3 := Lib.hid hst2
      clear hf hst hsw hst2 cX0 cX1 lX
      go_wp2
      go_roundw
      case rel => exact ⟨k + 1, D', by omega, by go_num, HS3.out, HT3.out⟩
      case measure => simp [intOf] <;> omega
    · obtain rfl : k = n := by omega
      rw [List.take_of_length_le (by rw [← HL.out]; exact Nat.le_refl _)] at hst
      have HST := Lib.hid hst
      clear hst
      go_wp2
      go_ret
      exact ⟨b, D, rfl, hs, hbw, HST.out⟩
/-- how many of a list -/
theorem count_one {α : Type} [DecidableEq α] {L : List α} (hn : L.Nodup) {x0 : α} (hx : x0 ∈ L) {p p' q : α → Bool} (h0 : p x0 = false) (h1 : p' x0 = true) (h2 : ∀ x ∈ L, x ≠ x0 → p' x = p x) : (L.filter fun x => p' x && q x).length = (L.filter fun x => p x && q x).length + (if q x0 then 1 else 0) := by
  induction L with
  | nil => cases hx
  | cons a L ih =>
    obtain ⟨ha, hn'⟩ := List.nodup_cons.1 hn
    by_cases he : a = x0
    · subst he
      have hrest : L.filter (fun x => p' x && q x) = L.filter (fun x => p x && q x) := List.filter_congr fun x hx => by
        rw [h2 x (List.mem_cons_of_mem _ hx) (fun e => ha (e ▸ hx))]
      rw [List.filter_cons, List.filter_cons, h0, h1, hrest]
      cases q a <;> simp
    · have hx' : x0 ∈ L := by
        rcases List.mem_cons.1 hx with h | h
        · exact absurd h.symm he
        · exact h
      have := ih hn' hx' (fun x hx => h2 x (List.mem_cons_of_mem _ hx))
      rw [List.filter_cons, List.filter_cons, h2 a List.mem_cons_self he]
      cases (p a && q a) <;> simp [this] <;> omega
def loT (nn v : Nat) (x : List Nat) : List Nat := tab nn (hfF v false x)
def hiT (nn v : Nat) (x : List Nat) : List Nat := tab nn (hfF v true x)
/-- how many depend on the variable -/
def cntL (nn v : Nat) (L : List (List Nat)) : Nat := (L.filter fun x => decide (loT nn v x ≠ hiT nn v x)).length
theorem ownsMap_size {w : World} {b n : Nat} {D : DataW Value} (h : w.ownsMap Try.prog 9 tabR b n D) : Maps.size D ≤ n := by
  obtain ⟨es, clock, hb, F, hs, rfl⟩ := h
  show (List.foldr DataW.insert [] _).length ≤ n
  rw [length_sorted]
  simpa using hs
theorem tab_good {nn : Nat} (h : nn ≤ 16) (F : Nat → Bool) : Small (tab nn F) ∧ 0 < (tab nn F).length ∧ (tab nn F).length ≤ 1024 := by
  refine ⟨fun x hx => tab_lt x hx, ?_, ?_⟩
  · rw [tab_len]
    unfold nw
    split
    · omega
    · exact Nat.two_pow_pos _
  · rw [tab_len]; exact nw_le h
theorem toList_inj {a b : ByteArray} (h : a.toList = b.toList) : a = b := by
  rw [ByteArray.toList_eq, ByteArray.toList_eq] at h
  cases a; cases b
  simp at h
  rw [h]
theorem cof_ok (nn v : Nat) (b : Bool) (A : Option Addr) (C : Nat) (ws : List Nat) (w : World) (hv : v < nn) (h : TbOk w ⟨(nn : Int), A, C, ws⟩) (hf : FormN nn ws) : Calls Try.prog 28 #[.agg #[.int .i64 nn, .slice A ws.length C], .int .i64 v, .bool b] w (RetTE w nn (tab nn (hfF v b ws)) 0) := by
  have h1 := Cofactor_any (nn : Int) A C ws (v : Int) b w h
  have h2 : ofE (nn : Int) (v : Int) ws = 0 := by
    unfold ofE
    rw [if_pos (frm_nat.2 hf), if_neg (by omega)]
  rw [h2] at h1
  exact h1
theorem left_iff {left : Lit → Bool} {ws x : List Nat} (hs : Small x) (hw : Small ws) : (left (kl x) && !(kl x).sameKey (kl ws)) = false ↔ (left (kl x) = false ∨ x = ws) := by
  by_cases he : x = ws
  · subst he
    rw [WideAt.sameKey_self (kl_key x)]
    simp
  · have : (kl x).sameKey (kl ws) = false := sameKey_ne (fun h => he (kl_inj hs hw h))
    rw [this]
    simp [he]
set_option maxRecDepth 100000 in
set_option maxHeartbeats 16000000 in
theorem given_any (lo0 b n nn v : Nat) (D : DataW Value) (L : List (List Nat)) (w : World) (hst : ST lo0 w b n D (nn : Int) (fun ws => ws ∈ L)) (hnd : L.Nodup) (hf : ∀ ws ∈ L, FormN nn ws) (hv : v < nn) (hn16 : nn ≤ 16) (hn : n ≤ 1000000000000000000) (hLl : L.length ≤ 1000000000000000000) :
    Calls Try.prog 20 #[.map (some b), .int .i64 v] w fun e w' => ∃ b' n' D', e = .returned (.tuple #[.map (some b'), .int .i64 (cntL nn v L : Nat)]) ∧ Same w w' ∧ w.heap.size ≤ b' ∧ n' ≤ 2 * n ∧ ST w.heap.size w' b' n' D' (nn : Int) (fun y => ∃ x ∈ L, y = loT nn v x ∨ y = hiT nn v x) := by
  have HST := Lib.hid hst
  have HF := Lib.hid hf
  have HND := Lib.hid hnd
  clear hst hf hnd
  have hmm := @run_makeMap Try.prog
  go_enter Try.func20, Try.ntmps20
  go_upto_region 2 with fail
  refine wp_world fun w1 hw1 => ?_
  have hs1 : Same w w1 := by rw [hw1]; exact (Frm.refl _ _).alloc _
  obtain ⟨lo1, hlo1⟩ : ∃ z, z = w.heap.size := ⟨_, rfl⟩
  have hsn := ST.made lo1 w (nn : Int)
  rw [← hw1] at hsn
  obtain ⟨bn, hb⟩ : ∃ z, z = w.heap.size := ⟨_, rfl⟩
  have hbw : w.heap.size ≤ bn := Nat.le_of_eq hb.symm
  have hbb : b < bn := by rw [hb]; exact HST.out.own.lt
  rw [← hb] at hsn ⊢
  have hbn1 : bn < w1.heap.size := hsn.own.lt
  rw [hlo1] at hsn
  clear hlo1
  have HS1 := Lib.hid hs1
  have HSN := Lib.hid hsn
  clear hw1 hb hs1 hsn hmm
  refine wp_region_lit ?_
  refine wpList_read 1 ?_
  simp only [List.take_succ_cons, List.take_zero, List.drop_succ_cons, List.drop_zero]
  repeat (any_goals (first | go_big_quiet_step (fail) | quiet_step (fail)))
  refine wpQuiet_nil ?_
  refine wpList_range_own w1 rfl (.tmp 17) 51 rfl 9 30 KS Try.underlying51 tabR b n D rfl (HST.out.same HS1.out).own ?_
  intro w2 hrg hgr hsz
  have hs2 : Same w1 w2 := (Frm.refl _ _).grown hgr (fun g hg => by cases hg)
  obtain ⟨R, hR⟩ : ∃ z, z = w1.heap.size := ⟨_, rfl⟩
  rw [← hR] at hrg ⊢
  have hbR : b < R := by omega
  have hbnR : bn < R := by omega
  have hwR : w.heap.size ≤ R := by omega
  have HRG := Lib.hid hrg
  have HS2 := Lib.hid (HS1.out.trans hs2 (fun _ _ h => h))
  replace HSN := Lib.hid (HSN.out.same hs2)
  have hsD := ownsMap_size HST.out.own
  clear hR hrg hgr hs2 hsz HS1 hbn1
  go_wp2
  go_frame
  go_loopw [7] (fun c wi => ∃ (left : Lit → Bool) (cnt : Nat) (D' : DataW Value) (m : Nat), c = .int .i64 ((L.filter (fun x => !left (kl x) && decide (loT nn v x ≠ hiT nn v x))).length : Nat) ∧ wi.ranges Try.prog 9 tabR b R n D left cnt ∧ ST w.heap.size wi bn m D' (nn : Int) (fun y => ∃ x ∈ L, left (kl x) = false ∧ (y = loT nn v x ∨ y = hiT nn v x)) ∧ m + 2 * cnt ≤ 2 * n ∧ Same w wi) (fun _ wi => wi.rangeLeft b R)
  case atStart =>
    refine ⟨Maps.has D, Maps.size D, _, 0, ?_, HRG.out, HSN.out.iff (fun y => ⟨fun h => h.elim, fun ⟨x, h1, h2, _⟩ => by rw [HST.out.cod x h1] at h2; cases h2⟩), by omega, HS2.out⟩
    rw [List.filter_eq_nil_iff.2 (fun x hx => by rw [HST.out.cod x hx]; simp)]
    rfl
  case round =>
    clear HRG HS2 HSN hsD
    obtain ⟨left, cnt, D', m, hc, hrg, hsn, hm, hs⟩ := hrel
    subst hc
    have HRG := Lib.hid hrg
    have HSN := Lib.hid hsn
    have HS := Lib.hid hs
    clear hrg hsn hs
    go_upto_region 3 with fail
    refine wp_region_lit ?_
    refine wpList_next_ranges wr rfl (.tmp 18) rfl 9 KS tabR Value.string (fun c : Int × Option Addr × Nat × Nat => .agg #[.int .i64 c.1, .slice c.2.1 c.2.2.1 c.2.2.2]) (fun key k hk => by obtain ⟨x, rfl, _⟩ := WideMaps.string_of_keyOf Try.underlying9 hk; exact ⟨x, rfl⟩) (fun v y hv => by obtain ⟨c, h1, _⟩ := tabR_inv hv; exact ⟨c, h1⟩) b R n D left cnt rfl HRG.out ?_ ?_
    · intro hc0 hl0
      have hcount : (L.filter (fun x => !left (kl x) && decide (loT nn v x ≠ hiT nn v x))).length = cntL nn v L := by
        unfold cntL
        congr 1
        exact List.filter_congr fun x _ => by rw [hl0]; simp
      rw [hcount]
      have HST2 := Lib.hid (HSN.out.iff (M' := fun y => ∃ x ∈ L, y = loT nn v x ∨ y = hiT nn v x) (fun y => ⟨fun ⟨x, h1, _, h3⟩ => ⟨x, h1, h3⟩, fun ⟨x, h1, h3⟩ => ⟨x, h1, hl0 _, h3⟩⟩))
      clear hcount hl0 hc0
      go_wp2
      go_ret2
      exact ⟨bn, m, D', rfl, HS.out, hbw, by omega, HST2.out⟩
    · intro x c k y w3 cnt1 hkey hlk hval hat hrg1 hlt hgr hsz hen
      have hhas := Maps.has_true_of_atKey hat
      obtain ⟨ws, hwL, rfl⟩ := HST.out.dom k hhas
      obtain ⟨A, C, hv1, hwl, _⟩ := HST.out.val ws hwL
      have hcc : c = ((nn : Int), A, ws.length, C) := by
        obtain ⟨c', h1, h2⟩ := tabR_inv hval
        have h3 := (hat .nil).symm.trans (hv1 .nil)
        rw [h2] at h3
        injection h3 with h3
        injection h3 with h3
        obtain ⟨c0, c1, c2, c3⟩ := c
        simp at h3
        obtain ⟨e0, e1, e2, e3⟩ := h3
        subst e0 e1 e2 e3
        rfl
      subst hcc
      have hf3 : Frm (fun x => x = R) wr w3 := (Frm.refl _ _).grown hgr (fun g hg => .inl (Option.some.inj hg).symm)
      have hnoc : ∀ p : Addr, p.block = R → wr.cell? p = none := by
        obtain ⟨es, clock, since, seen, c0, _, _, _, _, hrr, _⟩ := HRG.out
        exact fun p hp => cell_iter hrr hp
      have hs3 : Same w w3 := HS.out.trans hf3 (fun i hi (h : i = R) => by omega)
      have hsn3 := HSN.out.iter hnoc (by omega) hf3
      have hR3 : R < w3.heap.size := hrg1.lt
      obtain ⟨hg1, hg2, hg3⟩ := HST.out.good ws hwL
      have HG := Lib.hid hg1
      have HS3 := Lib.hid hs3
      have HSN3 := Lib.hid hsn3
      have HRG3 := Lib.hid hrg1
      have HW := Lib.hid (Sl.same hwl hs3)
      have HFM := Lib.hid (HF.out ws hwL)
      have HWL := Lib.hid hwL
      have HLK := Lib.hid hlk
      obtain ⟨old, hold⟩ : ∃ z, z = (L.filter (fun x => !left (kl x) && decide (loT nn v x ≠ hiT nn v x))).length := ⟨_, rfl⟩
      have hol : old ≤ L.length := by rw [hold]; exact List.length_filter_le _ _
      have HOLD := Lib.hid hold
      rw [← hold]
      clear hkey hlk hval hat hhas hv1 hwl hf3 hnoc hs3 hsn3 hrg1 hgr hsz hg1 hwL hold HS HSN
      have hwr1 : IntKind.i64.wrap ((old : Int) + 1) = ((old + 1 : Nat) : Int) := by rw [IntWalk.i64_in _ (by omega)]; rfl
      go_upto_region 5 with fail
      refine wp_world fun w4 hw => ?_
      have hs4 : Same w3 w4 := by rw [hw]; exact (Frm.refl _ _).alloc _
      have hB9 : Blk w4 w3.heap.size 30 #[.int .i64 nn, .slice A ws.length C] := by rw [hw]; exact Blk.new _ _ _
      obtain ⟨X9, hX9⟩ : ∃ z, z = w3.heap.size := ⟨_, rfl⟩
      rw [← hX9] at hB9 ⊢
      have hR9 : R < X9 := by omega
      have c90 : w4.cell? ⟨X9, 0, none⟩ = some (.int .i64 nn) := hB9.cell 0
      have c91 : w4.cell? ⟨X9, 1, none⟩ = some (.slice A ws.length C) := hB9.cell 1
      have l9 := hB9.lt
      have HB9 := Lib.hid hB9
      have HS4 := Lib.hid hs4
      clear hw hX9 hB9 hs4 hen
      go_wp2_with (fail)
      refine (cof_ok nn v false A C ws w4 hv ⟨Sl.same HW.out HS4.out, HG.out⟩ HFM.out).mono ?_
      rintro e w5 ⟨A1, C1, rfl, hNT⟩
      obtain ⟨lo, hlo⟩ : ∃ z, z = tab nn (hfF v false ws) := ⟨_, rfl⟩
      have HLO := Lib.hid (show lo = loT nn v ws from hlo)
      have hgl := tab_good hn16 (hfF v false ws)
      rw [← hlo] at hNT hgl ⊢
      obtain ⟨hgl1, hgl2, hgl3⟩ := hgl
      have HGL := Lib.hid hgl1
      have HO1 := Lib.hid hNT.1
      have HFL := Lib.hid (show Fresh w.heap.size A1 from fun x hx => Nat.le_trans (HS3.out.trans HS4.out (fun _ _ h => h)).size (hNT.2.1 x hx))
      replace HS4 := Lib.hid (HS4.out.trans hNT.2.2 (fun _ _ h => h))
      replace HB9 := Lib.hid (HB9.out.frm hNT.2.2 id)
      clear hNT hlo hgl1 c90 c91 l9
      go_upto_region 6 with fail
      refine wp_world fun w6 hw => ?_
      have hs6 : Same w5 w6 := by rw [hw]; exact (Frm.refl _ _).alloc _
      have hB10 : Blk w6 w5.heap.size 30 #[.int .i64 nn, .slice A1 lo.length C1] := by rw [hw]; exact Blk.new _ _ _
      obtain ⟨X10, hX10⟩ : ∃ z, z = w5.heap.size := ⟨_, rfl⟩
      rw [← hX10] at hB10 ⊢
      have hR10 : R < X10 := by have := HB9.out.lt; omega
      replace HO1 := Lib.hid (Own.frm HO1.out hs6 (fun _ _ => id))
      replace HS4 := Lib.hid (HS4.out.trans hs6 (fun _ _ h => h))
      replace HB9 := Lib.hid (HB9.out.frm hs6 id)
      have HB10 := Lib.hid hB10
      have c90 : w6.cell? ⟨X9, 0, none⟩ = some (.int .i64 nn) := HB9.out.cell 0
      have c91 : w6.cell? ⟨X9, 1, none⟩ = some (.slice A ws.length C) := HB9.out.cell 1
      have l9 := HB9.out.lt
      clear hw hX10 hB10 hs6
      go_wp2_with (fail)
      refine (cof_ok nn v true A C ws w6 hv ⟨Sl.same HW.out HS4.out, HG.out⟩ HFM.out).mono ?_
      rintro e w7 ⟨A2, C2, rfl, hNT⟩
      obtain ⟨hi, hhi⟩ : ∃ z, z = tab nn (hfF v true ws) := ⟨_, rfl⟩
      have HHI := Lib.hid (show hi = hiT nn v ws from hhi)
      have hgh := tab_good hn16 (hfF v true ws)
      rw [← hhi] at hNT hgh ⊢
      obtain ⟨hgh1, hgh2, hgh3⟩ := hgh
      have HGH := Lib.hid hgh1
      have HO2 := Lib.hid hNT.1
      have HFH := Lib.hid (show Fresh w.heap.size A2 from fun x hx => Nat.le_trans (HS3.out.trans HS4.out (fun _ _ h => h)).size (hNT.2.1 x hx))
      replace HO1 := Lib.hid (Own.frm HO1.out hNT.2.2 (fun _ _ => id))
      replace HS4 := Lib.hid (HS4.out.trans hNT.2.2 (fun _ _ h => h))
      replace HB10 := Lib.hid (HB10.out.frm hNT.2.2 id)
      clear hNT hhi hgh1 c90 c91 l9 HB9
      go_upto_region 7 with fail
      refine wp_world fun w8 hw => ?_
      have hs8 : Same w7 w8 := by rw [hw]; exact (Frm.refl _ _).alloc _
      have hB12 : Blk w8 w7.heap.size 30 #[.int .i64 nn, .slice A2 hi.length C2] := by rw [hw]; exact Blk.new _ _ _
      obtain ⟨X12, hX12⟩ : ∃ z, z = w7.heap.size := ⟨_, rfl⟩
      rw [← hX12] at hB12 ⊢
      have hR12 : R < X12 := by have := HB10.out.lt; omega
      replace HO1 := Lib.hid (Own.frm HO1.out hs8 (fun _ _ => id))
      replace HO2 := Lib.hid (Own.frm HO2.out hs8 (fun _ _ => id))
      replace HS4 := Lib.hid (HS4.out.trans hs8 (fun _ _ h => h))
      replace HB10 := Lib.hid (HB10.out.frm hs8 id)
      have HB12 := Lib.hid hB12
      have ca0 : w8.cell? ⟨X10, 0, none⟩ = some (.int .i64 nn) := HB10.out.cell 0
      have ca1 : w8.cell? ⟨X10, 1, none⟩ = some (.slice A1 lo.length C1) := HB10.out.cell 1
      have la := HB10.out.lt
      have cb0 : w8.cell? ⟨X12, 0, none⟩ = some (.int .i64 nn) := hB12.cell 0
      have cb1 : w8.cell? ⟨X12, 1, none⟩ = some (.slice A2 hi.length C2) := hB12.cell 1
      have lb := hB12.lt
      clear hw hX12 hB12 hs8
      refine wp_phS (fun _ => False) [([0, 2], 1), ([], 3), ([4], 5)] (by kernel_rfl) (by kernel_rfl) ?_
      simp only [wpPh, pick, List.map_cons, List.map_nil, List.getD_cons_zero, List.getD_cons_succ]
      repeat (any_goals (first | go_big_quiet_step (fail) | quiet_step (fail)))
      refine wpQuiet_nil ?_
      obtain ⟨wd, hwd⟩ : ∃ z, z = w8.drew := ⟨_, rfl⟩
      have hsd : Same w8 wd := by rw [hwd]; exact (Frm.refl _ _).drew
      rw [← hwd]
      clear hwd ca0 ca1 la cb0 cb1 lb
      refine effStep_plain rfl fun K hK => ?_
      go_simp
      refine (key_any (nn : Int) A1 C1 lo wd ⟨Sl.same (HO1.out.sl ucell_len) hsd, HGL.out⟩ hgl2 hgl3).mono ?_
      rintro e wk ⟨rfl, hs⟩
      have hsk := hsd.trans hs (fun _ _ h => h)
      refine hK _ _ (Lat.mk_ hsk) ?_
      clear hK K hs hsd
      refine wpQuiet_nil ?_
      refine effStep_plain rfl fun K hK => ?_
      go_simp
      refine (key_any (nn : Int) A2 C2 hi wk ⟨Sl.same (HO2.out.sl ucell_len) hsk, HGH.out⟩ hgh2 hgh3).mono ?_
      rintro e w9 ⟨rfl, hs⟩
      have hs9 := hsk.trans hs (fun _ _ h => h)
      refine hK _ _ (Lat.mk_ hs9) ?_
      clear hK K hs hsk
      repeat (any_goals (first | go_big_quiet_step (fail) | quiet_step (fail)))
      refine wpQuiet_nil ?_
      replace HSN3 := Lib.hid (HSN3.out.same (HS4.out.trans hs9 (fun _ _ h => h)))
      replace HRG3 := Lib.hid (ranges_frm HRG3.out (HS4.out.trans hs9 (fun _ _ h => h)) id id)
      replace HS3 := Lib.hid (HS3.out.trans (HS4.out.trans hs9 (fun _ _ h => h)) (fun _ _ h => h))
      replace HO1 := Lib.hid (Own.frm HO1.out hs9 (fun _ _ => id))
      replace HO2 := Lib.hid (Own.frm HO2.out hs9 (fun _ _ => id))
      have hB10 := HB10.out.frm hs9 id
      have hB12 := HB12.out.frm hs9 id
      have ca0 : w9.cell? ⟨X10, 0, none⟩ = some (.int .i64 nn) := hB10.cell 0
      have ca1 : w9.cell? ⟨X10, 1, none⟩ = some (.slice A1 lo.length C1) := hB10.cell 1
      have la := hB10.lt
      have cb0 : w9.cell? ⟨X12, 0, none⟩ = some (.int .i64 nn) := hB12.cell 0
      have cb1 : w9.cell? ⟨X12, 1, none⟩ = some (.slice A2 hi.length C2) := hB12.cell 1
      have lb := hB12.lt
      obtain ⟨S, hS⟩ : ∃ S : Nat → Prop, (fun x => x = bn) = S := ⟨_, rfl⟩
      have hS10 : ¬ S X10 := by rw [← hS]; exact fun h => by omega
      have hS12 : ¬ S X12 := by rw [← hS]; exact fun h => by omega
      have HSS := Lib.hid hS
      clear hS hB10 hB12 HB10 HB12 hs9 HS4 HW
      by_cases heq : lo = hi
      · subst heq
        go_upto_region 10 with fail
        refine wp_phS S [([0, 1, 2, 3, 4, 5], 6), ([], 7)] (by kernel_rfl) (by kernel_rfl) ?_
        simp only [wpPh, pick, List.map_cons, List.map_nil, List.getD_cons_zero, List.getD_cons_succ]
        repeat (any_goals (first | go_big_quiet_step (fail) | quiet_step (fail)))
        refine wpQuiet_nil ?_
        obtain ⟨wd, hwd⟩ : ∃ z, z = w9.drew := ⟨_, rfl⟩
        have hsd : Same w9 wd := by rw [hwd]; exact (Frm.refl _ _).drew
        rw [← hwd]
        clear hwd ca0 ca1 la cb0 cb1 lb
        have hst0 := HSN3.out.same hsd
        refine effStep_plain rfl fun K hK => ?_
        refine Own.mapPut (.tmp 44) (.tmp 45) (.tmp 48) 51 rfl 9 30 KS Try.underlying51 tabR bn m D' rfl hst0.own (by simp [maxLen] <;> omega) (.string (kstr lo)) (.agg #[.int .i64 nn, .slice A1 lo.length C1]) (kl lo) rfl rfl (key_of hgl3) _ _ (tabR_of _ _ _ _) ?_
        intro wa ho hgr
        have hfa : Frm (fun x => x = bn) wd wa := (Frm.refl _ _).grown hgr (fun g hg => .inl (Option.some.inj hg).symm)
        have hst1 := hst0.put (Sl.same (HO1.out.sl ucell_len) hsd) HFL.out ⟨HGL.out, hgl2, hgl3⟩ ho hfa
        have hfs : Frm (fun x => x = bn) w9 wa := ((Frm.refl (fun x => x = bn) w9).trans hsd (fun _ _ h => h.elim)).trans hfa (fun _ _ h => h)
        refine hK _ _ (Lat.mk_ (by rw [← HSS.out]; exact hfs)) ?_
        clear hK K ho hgr
        refine wpQuiet_nil ?_
        refine wpList_plain rfl fun K hK => ?_
        have hwl2 := Sl.turnMap hst0.own hfa ucell_len (Sl.same (HO2.out.sl ucell_len) hsd)
        refine Own.mapPut (.tmp 46) (.tmp 47) (.tmp 49) 51 rfl 9 30 KS Try.underlying51 tabR bn (m + 1) _ rfl hst1.own (by simp [maxLen] <;> omega) (.string (kstr lo)) (.agg #[.int .i64 nn, .slice A2 lo.length C2]) (kl lo) rfl rfl (key_of hgh3) _ _ (tabR_of _ _ _ _) ?_
        intro wb ho hgr
        have hfb : Frm (fun x => x = bn) wa wb := (Frm.refl _ _).grown hgr (fun g hg => .inl (Option.some.inj hg).symm)
        have hst2 := hst1.put hwl2 HFH.out ⟨HGH.out, hgh2, hgh3⟩ ho hfb
        refine hK _ _ ?_
        clear hK K ho hgr
        have hfw : Frm (fun x => x = bn) w9 wb := hfs.trans hfb (fun i hi h => h)
        have HRG5 := Lib.hid (ranges_frm HRG3.out hfw (fun (h : b = bn) => by omega) (fun (h : R = bn) => by omega))
        have HS5 := Lib.hid (HS3.out.trans hfw (fun i hi (h : i = bn) => by omega))
        have HST5 := Lib.hid (hst2.iff (M' := fun y => ∃ x ∈ L, (left (kl x) && !(kl x).sameKey (kl ws)) = false ∧ (y = loT nn v x ∨ y = hiT nn v x)) (fun y => by
          have e1 := HLO.out
          have e2 := HHI.out
          constructor
          · rintro ((⟨x, h1, h2, h3⟩ | h) | h)
            · exact ⟨x, h1, (left_iff (HST.out.good x h1).1 HG.out).2 (.inl h2), h3⟩
            · exact ⟨ws, HWL.out, (left_iff HG.out HG.out).2 (.inr rfl), .inl (h.trans e1)⟩
            · exact ⟨ws, HWL.out, (left_iff HG.out HG.out).2 (.inr rfl), .inr (h.trans e2)⟩
          · rintro ⟨x, h1, h2, h3⟩
            rcases (left_iff (HST.out.good x h1).1 HG.out).1 h2 with h4 | rfl
            · exact .inl (.inl ⟨x, h1, h4, h3⟩)
            · rcases h3 with h3 | h3
              · exact .inl (.inr (h3.trans e1.symm))
              · exact .inr (h3.trans e2.symm)))
        have hcount : (L.filter (fun x => !(left (kl x) && !(kl x).sameKey (kl ws)) && decide (loT nn v x ≠ hiT nn v x))).length = old := by
          have h1 := count_one HND.out HWL.out (p := fun x => !left (kl x)) (p' := fun x => !(left (kl x) && !(kl x).sameKey (kl ws))) (q := fun x => decide (loT nn v x ≠ hiT nn v x)) (by simp [HLK.out]) (by simp [(left_iff (left := left) HG.out HG.out).2 (.inr rfl)]) (fun x hx hne => by
            have : (kl x).sameKey (kl ws) = false := sameKey_ne (fun h => hne (kl_inj (HST.out.good x hx).1 HG.out h))
            simp [this])
          rw [h1, ← HOLD.out, ← HLO.out, ← HHI.out]
          simp 
        have HCNT := Lib.hid hcount
        clear hcount hfa hfb hfw hfs hst0 hst1 hst2 hwl2 hsd
        go_wp2
        go_frame
        go_roundw
        case rel => exact ⟨fun z => left z && !z.sameKey (kl ws), cnt1, _, m + 1 + 1, by rw [HCNT.out] <;> rfl, HRG5.out, HST5.out, by omega, HS5.out⟩
        case measure =>
          rw [HRG5.out.left_eq, HRG.out.left_eq]
          exact hlt
      · have hne : ((kstr lo).toList == (kstr hi).toList) = false := by
          rw [beq_eq_false_iff_ne]
          exact fun h => heq (kstr_inj HGL.out HGH.out (toList_inj h))
        go_upto_region 10 with fail
        refine wp_phS S [([0, 1, 2, 3, 4, 5], 6), ([], 7)] (by kernel_rfl) (by kernel_rfl) ?_
        simp only [wpPh, pick, List.map_cons, List.map_nil, List.getD_cons_zero, List.getD_cons_succ]
        repeat (any_goals (first | go_big_quiet_step (fail) | quiet_step (fail)))
        refine wpQuiet_nil ?_
        obtain ⟨wd, hwd⟩ : ∃ z, z = w9.drew := ⟨_, rfl⟩
        have hsd : Same w9 wd := by rw [hwd]; exact (Frm.refl _ _).drew
        rw [← hwd]
        clear hwd ca0 ca1 la cb0 cb1 lb
        have hst0 := HSN3.out.same hsd
        refine effStep_plain rfl fun K hK => ?_
        refine Own.mapPut (.tmp 44) (.tmp 45) (.tmp 48) 51 rfl 9 30 KS Try.underlying51 tabR bn m D' rfl hst0.own (by simp [maxLen] <;> omega) (.string (kstr lo)) (.agg #[.int .i64 nn, .slice A1 lo.length C1]) (kl lo) rfl rfl (key_of hgl3) _ _ (tabR_of _ _ _ _) ?_
        intro wa ho hgr
        have hfa : Frm (fun x => x = bn) wd wa := (Frm.refl _ _).grown hgr (fun g hg => .inl (Option.some.inj hg).symm)
        have hst1 := hst0.put (Sl.same (HO1.out.sl ucell_len) hsd) HFL.out ⟨HGL.out, hgl2, hgl3⟩ ho hfa
        have hfs : Frm (fun x => x = bn) w9 wa := ((Frm.refl (fun x => x = bn) w9).trans hsd (fun _ _ h => h.elim)).trans hfa (fun _ _ h => h)
        refine hK _ _ (Lat.mk_ (by rw [← HSS.out]; exact hfs)) ?_
        clear hK K ho hgr
        refine wpQuiet_nil ?_
        refine wpList_plain rfl fun K hK => ?_
        have hwl2 := Sl.turnMap hst0.own hfa ucell_len (Sl.same (HO2.out.sl ucell_len) hsd)
        refine Own.mapPut (.tmp 46) (.tmp 47) (.tmp 49) 51 rfl 9 30 KS Try.underlying51 tabR bn (m + 1) _ rfl hst1.own (by simp [maxLen] <;> omega) (.string (kstr hi)) (.agg #[.int .i64 nn, .slice A2 hi.length C2]) (kl hi) rfl rfl (key_of hgh3) _ _ (tabR_of _ _ _ _) ?_
        intro wb ho hgr
        have hfb : Frm (fun x => x = bn) wa wb := (Frm.refl _ _).grown hgr (fun g hg => .inl (Option.some.inj hg).symm)
        have hst2 := hst1.put hwl2 HFH.out ⟨HGH.out, hgh2, hgh3⟩ ho hfb
        refine hK _ _ ?_
        clear hK K ho hgr
        have hfw : Frm (fun x => x = bn) w9 wb := hfs.trans hfb (fun i hi h => h)
        have HRG5 := Lib.hid (ranges_frm HRG3.out hfw (fun (h : b = bn) => by omega) (fun (h : R = bn) => by omega))
        have HS5 := Lib.hid (HS3.out.trans hfw (fun i hi (h : i = bn) => by omega))
        have HST5 := Lib.hid (hst2.iff (M' := fun y => ∃ x ∈ L, (left (kl x) && !(kl x).sameKey (kl ws)) = false ∧ (y = loT nn v x ∨ y = hiT nn v x)) (fun y => by
          have e1 := HLO.out
          have e2 := HHI.out
          constructor
          · rintro ((⟨x, h1, h2, h3⟩ | h) | h)
            · exact ⟨x, h1, (left_iff (HST.out.good x h1).1 HG.out).2 (.inl h2), h3⟩
            · exact ⟨ws, HWL.out, (left_iff HG.out HG.out).2 (.inr rfl), .inl (h.trans e1)⟩
            · exact ⟨ws, HWL.out, (left_iff HG.out HG.out).2 (.inr rfl), .inr (h.trans e2)⟩
          · rintro ⟨x, h1, h2, h3⟩
            rcases (left_iff (HST.out.good x h1).1 HG.out).1 h2 with h4 | rfl
            · exact .inl (.inl ⟨x, h1, h4, h3⟩)
            · rcases h3 with h3 | h3
              · exact .inl (.inr (h3.trans e1.symm))
              · exact .inr (h3.trans e2.symm)))
        have hcount : (L.filter (fun x => !(left (kl x) && !(kl x).sameKey (kl ws)) && decide (loT nn v x ≠ hiT nn v x))).length = old + 1 := by
          have h1 := count_one HND.out HWL.out (p := fun x => !left (kl x)) (p' := fun x => !(left (kl x) && !(kl x).sameKey (kl ws))) (q := fun x => decide (loT nn v x ≠ hiT nn v x)) (by simp [HLK.out]) (by simp [(left_iff (left := left) HG.out HG.out).2 (.inr rfl)]) (fun x hx hne => by
            have : (kl x).sameKey (kl ws) = false := sameKey_ne (fun h => hne (kl_inj (HST.out.good x hx).1 HG.out h))
            simp [this])
          rw [h1, ← HOLD.out, ← HLO.out, ← HHI.out]
          simp [heq]
        have HCNT := Lib.hid hcount
        clear hcount hfa hfb hfw hfs hst0 hst1 hst2 hwl2 hsd
        go_wp2
        go_frame
        go_roundw
        case rel => exact ⟨fun z => left z && !z.sameKey (kl ws), cnt1, _, m + 1 + 1, by rw [HCNT.out] <;> rfl, HRG5.out, HST5.out, by omega, HS5.out⟩
        case measure =>
          rw [HRG5.out.left_eq, HRG.out.left_eq]
          exact hlt
end Go.Proofs.Ytjgndclfbcijmaa
