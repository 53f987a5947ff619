/- The reference's DocUnrank. -/
import Derived.Test.YtibjpclmiaimaaaPmUnrank
namespace Go.Tk
theorem IL.take {w : World} {A : Option Addr} {n k : Nat} {xs : List Int} (h : IL w A n xs) (hk : k ≤ n) : IL w A k (xs.take k) := by
  obtain rfl := h.len
  refine ⟨by rw [List.length_take]; omega, fun i x hi => h.get i x ?_⟩
  rw [List.getElem?_take] at hi
  split at hi
  · exact hi
  · cases hi
end Go.Tk
namespace Go.Proofs.Ytibjpclmiaimaaa
open Go.RowKit Go.Tk

set_option maxHeartbeats 4000000 in
theorem docUnrank_any (n : Int) (r : Nat) (w : World) (_hr : r < 18446744073709551616) : Calls Try.prog 33 #[.int .i64 n, .int .u64 r] w (RetE w (unR n r) (unE n r)) := by
  by_cases h0 : n < 0
  · have he : unE n r = 1 := by unfold unE; rw [if_pos (.inl h0)]
    have hy : unR n r = [] := by unfold unR; rw [he, if_neg (by decide)]
    rw [he, hy]
    clear he hy
    go_enter Try.func33, Try.ntmps33
    go_wp2
    go_ret2
    exact ⟨none, 0, rfl, NewL.nil w⟩
  by_cases h1 : n > 20
  · have he : unE n r = 1 := by unfold unE; rw [if_pos (.inr h1)]
    have hy : unR n r = [] := by unfold unR; rw [he, if_neg (by decide)]
    rw [he, hy]
    clear he hy
    go_enter Try.func33, Try.ntmps33
    go_wp2
    go_ret2
    exact ⟨none, 0, rfl, NewL.nil w⟩
  obtain ⟨N, rfl⟩ : ∃ m : Nat, n = m := ⟨n.toNat, by omega⟩
  have hN : N ≤ 20 := by omega
  have hfN := fact_le20 hN
  obtain ⟨fn, hfn⟩ : ∃ fn, fact N = fn := ⟨_, rfl⟩
  have hfc := fun w => factorial_any N w hN
  rw [hfn] at hfN hfc
  have HFC := Lib.hid hfc
  have HFN := Lib.hid hfn
  by_cases hge : fn ≤ r
  · have he : unE N r = 1 := by unfold unE; rw [if_neg (by omega), if_pos (show fact ((N : Nat) : Int).toNat ≤ r by rw [show ((N : Nat) : Int).toNat = N from rfl, hfn]; exact hge)]
    have hy : unR N r = [] := by unfold unR; rw [he, if_neg (by decide)]
    rw [he, hy]
    have hge' : (r : Int) ≥ fn := by omega
    clear he hy hfn hfc hge
    go_enter Try.func33, Try.ntmps33
    go_wp2_with (fail)
    refine (HFC.out _).mono ?_
    rintro e w1 ⟨rfl, rfl⟩
    go_wp2
    go_ret2
    exact ⟨none, 0, rfl, NewL.nil w⟩
  have he : unE N r = 0 := by unfold unE; rw [if_neg (by omega), if_neg (by rw [show ((N : Nat) : Int).toNat = N from rfl, hfn]; exact hge)]
  have hy : unR N r = unL N r := by unfold unR; rw [he, if_pos rfl]; rfl
  rw [he, hy]
  have hge' : ¬ (r : Int) ≥ fn := by omega
  have hrf : r % fact N = r := Nat.mod_eq_of_lt (by omega)
  have HRF := Lib.hid hrf
  clear he hy hfn hfc hrf
  go_enter Try.func33, Try.ntmps33
  go_wp2_with (fail)
  refine (HFC.out _).mono ?_
  rintro e w1 ⟨rfl, rfl⟩
  clear HFC
  go_wp2
  go_loopw [6, 8] (fun s i wr => ∃ (k : Nat) (A2 : Option Addr) (C2 : Nat), k ≤ N ∧ i = .int .i64 k ∧ s = .slice A2 k C2 ∧ Same w wr ∧ Fresh w.heap.size A2 ∧ OwnI wr 3 A2 k C2 ((rng N).take k)) (fun _ i _ => N - (intOf i).toNat)
  case atStart => exact ⟨0, none, 0, by omega, rfl, rfl, Frm.refl _ _, fresh_none _, Own.nil _ _ _ _⟩
  case round =>
    obtain ⟨k, A2, C2, hk, rfl, rfl, hs, hf, ho⟩ := hrel
    have HR := Lib.hid ho
    have HF := Lib.hid hf
    have HS := Lib.hid hs
    have hlk : ((rng N).take k).length = k := by rw [List.length_take, rng_len]; omega
    have HLK := Lib.hid hlk
    clear hs ho hf hlk
    by_cases hlt : k < N
    · have hi1 : (k : Int) < N := by omega
      have hnx := take_snoc (rng_get hlt)
      have HNX := Lib.hid hnx
      clear hnx
      go_upto_region 7 with fail
      refine wp_read 2 ?_
      simp only [List.take_succ_cons, List.take_zero, List.drop_succ_cons, List.drop_zero]
      repeat (any_goals (first | go_big_quiet_step (fail) | quiet_step (fail)))
      refine wpQuiet_nil ?_
      refine wpList_plain rfl fun K hK => ?_
      go_simp
      refine hK _ _ ?_
      clear hK K
      refine list_world fun wa hwa => ?_
      have hN := Blk.new wr 3 #[.int .i64 (k : Int)]
      have hsa : Same wr wa := by rw [hwa]; exact (Frm.refl _ _).alloc _
      rw [← hwa] at hN
      clear hwa
      refine Own.append_list (f := icell) rfl (.tmp 30) (.tmp 32) _ rfl Try.underlying22 info_int rfl (by omega) rfl (Own.frm (HR.out) hsa (fun _ _ => id)) (fun _ => rfl) ((k : Int)) wr.heap.size 1 rfl hN (by simp [Value.oneCell', icell]) (by rw [HLK.out]; simp [maxLen]; omega) (by rw [HLK.out]; omega) ?_
      intro gg cap wb hOb hgb hat
      have HOb := Lib.hid hOb
      have HSb := Lib.hid (Same.app (HS.out) hsa hgb (HF.out))
      have HFb := Lib.hid (fresh_app (HS.out) hsa (HF.out) hat)
      clear hOb hgb hat hsa hN
      go_wp2
      go_roundw
      case rel => exact ⟨k + 1, _, cap, by omega, by go_num, rfl, HSb.out, HFb.out, by rw [HNX.out]; exact HOb.out⟩
      case measure => simp [intOf]; omega
    · obtain rfl : k = N := by omega
      have hl := HR.out
      rw [List.take_of_length_le (by rw [rng_len]; exact Nat.le_refl _)] at hl
      have HL := Lib.hid hl
      clear hl HR HLK
      go_wp2
      go_loopw [1, 6, 7, 9] (fun rv t s i wv => ∃ (j : Nat) (A1 : Option Addr) (C1 : Nat) (A2 : Option Addr) (C2 : Nat), j ≤ k ∧ i = .int .i64 j ∧ rv = .int .u64 (r % fact (k - j) : Nat) ∧ t = .slice A1 (k - j) C1 ∧ s = .slice A2 j C2 ∧ Same w wv ∧ Fresh w.heap.size A1 ∧ Fresh w.heap.size A2 ∧ OwnI wv 3 A1 (k - j) C1 (dcd (dgs k r) k j).2 ∧ OwnI wv 3 A2 j C2 (dcd (dgs k r) k j).1 ∧ (∀ b, rowOf A1 b → ¬ rowOf A2 b)) (fun _ _ _ i _ => k - (intOf i).toNat)
      case atStart => exact ⟨0, A2, C2, none, 0, by omega, rfl, by rw [Nat.sub_zero, HRF.out], rfl, rfl, HS.out, HF.out, fresh_none _, HL.out, Own.nil _ _ _ _, fun b _ ⟨a, h, _⟩ => by cases h⟩
      case round =>
        clear HL HS HF HRF
        obtain ⟨j, A1, C1, A2, C2, hj, rfl, rfl, rfl, rfl, hs, hf1, hf2, ht, hp, hdis⟩ := hrel
        have HP := Lib.hid hp
        have HT := Lib.hid ht
        have HS := Lib.hid hs
        have HF1 := Lib.hid hf1
        have HF2 := Lib.hid hf2
        have HDIS := Lib.hid hdis
        by_cases hjk : j < k
        · have hjk1 : (j : Int) < k := by omega
          obtain ⟨hl1, hl2⟩ := dcd_len (f := dgs k r) (n := k) dgs_ok j hj
          have hdl := dgs_ok (r := r) j hjk
          obtain ⟨m, hm⟩ : ∃ m, k - 1 - j = m := ⟨_, rfl⟩
          have hm1 : k - j = m + 1 := by omega
          have hdv := dg_doc r m
          have hdd : dgs k r j = dg r m := by unfold dgs; rw [hm]
          obtain ⟨d, hd⟩ : ∃ d, dgs k r j = d := ⟨_, rfl⟩
          rw [← hdd, hd, ← hm1] at hdv
          rw [hd] at hdl
          have hmm : (r % fact (k - j)) % fact m = r % fact (k - (j + 1)) := by
            rw [hm1, show k - (j + 1) = m by omega]
            exact Nat.mod_mod_of_dvd r ⟨m + 1, by rw [fact, Nat.mul_comm]⟩
          have hfm := fact_le20 (n := m) (by omega)
          have hfp := fact_pos m
          have hfc := fun w => factorial_any m w (by omega)
          obtain ⟨f0, hf0⟩ : ∃ f0, fact m = f0 := ⟨_, rfl⟩
          rw [hf0] at hfm hfp hfc hdv hmm
          obtain ⟨R, hR⟩ : ∃ R, r % fact (k - j) = R := ⟨_, rfl⟩
          have hRr : R ≤ r := by rw [← hR]; exact Nat.mod_le _ _
          rw [hR] at hdv hmm ⊢
          have hq1 : (R : Int) / (f0 : Int) = d := by rw [← hdv]; simp
          have hq2 : (R : Int).tdiv (f0 : Int) = d := by rw [Int.tdiv_eq_ediv_of_nonneg (by omega)]; exact hq1
          have hq3 : IntKind.u64.wrap (d : Int) = d := IntWalk.u64_in _ (by omega)
          have hq4 : IntKind.i64.wrap (d : Int) = d := IntWalk.i64_in _ (by omega)
          have hq5 : (R : Int).tmod (f0 : Int) = ((r % fact (k - (j + 1)) : Nat) : Int) := by rw [Int.tmod_eq_emod_of_nonneg (by omega), ← hmm]; simp
          have hq6 : ¬ (f0 : Int) = 0 := by omega
          have HFC := Lib.hid hfc
          obtain ⟨x, hx⟩ : ∃ x, (dcd (dgs k r) k j).2[d]? = some x := ⟨_, List.getElem?_eq_getElem (by omega)⟩
          obtain ⟨sb, hA0, htl, htc⟩ := ht.at1 (c := fun x => .int .i64 x) hx
          subst hA0
          have hd0 : (0 : Int) ≤ d := by omega
          have hd1 : (d : Int) < ((k - j : Nat) : Int) := by omega
          have HD := Lib.hid hd
          have HX := Lib.hid hx
          have HL1 := Lib.hid hl1
          have HL2 := Lib.hid hl2
          generalize hR2 : r % fact (k - (j + 1)) = R2 at hq5 hmm
          have HR2 := Lib.hid hR2
          have hkm : (k : Int) - 1 - j = (m : Int) := by omega
          clear hs hf1 hf2 ht hp hdis hl1 hl2 hd hx hdv hdd hmm hf0 hR hR2 hm1 hfc
          go_upto_region 11 with fail
          refine wp_world fun wv hwv => ?_
          subst hwv
          have hq7 : IntKind.i64.wrap ((k : Int) - 1) = (k : Int) - 1 := IntWalk.i64_in _ (by omega)
          have hq8 : IntKind.i64.wrap ((k : Int) - 1 - j) = (m : Int) := by rw [hkm]; exact IntWalk.i64_in _ (by omega)
          refine wp_read 4 ?_
          simp only [List.take_succ_cons, List.take_zero, List.drop_succ_cons, List.drop_zero]
          repeat (any_goals (first | go_big_quiet_step (fail) | quiet_step (fail)))
          refine wpQuiet_nil ?_
          refine wpList_plain rfl fun K hK => ?_
          go_simp
          refine (HFC.out _).mono ?_
          rintro e w1 ⟨rfl, rfl⟩
          refine hK _ _ ?_
          clear hK K hq7 hq8 hkm
          go_upto_region 12 with fail
          refine wp_read 5 ?_
          simp only [List.take_succ_cons, List.take_zero, List.drop_succ_cons, List.drop_zero]
          repeat (any_goals (first | go_big_quiet_step (fail) | quiet_step (fail)))
          refine wpQuiet_nil ?_
          go_upto_region 13 with fail
          refine wp_read 4 ?_
          simp only [List.take_succ_cons, List.take_zero, List.drop_succ_cons, List.drop_zero]
          repeat (any_goals (first | go_big_quiet_step (fail) | quiet_step (fail)))
          refine wpQuiet_nil ?_
          clear hq1 hq2 hq3 hq4 hq5 hq6
          go_upto_region 14 with fail
          refine wp_read 5 ?_
          simp only [List.take_succ_cons, List.take_zero, List.drop_succ_cons, List.drop_zero]
          repeat (any_goals (first | go_big_quiet_step (fail) | quiet_step (fail)))
          refine wpQuiet_nil ?_
          refine wpList_plain rfl fun K hK => ?_
          go_simp
          refine hK _ _ ?_
          clear hK K
          refine list_world fun wa hwa => ?_
          have hN := Blk.new wv 3 #[.int .i64 x]
          have hsa : Same wv wa := by rw [hwa]; exact (Frm.refl _ _).alloc _
          rw [← hwa] at hN
          clear hwa
          refine Own.append_list (f := icell) rfl (.tmp 51) (.tmp 56) _ rfl Try.underlying22 info_int rfl (by omega) rfl (Own.frm (HP.out) hsa (fun _ _ => id)) (fun _ => rfl) (x) wv.heap.size 1 rfl hN (by simp [Value.oneCell', icell]) (by rw [HL1.out]; simp [maxLen]; omega) (by rw [HL1.out]; omega) ?_
          intro gg cap wb hOb hgb hat
          have hggA : gg ≠ sb ∧ gg < wb.heap.size := by
            have := hsa.size
            refine ⟨?_, hOb.block _ rfl⟩
            rcases hat with h | h
            · exact fun h3 => HDIS.out sb ⟨_, rfl, rfl⟩ (h3 ▸ ownBlock_row.1 h)
            · omega
          have hfg : Frm (fun b => rowOf A2 b) wa wb := Frm.grown (Frm.refl _ _) hgb (fun g hg => .inl (ownBlock_row.1 hg))
          have HTb := Lib.hid (Own.frm (Own.frm HT.out hsa (fun _ _ => id)) hfg (fun a ha h => HDIS.out _ ⟨a, ha, rfl⟩ h))
          have HGA := Lib.hid hggA
          have HOb := Lib.hid hOb
          have HSb := Lib.hid (Same.app (HS.out) hsa hgb (HF2.out))
          have HFb := Lib.hid (fresh_app (HS.out) hsa (HF2.out) hat)
          clear hfg hggA hOb hgb hat hsa hN
          clear HP HT HS HDIS htc
          have hcapT := Own.cap HTb.out
          have hlt1 : ((dcd (dgs k r) k j).2.take d).length = d := by rw [List.length_take, HL2.out]; omega
          have hlt2 : ((dcd (dgs k r) k j).2.drop (d + 1)).length = k - j - (d + 1) := by rw [List.length_drop, HL2.out]
          have hda : ((dcd (dgs k r) k j).2.take d ++ (dcd (dgs k r) k j).2.drop (d + 1)).length = k - (j + 1) := by rw [List.length_append, hlt1, hlt2]; omega
          have HDA := Lib.hid hda
          clear hda
          have hdI1 : (d : Int) ≤ C1 := by omega
          have hdI2 : (d : Int) + 1 ≤ ((k - j : Nat) : Int) := by omega
          have hdI3 : ((d : Int) + 1).toNat = d + 1 := by omega
          have hdI4 : IntKind.i64.wrap ((d : Int) + 1) = d + 1 := IntWalk.i64_in _ (by omega)
          have hdI5 : (0 : Int) ≤ (d : Int) + 1 := by omega
          go_upto_region 16 with fail
          refine wp_read 4 ?_
          simp only [List.take_succ_cons, List.take_zero, List.drop_succ_cons, List.drop_zero]
          repeat (any_goals (first | go_big_quiet_step (fail) | quiet_step (fail)))
          refine wpQuiet_nil ?_
          refine wpList_plain rfl fun K hK => ?_
          refine Own.append_many (.tmp 58) (.tmp 61) _ rfl Try.underlying22 info_int rfl (by omega) rfl (Own.nil wb _ _ _) (fun _ => rfl) ((dcd (dgs k r) k j).2.take d) (some ⟨sb, 0, none⟩) C1 (by rw [hlt1]; rfl) (fun hne => IL.src (IL.take (Own.il HTb.out) (k := d) (by omega)) hne) (by simp [icell, Value.oneCell']) (by rw [hlt1]; simp [maxLen]; omega) (by rw [hlt1]; simp; omega) ?_
          intro A3 C3 w3 hO3 hg3 hat3
          refine hK _ _ ?_
          clear hK K
          simp only [List.nil_append, hlt1] at hO3 ⊢
          have hs3 := Same.app (Frm.refl _ wb) (Frm.refl _ _) hg3 (fresh_none _)
          have hF3 : ∀ b, rowOf A3 b → wb.heap.size ≤ b := fun b hb => by
            rcases hat3 b hb with ⟨a, h, _⟩ | h
            · cases h
            · omega
          have HT3 := Lib.hid (Own.frm HTb.out hs3 (fun _ _ => id))
          have HP3 := Lib.hid (Own.frm HOb.out hs3 (fun _ _ => id))
          have HS3 := Lib.hid (HSb.out.trans hs3 (fun _ _ h => h))
          have HO3 := Lib.hid hO3
          have HF3 := Lib.hid hF3
          have hz3 := hs3.size
          clear hO3 hg3 hat3 hs3 hF3
          go_upto_region 17 with fail
          refine wp_read 5 ?_
          simp only [List.take_succ_cons, List.take_zero, List.drop_succ_cons, List.drop_zero]
          repeat (any_goals (first | go_big_quiet_step (fail) | quiet_step (fail)))
          refine wpQuiet_nil ?_
          refine wpList_plain rfl fun K hK => ?_
          have hdrop : IL w3 (if C1 = d + 1 then some (⟨sb, 0, none⟩ : Addr) else some ⟨sb, d + 1, none⟩) (k - j - (d + 1)) ((dcd (dgs k r) k j).2.drop (d + 1)) := IL.drop (k := d + 1) (Own.il HT3.out) (by rw [Nat.zero_add]) hcapT
          refine Own.append_many (.tmp 63) (.tmp 67) _ rfl Try.underlying22 info_int rfl (by omega) rfl HO3.out (fun _ => rfl) ((dcd (dgs k r) k j).2.drop (d + 1)) (if C1 = d + 1 then some (⟨sb, 0, none⟩ : Addr) else some ⟨sb, d + 1, none⟩) (C1 - (d + 1)) (by rw [hlt2]; rfl) (fun hne => IL.src hdrop hne) (by simp [icell, Value.oneCell']) (by rw [hlt1, hlt2]; simp [maxLen]; omega) (by rw [hlt1, hlt2]; omega) ?_
          intro A4 C4 w4 hO4 hg4 hat4
          refine hK _ _ ?_
          clear hK K
          rw [HDA.out] at hO4 ⊢
          have hf4 : Frm (fun b => rowOf A3 b) w3 w4 := (Frm.refl _ _).grown hg4 (fun g hg => .inl (ownBlock_row.1 hg))
          have HP4 := Lib.hid (Own.frm HP3.out hf4 (fun a ha h => by injection ha with ha; subst ha; have h1 := HF3.out _ h; have h2 := HGA.out.2; simp only at h1; omega))
          have hzs := HSb.out.size
          have HS4 := Lib.hid (HS3.out.trans hf4 (fun i hi h => by have := HF3.out i h; omega))
          have HF4 := Lib.hid (show Fresh w.heap.size A4 from fun b hb => by
            rcases hat4 b hb with h | h
            · have := HF3.out b h; omega
            · omega)
          have HDJ := Lib.hid (show ∀ b, rowOf A4 b → ¬ rowOf (some ⟨gg, 0, none⟩) b from fun b hb ⟨a, ha, h⟩ => by
            injection ha with ha
            subst ha
            simp only at h
            have h2 := HGA.out.2
            rcases hat4 b hb with h5 | h5
            · have := HF3.out b h5; omega
            · omega)
          have hn1 : (dcd (dgs k r) k (j + 1)).1 = (dcd (dgs k r) k j).1 ++ [x] := by
            simp only [dcd, HD.out]
            rw [List.getD_eq_getElem?_getD, HX.out]
            rfl
          have hn2 : (dcd (dgs k r) k (j + 1)).2 = (dcd (dgs k r) k j).2.take d ++ (dcd (dgs k r) k j).2.drop (d + 1) := by simp only [dcd, HD.out]
          have HN1 := Lib.hid hn1
          have HN2 := Lib.hid hn2
          have HO4 := Lib.hid hO4
          clear hO4 hg4 hat4 hf4 hn1 hn2 hdrop hlt1 hlt2 HTb HOb HT3 HO3
          go_wp2
          all_goals
            go_roundw
            case rel => exact ⟨j + 1, A4, C4, some ⟨gg, 0, none⟩, cap, by omega, by go_num, by rw [HR2.out], rfl, rfl, HS4.out, HF4.out, HFb.out, by rw [HN2.out]; exact HO4.out, by rw [HN1.out]; exact HP4.out, HDJ.out⟩
            case measure => simp [intOf]; omega
        · obtain rfl : j = k := by omega
          clear hs hf1 hf2 ht hp hdis
          go_wp2
          go_ret2
          have hl : (unL j r).length = j := (dcd_len dgs_ok j (Nat.le_refl _)).1
          refine ⟨A2, C2, by rw [hl]; rfl, ?_, HF2.out, HS.out⟩
          rw [hl]
          exact HP.out
end Go.Proofs.Ytibjpclmiaimaaa
