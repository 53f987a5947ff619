/- order of thickettop: some permutation of 0 .. n-1. -/
import Derived.Test.YtbckhmpkgokbeaaTopFns
namespace Go.Proofs.Ytbckhmpkgokbeaa
open Go.RowKit Go.Tk

/-- one taken out, the last put into its place -/
theorem take_out {M : List Int} {z y : Int} {d : Nat} (h : (M ++ [z])[d]? = some y) : (y :: M.set d z).Perm (M ++ [z]) ∧ (M ++ [z]).set d z = M.set d z ++ [z] := by
  have hd := lt_of_get h
  simp only [List.length_append, List.length_singleton] at hd
  by_cases hdm : d < M.length
  · rw [List.getElem?_append_left hdm, List.getElem?_eq_getElem hdm] at h
    injection h with h
    refine ⟨?_, List.set_append_left _ _ hdm⟩
    have e1 : M = M.take d ++ y :: M.drop (d + 1) := by rw [← h, ← List.drop_eq_getElem_cons hdm, List.take_append_drop]
    have e2 : M.set d z = M.take d ++ z :: M.drop (d + 1) := by
      rw [List.set_eq_take_append_cons_drop, if_pos hdm]
    rw [e2]
    have p1 : (y :: (M.take d ++ z :: M.drop (d + 1))).Perm (M.take d ++ y :: z :: M.drop (d + 1)) := List.perm_middle.symm
    have p2 : (M.take d ++ y :: z :: M.drop (d + 1)).Perm (M.take d ++ z :: y :: M.drop (d + 1)) := (List.Perm.swap z y _).append_left _
    have p3 : (M.take d ++ z :: y :: M.drop (d + 1)).Perm (z :: M) := by
      have := (List.perm_middle (a := z) (l₁ := M.take d) (l₂ := y :: M.drop (d + 1)))
      rwa [← e1] at this
    exact (p1.trans p2).trans (p3.trans (List.perm_append_singleton z M).symm)
  · have hdm2 : d = M.length := by omega
    subst hdm2
    simp at h
    subst h
    refine ⟨?_, by rw [List.set_append_right _ _ (Nat.le_refl _), List.set_eq_of_length_le (Nat.le_refl _)]; simp⟩
    rw [List.set_eq_of_length_le (Nat.le_refl _)]
    exact (List.perm_append_singleton z M).symm
def u8cell (x : Fin 256) : List Value := [.int .u8 (x.val : Int)]
abbrev u8Ks : List Leaf := [.int .u8]
theorem u8_of {w : World} (l : List Value) (h : CellsOk w u8Ks l) : ∃ x : Fin 256, l = u8cell x := by
  simp only [CellsOk, CellOk] at h
  obtain ⟨v0, l0, rfl, ⟨n0, rfl, hw⟩, rfl⟩ := h
  have hb : 0 ≤ n0 ∧ n0 ≤ 255 := by
    simp [Lit.wf, IntKind.min, IntKind.max, IntKind.signed, IntKind.bits] at hw
    omega
  obtain ⟨q, rfl⟩ := Int.eq_ofNat_of_zero_le hb.1
  exact ⟨⟨q, by omega⟩, rfl⟩
abbrev U8 (w : World) (A : Option Addr) (n : Nat) (xs : List (Fin 256)) : Prop := Sl w 1 u8cell A n xs
theorem U8.at1 {w : World} {A : Option Addr} {n : Nat} {xs : List (Fin 256)} (h : U8 w A n xs) {i : Nat} {x : Fin 256} (hi : xs[i]? = some x) : ∃ b off, A = some ⟨b, off, none⟩ ∧ b < w.heap.size ∧ w.cell? ⟨b, off + i, none⟩ = some (.int .u8 (x.val : Int)) := by
  obtain ⟨b, off, h1, h2, h3⟩ := h.get i x hi
  refine ⟨b, off, h1, h2, ?_⟩
  have := h3 0 (by omega)
  simpa [u8cell] using this
set_option maxHeartbeats 4000000 in
theorem order_any (N : Nat) (A : Option Addr) (m C : Nat) (bs : List (Fin 256)) (w : World) (h : U8 w A m bs) (hN : N ≤ 12) :
    Calls Try.prog 9 #[.int .i64 N, .slice A m C] w fun e w' => ∃ ys, IsPerm ys ∧ ys.length = N ∧ RetL w ys e w' := by
  obtain rfl := h.len
  have H := Lib.hid h
  clear h
  go_enter Try.func9, Try.ntmps9
  go_wp2
  go_loopw [5, 6] (fun s i wr => ∃ (k : Nat) (A2 : Option Addr) (C2 : Nat), k ≤ N ∧ i = .int .i64 k ∧ s = .slice A2 k C2 ∧ Same w wr ∧ Fresh w.heap.size A2 ∧ OwnI wr 3 A2 k C2 ((rng N).take k)) (fun _ i _ => N - (intOf i).toNat)
  case atStart => exact ⟨0, none, 0, by omega, rfl, rfl, Frm.refl _ _, fresh_none _, Own.nil _ _ _ _⟩
  case round =>
    obtain ⟨k, A2, C2, hk, rfl, rfl, hs, hf, ho⟩ := hrel
    have HR := Lib.hid ho
    have HF := Lib.hid hf
    have HS := Lib.hid hs
    have hlk : ((rng N).take k).length = k := by rw [List.length_take, rng_len]; omega
    have HLK := Lib.hid hlk
    clear hs ho hf hlk
    by_cases hlt : k < N
    · have hi1 : (k : Int) < N := by omega
      have hnx := take_snoc (rng_get hlt)
      have HNX := Lib.hid hnx
      clear hnx
      go_upto_region 5 with fail
      refine wp_read 2 ?_
      simp only [List.take_succ_cons, List.take_zero, List.drop_succ_cons, List.drop_zero]
      repeat (any_goals (first | go_big_quiet_step (fail) | quiet_step (fail)))
      refine wpQuiet_nil ?_
      refine wpList_plain rfl fun K hK => ?_
      go_simp
      refine hK _ _ ?_
      clear hK K
      refine list_world fun wa hwa => ?_
      have hN := Blk.new wr 3 #[.int .i64 (k : Int)]
      have hsa : Same wr wa := by rw [hwa]; exact (Frm.refl _ _).alloc _
      rw [← hwa] at hN
      clear hwa
      refine Own.append_list (f := icell) rfl (.tmp 15) (.tmp 17) _ rfl Try.underlying22 info_int rfl (by omega) rfl ((HR.out).frm hsa (fun _ _ => id)) (fun _ => rfl) ((k : Int)) wr.heap.size 1 rfl hN (by simp [Value.oneCell', icell]) (by rw [HLK.out]; simp [maxLen]; omega) (by rw [HLK.out]; omega) ?_
      intro gg cap wb hOb hgb hat
      have HOb := Lib.hid hOb
      have HSb := Lib.hid (Same.app (HS.out) hsa hgb (HF.out))
      have HFb := Lib.hid (fresh_app (HS.out) hsa (HF.out) hat)
      clear hOb hgb hat hsa hN
      go_wp2
      go_roundw
      case rel => exact ⟨k + 1, _, cap, by omega, by go_num, rfl, HSb.out, HFb.out, by rw [HNX.out]; exact HOb.out⟩
      case measure => simp [intOf]; omega
    · obtain rfl : k = N := by omega
      have hl := HR.out
      rw [List.take_of_length_le (by rw [rng_len]; exact Nat.le_refl _)] at hl
      have HL := Lib.hid hl
      clear hl HR HLK
      go_wp2
      go_loopw [5, 7, 8, 9] (fun t s i jv wv => ∃ (j : Nat) (L P : List Int) (A1 : Option Addr) (C1 : Nat) (A2 : Option Addr) (C2 : Nat), j ≤ k ∧ i = .int .i64 j ∧ t = .slice A1 (k - j) C1 ∧ s = .slice A2 j C2 ∧ (P ++ L).Perm (rng k) ∧ P.length = j ∧ Same w wv ∧ Fresh w.heap.size A1 ∧ Fresh w.heap.size A2 ∧ OwnI wv 3 A1 (k - j) C1 L ∧ OwnI wv 3 A2 j C2 P ∧ (∀ b, rowOf A1 b → ¬ rowOf A2 b)) (fun _ _ i _ _ => k - (intOf i).toNat)
      case atStart => exact ⟨0, rng k, [], A2, C2, none, 0, by omega, rfl, rfl, rfl, by simp, rfl, HS.out, HF.out, fresh_none _, HL.out, Own.nil _ _ _ _, fun b _ ⟨a, h, _⟩ => by cases h⟩
      case round =>
        clear HL HS HF
        obtain ⟨j, L, P, A1, C1, A2, C2, hj, rfl, rfl, rfl, hpm, hpl, hs, hf1, hf2, ht, hp, hdis⟩ := hrel
        have HP := Lib.hid hp
        have HT := Lib.hid ht
        have HS := Lib.hid hs
        have HF1 := Lib.hid hf1
        have HF2 := Lib.hid hf2
        have HDIS := Lib.hid hdis
        have HPM := Lib.hid hpm
        have HPL := Lib.hid hpl
        by_cases hjk : j < k
        · have hjk1 : (j : Int) < k := by omega
          have hj0 : (0 : Int) ≤ j := by omega
          obtain ⟨m, hm⟩ : ∃ m, k - j = m + 1 := ⟨k - j - 1, by omega⟩
          rw [hm] at ht HT ⊢
          have hLl := ht.len
          obtain ⟨M, z, rfl⟩ : ∃ M z, L = M ++ [z] := by
            rcases List.eq_nil_or_concat L with h0 | ⟨M, z, h0⟩
            · subst h0; simp at hLl
            · exact ⟨M, z, by simpa using h0⟩
          have hMl : M.length = m := by simp at hLl; omega
          have hm12 : m < 12 := by omega
          have hmc : m + 1 ≤ C1 := Own.cap ht
          have HML := Lib.hid hMl
          have HM := Lib.hid hm
          have hz : (M ++ [z])[m]? = some z := by rw [← hMl]; simp
          obtain ⟨sb, hA1, htl, htz⟩ := ht.at1 (c := fun x => .int .i64 x) hz
          subst hA1
          clear hpm hpl hs hf1 hf2 hp hdis hLl hMl hm hz
          by_cases hbl : j < bs.length
          · obtain ⟨x, hx⟩ : ∃ x, bs[j]? = some x := ⟨_, List.getElem?_eq_getElem hbl⟩
            obtain ⟨b, off, rfl, hb, hc⟩ := U8.at1 (Sl.same H.out HS.out) hx
            obtain ⟨xv, hxv⟩ := x
            simp only at hc
            obtain ⟨d, hd⟩ : ∃ d, xv % (m + 1) = d := ⟨_, rfl⟩
            have hdl : d < m + 1 := by rw [← hd]; exact Nat.mod_lt _ (by omega)
            have hbl1 : (j : Int) < bs.length := by omega
            have hq1 : IntKind.i64.wrap (xv : Int) = xv := IntWalk.i64_in _ (by omega)
            have hq2 : (xv : Int).tmod ((m + 1 : Nat) : Int) = (d : Int) := by rw [← hd]; exact (Int.natCast_emod xv (m + 1)).symm ▸ (Int.tmod_eq_emod_of_nonneg (by omega))
            have hq3 : ¬ ((m + 1 : Nat) : Int) = 0 := by omega
            have hq4 : (xv : Int).tmod ((m : Int) + 1) = (d : Int) := by simpa using hq2
            have hq5 : ¬ ((m : Int) + 1) = 0 := by omega
            have hq7 : (xv : Int) % ((m : Int) + 1) = (d : Int) := by rw [← hd]; exact (Int.natCast_emod xv (m + 1)).symm
            have hq6 : IntKind.i64.wrap (d : Int) = d := IntWalk.i64_in _ (by omega)
            clear hd hx
            go_upto_region 12 with fail
            refine wp_read 7 ?_
            simp only [List.take_succ_cons, List.take_zero, List.drop_succ_cons, List.drop_zero]
            repeat (any_goals (first | go_big_quiet_step (fail) | quiet_step (fail)))
            refine wpQuiet_nil ?_
            clear hq1 hq2 hq3 hq4 hq5 hq6 hc hb
            go_upto_region 13 with fail
            simp only [hq7]
            clear hq7
            obtain ⟨y, hy⟩ : ∃ y, (M ++ [z])[d]? = some y := ⟨_, List.getElem?_eq_getElem (by simp; have := HML.out; omega)⟩
            obtain ⟨sb2, hA2, _, hty⟩ := HT.out.at1 (c := fun x => .int .i64 x) hy
            injection hA2 with hA2
            injection hA2 with hA2
            subst hA2
            obtain ⟨hto, hts⟩ := take_out hy
            have HTO := Lib.hid hto
            have HTS := Lib.hid hts
            have hd0 : (0 : Int) ≤ d := by omega
            have hd1 : (d : Int) < ((m + 1 : Nat) : Int) := by omega
            have hd2 : (d : Int) < (m : Int) + 1 := by omega
            have hdy : d < (M ++ [z]).length := lt_of_get hy
            have HDY := Lib.hid hdy
            clear hto hts hy hdy
            go_upto_region 13 with fail
            refine wp_read 5 ?_
            simp only [List.take_succ_cons, List.take_zero, List.drop_succ_cons, List.drop_zero]
            repeat (any_goals (first | go_big_quiet_step (fail) | quiet_step (fail)))
            refine wpQuiet_nil ?_
            refine wpList_plain rfl fun K hK => ?_
            go_simp
            refine hK _ _ ?_
            clear hK K
            refine list_world fun wa hwa => ?_
            have hN := Blk.new wr 3 #[.int .i64 y]
            have hsa : Same wr wa := by rw [hwa]; exact (Frm.refl _ _).alloc _
            rw [← hwa] at hN
            clear hwa
            refine Own.append_list (f := icell) rfl (.tmp 36) (.tmp 41) _ rfl Try.underlying22 info_int rfl (by omega) rfl ((HP.out).frm hsa (fun _ _ => id)) (fun _ => rfl) (y) wr.heap.size 1 rfl hN (by simp [Value.oneCell', icell]) (by rw [HPL.out]; simp [maxLen]; omega) (by rw [HPL.out]; omega) ?_
            intro gg cap wb hOb hgb hat
            have HOb := Lib.hid hOb
            have HSb := Lib.hid (Same.app (HS.out) hsa hgb (HF2.out))
            have HFb := Lib.hid (fresh_app (HS.out) hsa (HF2.out) hat)
            have hgs : gg ≠ sb := by
              intro h
              subst h
              rcases hat with h | h
              · exact HDIS.out gg ⟨_, rfl, rfl⟩ (ownBlock_row.1 h)
              · have := hsa.size
                omega
            have hTb := Own.frm (Own.frm HT.out hsa (fun _ _ => id)) (Frm.grown (S := fun b => rowOf A2 b) (Frm.refl _ _) hgb (fun g hg => .inl (ownBlock_row.1 hg))) (fun a ha h => by injection ha with ha; subst ha; exact HDIS.out _ ⟨_, rfl, rfl⟩ h)
            have htlb : sb < wb.heap.size := (hTb.block _ rfl)
            have hyb : wb.cell? ⟨sb, d, none⟩ = some (.int .i64 y) := by
              obtain ⟨y2, hy2⟩ : ∃ y2, (M ++ [z])[d]? = some y2 := ⟨_, List.getElem?_eq_getElem HDY.out⟩
              obtain ⟨sb3, hA3, _, hc3⟩ := hTb.at1 (c := fun x => .int .i64 x) hy2
              injection hA3 with hA3
              injection hA3 with hA3
              subst hA3
              obtain ⟨sb4, hA4, _, hc4⟩ := HT.out.at1 (c := fun x => .int .i64 x) hy2
              injection hA4 with hA4
              injection hA4 with hA4
              subst hA4
              rw [hty] at hc4
              rw [hc3, ← hc4]
            have hzb : wb.cell? ⟨sb, m, none⟩ = some (.int .i64 z) := by
              have hz : (M ++ [z])[m]? = some z := by rw [← HML.out]; simp
              obtain ⟨sb3, hA3, _, hc3⟩ := hTb.at1 (c := fun x => .int .i64 x) hz
              injection hA3 with hA3
              injection hA3 with hA3
              subst hA3
              exact hc3
            have hfr := Own.free hTb d
            have hst := Own.put1 (c := fun x => .int .i64 x) hTb (i := d) HDY.out z
            rw [HTS.out] at hst
            have hpop := Own.pop1 hst
            rw [List.length_set, HML.out] at hpop
            have HPOP := Lib.hid hpop
            have HGS := Lib.hid hgs
            clear hOb hgb hat hsa hN hgs hTb hst hpop htz hty htl
            have HOb2 := Lib.hid (Own.far (p := ⟨sb, d, none⟩) HOb.out (fun a ha h => by injection ha with ha; subst ha; exact HGS.out h) (.int .i64 z))
            have hsz : w.heap.size ≤ sb := HF1.out sb ⟨_, rfl, rfl⟩
            have HSb2 := Lib.hid (HSb.out.setNew d (.int .i64 z) hsz)
            have hq1 : IntKind.i64.wrap ((m : Int) + 1 - 1) = (m : Int) := by rw [IntWalk.i64_in _ (by omega)]; omega
            have hq2 : IntKind.i64.wrap (((m + 1 : Nat) : Int) - 1) = (m : Int) := by rw [IntWalk.i64_in _ (by omega)]; omega
            have hq3 : (0 : Int) ≤ m := by omega
            have hq4 : (m : Int) < ((m + 1 : Nat) : Int) := by omega
            have hq5 : (m : Int) < (m : Int) + 1 := by omega
            clear hsz
            go_wp2
            go_roundw
            case rel => exact ⟨j + 1, M.set d z, P ++ [y], some ⟨sb, 0, none⟩, C1, some ⟨gg, 0, none⟩, cap, by omega, by go_num, by have := HM.out; rw [show k - (j + 1) = m by omega], rfl, by
              have h1 := HTO.out.append_left P
              rw [List.append_assoc]
              exact h1.trans HPM.out, by rw [List.length_append, HPL.out]; rfl, HSb2.out, HF1.out, HFb.out, by have := HM.out; rw [show k - (j + 1) = m by omega]; exact HPOP.out, HOb2.out, fun b ⟨a, ha, h⟩ ⟨a', ha', h'⟩ => by
              injection ha with ha
              injection ha' with ha'
              subst ha ha'
              exact HGS.out (h'.trans h.symm)⟩
            case measure => simp [intOf]; omega
          · have hbl1 : ¬ (j : Int) < bs.length := by omega
            obtain ⟨d, hd⟩ : ∃ d : Nat, d = 0 := ⟨0, rfl⟩
            have hdl : d < m + 1 := by omega
            have hd0 : (0 : Int) = (d : Int) := by omega
            go_upto_region 13 with fail
            rw [hd0]
            clear hd0 hd
            obtain ⟨y, hy⟩ : ∃ y, (M ++ [z])[d]? = some y := ⟨_, List.getElem?_eq_getElem (by simp; have := HML.out; omega)⟩
            obtain ⟨sb2, hA2, _, hty⟩ := HT.out.at1 (c := fun x => .int .i64 x) hy
            injection hA2 with hA2
            injection hA2 with hA2
            subst hA2
            obtain ⟨hto, hts⟩ := take_out hy
            have HTO := Lib.hid hto
            have HTS := Lib.hid hts
            have hd0 : (0 : Int) ≤ d := by omega
            have hd1 : (d : Int) < ((m + 1 : Nat) : Int) := by omega
            have hd2 : (d : Int) < (m : Int) + 1 := by omega
            have hdy : d < (M ++ [z]).length := lt_of_get hy
            have HDY := Lib.hid hdy
            clear hto hts hy hdy
            go_upto_region 13 with fail
            refine wp_read 5 ?_
            simp only [List.take_succ_cons, List.take_zero, List.drop_succ_cons, List.drop_zero]
            repeat (any_goals (first | go_big_quiet_step (fail) | quiet_step (fail)))
            refine wpQuiet_nil ?_
            refine wpList_plain rfl fun K hK => ?_
            go_simp
            refine hK _ _ ?_
            clear hK K
            refine list_world fun wa hwa => ?_
            have hN := Blk.new wr 3 #[.int .i64 y]
            have hsa : Same wr wa := by rw [hwa]; exact (Frm.refl _ _).alloc _
            rw [← hwa] at hN
            clear hwa
            refine Own.append_list (f := icell) rfl (.tmp 36) (.tmp 41) _ rfl Try.underlying22 info_int rfl (by omega) rfl ((HP.out).frm hsa (fun _ _ => id)) (fun _ => rfl) (y) wr.heap.size 1 rfl hN (by simp [Value.oneCell', icell]) (by rw [HPL.out]; simp [maxLen]; omega) (by rw [HPL.out]; omega) ?_
            intro gg cap wb hOb hgb hat
            have HOb := Lib.hid hOb
            have HSb := Lib.hid (Same.app (HS.out) hsa hgb (HF2.out))
            have HFb := Lib.hid (fresh_app (HS.out) hsa (HF2.out) hat)
            have hgs : gg ≠ sb := by
              intro h
              subst h
              rcases hat with h | h
              · exact HDIS.out gg ⟨_, rfl, rfl⟩ (ownBlock_row.1 h)
              · have := hsa.size
                omega
            have hTb := Own.frm (Own.frm HT.out hsa (fun _ _ => id)) (Frm.grown (S := fun b => rowOf A2 b) (Frm.refl _ _) hgb (fun g hg => .inl (ownBlock_row.1 hg))) (fun a ha h => by injection ha with ha; subst ha; exact HDIS.out _ ⟨_, rfl, rfl⟩ h)
            have htlb : sb < wb.heap.size := (hTb.block _ rfl)
            have hyb : wb.cell? ⟨sb, d, none⟩ = some (.int .i64 y) := by
              obtain ⟨y2, hy2⟩ : ∃ y2, (M ++ [z])[d]? = some y2 := ⟨_, List.getElem?_eq_getElem HDY.out⟩
              obtain ⟨sb3, hA3, _, hc3⟩ := hTb.at1 (c := fun x => .int .i64 x) hy2
              injection hA3 with hA3
              injection hA3 with hA3
              subst hA3
              obtain ⟨sb4, hA4, _, hc4⟩ := HT.out.at1 (c := fun x => .int .i64 x) hy2
              injection hA4 with hA4
              injection hA4 with hA4
              subst hA4
              rw [hty] at hc4
              rw [hc3, ← hc4]
            have hzb : wb.cell? ⟨sb, m, none⟩ = some (.int .i64 z) := by
              have hz : (M ++ [z])[m]? = some z := by rw [← HML.out]; simp
              obtain ⟨sb3, hA3, _, hc3⟩ := hTb.at1 (c := fun x => .int .i64 x) hz
              injection hA3 with hA3
              injection hA3 with hA3
              subst hA3
              exact hc3
            have hfr := Own.free hTb d
            have hst := Own.put1 (c := fun x => .int .i64 x) hTb (i := d) HDY.out z
            rw [HTS.out] at hst
            have hpop := Own.pop1 hst
            rw [List.length_set, HML.out] at hpop
            have HPOP := Lib.hid hpop
            have HGS := Lib.hid hgs
            clear hOb hgb hat hsa hN hgs hTb hst hpop htz hty htl
            have HOb2 := Lib.hid (Own.far (p := ⟨sb, d, none⟩) HOb.out (fun a ha h => by injection ha with ha; subst ha; exact HGS.out h) (.int .i64 z))
            have hsz : w.heap.size ≤ sb := HF1.out sb ⟨_, rfl, rfl⟩
            have HSb2 := Lib.hid (HSb.out.setNew d (.int .i64 z) hsz)
            have hq1 : IntKind.i64.wrap ((m : Int) + 1 - 1) = (m : Int) := by rw [IntWalk.i64_in _ (by omega)]; omega
            have hq2 : IntKind.i64.wrap (((m + 1 : Nat) : Int) - 1) = (m : Int) := by rw [IntWalk.i64_in _ (by omega)]; omega
            have hq3 : (0 : Int) ≤ m := by omega
            have hq4 : (m : Int) < ((m + 1 : Nat) : Int) := by omega
            have hq5 : (m : Int) < (m : Int) + 1 := by omega
            clear hsz
            go_wp2
            go_roundw
            case rel => exact ⟨j + 1, M.set d z, P ++ [y], some ⟨sb, 0, none⟩, C1, some ⟨gg, 0, none⟩, cap, by omega, by go_num, by have := HM.out; rw [show k - (j + 1) = m by omega], rfl, by
              have h1 := HTO.out.append_left P
              rw [List.append_assoc]
              exact h1.trans HPM.out, by rw [List.length_append, HPL.out]; rfl, HSb2.out, HF1.out, HFb.out, by have := HM.out; rw [show k - (j + 1) = m by omega]; exact HPOP.out, HOb2.out, fun b ⟨a, ha, h⟩ ⟨a', ha', h'⟩ => by
              injection ha with ha
              injection ha' with ha'
              subst ha ha'
              exact HGS.out (h'.trans h.symm)⟩
            case measure => simp [intOf]; omega
        · obtain rfl : j = k := by omega
          have hLn : L = [] := by
            have h1 := ht.len
            rw [Nat.sub_self] at h1
            exact List.eq_nil_of_length_eq_zero h1.symm
          subst hLn
          have hperm : IsPerm P := .of_perm (by simpa using hpm)
          have HPP := Lib.hid hperm
          clear hpm hs hf1 hf2 ht hp hdis hperm
          go_wp2
          go_ret
          refine ⟨P, HPP.out, HPL.out, A2, C2, by rw [HPL.out]; rfl, ?_, HF2.out, HS.out⟩
          rw [HPL.out]
          exact HP.out
end Go.Proofs.Ytbckhmpkgokbeaa
