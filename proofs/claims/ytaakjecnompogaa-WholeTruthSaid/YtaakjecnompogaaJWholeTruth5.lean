/- Contracts and plain laws, put together in one file. No condition. -/
import Derived.Test.YtaakjecnompogaaJWholeTruth4
import Derived.Test.YtaakjecnompogaaRows


/- order of thickettop: some permutation of 0 .. n-1. -/
namespace Go.Proofs.Ytaakjecnompogaa
open Go.RowKit Go.Tk

/-- one taken out, the last put into its place -/
theorem take_out {M : List Int} {z y : Int} {d : Nat} (h : (M ++ [z])[d]? = some y) : (y :: M.set d z).Perm (M ++ [z]) ∧ (M ++ [z]).set d z = M.set d z ++ [z] := by
  have hd := lt_of_get h
  simp only [List.length_append, List.length_singleton] at hd
  by_cases hdm : d < M.length
  · rw [List.getElem?_append_left hdm, List.getElem?_eq_getElem hdm] at h
    injection h with h
    refine ⟨?_, List.set_append_left _ _ hdm⟩
    have e1 : M = M.take d ++ y :: M.drop (d + 1) := by rw [← h, ← List.drop_eq_getElem_cons hdm, List.take_append_drop]
    have e2 : M.set d z = M.take d ++ z :: M.drop (d + 1) := by
      rw [List.set_eq_take_append_cons_drop, if_pos hdm]
    rw [e2]
    have p1 : (y :: (M.take d ++ z :: M.drop (d + 1))).Perm (M.take d ++ y :: z :: M.drop (d + 1)) := List.perm_middle.symm
    have p2 : (M.take d ++ y :: z :: M.drop (d + 1)).Perm (M.take d ++ z :: y :: M.drop (d + 1)) := (List.Perm.swap z y _).append_left _
    have p3 : (M.take d ++ z :: y :: M.drop (d + 1)).Perm (z :: M) := by
      have := (List.perm_middle (a := z) (l₁ := M.take d) (l₂ := y :: M.drop (d + 1)))
      rwa [← e1] at this
    exact (p1.trans p2).trans (p3.trans (List.perm_append_singleton z M).symm)
  · have hdm2 : d = M.length := by omega
    subst hdm2
    simp at h
    subst h
    refine ⟨?_, by rw [List.set_append_right _ _ (Nat.le_refl _), List.set_eq_of_length_le (Nat.le_refl _)]; simp⟩
    rw [List.set_eq_of_length_le (Nat.le_refl _)]
    exact (List.perm_append_singleton z M).symm
def u8cell (x : Fin 256) : List Value := [.int .u8 (x.val : Int)]
abbrev u8Ks : List Leaf := [.int .u8]
theorem u8_of {w : World} (l : List Value) (h : CellsOk w u8Ks l) : ∃ x : Fin 256, l = u8cell x := by
  simp only [CellsOk, CellOk] at h
  obtain ⟨v0, l0, rfl, ⟨n0, rfl, hw⟩, rfl⟩ := h
  have hb : 0 ≤ n0 ∧ n0 ≤ 255 := by
    simp [Lit.wf, IntKind.min, IntKind.max, IntKind.signed, IntKind.bits] at hw
    omega
  obtain ⟨q, rfl⟩ := Int.eq_ofNat_of_zero_le hb.1
  exact ⟨⟨q, by omega⟩, rfl⟩
abbrev U8 (w : World) (A : Option Addr) (n : Nat) (xs : List (Fin 256)) : Prop := Sl w 1 u8cell A n xs
theorem U8.at1 {w : World} {A : Option Addr} {n : Nat} {xs : List (Fin 256)} (h : U8 w A n xs) {i : Nat} {x : Fin 256} (hi : xs[i]? = some x) : ∃ b off, A = some ⟨b, off, none⟩ ∧ b < w.heap.size ∧ w.cell? ⟨b, off + i, none⟩ = some (.int .u8 (x.val : Int)) := by
  obtain ⟨b, off, h1, h2, h3⟩ := h.get i x hi
  refine ⟨b, off, h1, h2, ?_⟩
  have := h3 0 (by omega)
  simpa [u8cell] using this
set_option maxHeartbeats 4000000 in
theorem order_any (N : Nat) (A : Option Addr) (m C : Nat) (bs : List (Fin 256)) (w : World) (h : U8 w A m bs) (hN : N ≤ 12) :
    Calls Try.prog 12 #[.int .i64 N, .slice A m C] w fun e w' => ∃ ys, IsPerm ys ∧ ys.length = N ∧ RetL w ys e w' := by
  obtain rfl := h.len
  have H := Lib.hid h
  clear h
  go_enter Try.func12, Try.ntmps12
  go_wp2
  go_loopw [5, 6] (fun s i wr => ∃ (k : Nat) (A2 : Option Addr) (C2 : Nat), k ≤ N ∧ i = .int .i64 k ∧ s = .slice A2 k C2 ∧ Same w wr ∧ Fresh w.heap.size A2 ∧ OwnI wr 3 A2 k C2 ((rng N).take k)) (fun _ i _ => N - (intOf i).toNat)
  case atStart => exact ⟨0, none, 0, by omega, rfl, rfl, Frm.refl _ _, fresh_none _, Own.nil _ _ _ _⟩
  case round =>
    obtain ⟨k, A2, C2, hk, rfl, rfl, hs, hf, ho⟩ := hrel
    have HR := Lib.hid ho
    have HF := Lib.hid hf
    have HS := Lib.hid hs
    have hlk : ((rng N).take k).length = k := by rw [List.length_take, rng_len]; omega
    have HLK := Lib.hid hlk
    clear hs ho hf hlk
    by_cases hlt : k < N
    · have hi1 : (k : Int) < N := by omega
      have hnx := take_snoc (rng_get hlt)
      have HNX := Lib.hid hnx
      clear hnx
      go_upto_region 5 with fail
      refine wp_read 2 ?_
      simp only [List.take_succ_cons, List.take_zero, List.drop_succ_cons, List.drop_zero]
      repeat (any_goals (first | go_big_quiet_step (fail) | quiet_step (fail)))
      refine wpQuiet_nil ?_
      refine wpList_plain rfl fun K hK => ?_
      go_simp
      refine hK _ _ ?_
      clear hK K
      refine list_world fun wa hwa => ?_
      have hN := Blk.new wr 3 #[.int .i64 (k : Int)]
      have hsa : Same wr wa := by rw [hwa]; exact (Frm.refl _ _).alloc _
      rw [← hwa] at hN
      clear hwa
      refine Own.append_list (f := icell) rfl (.tmp 15) (.tmp 17) _ rfl Try.underlying38 info_int rfl (by omega) rfl ((HR.out).frm hsa (fun _ _ => id)) (fun _ => rfl) ((k : Int)) wr.heap.size 1 rfl hN (by simp [Value.oneCell', icell]) (by rw [HLK.out]; simp [maxLen]; omega) (by rw [HLK.out]; omega) ?_
      intro gg cap wb hOb hgb hat
      have HOb := Lib.hid hOb
      have HSb := Lib.hid (Same.app (HS.out) hsa hgb (HF.out))
      have HFb := Lib.hid (fresh_app (HS.out) hsa (HF.out) hat)
      clear hOb hgb hat hsa hN
      go_wp2
      go_roundw
      case rel => exact ⟨k + 1, _, cap, by omega, by go_num, rfl, HSb.out, HFb.out, by rw [HNX.out]; exact HOb.out⟩
      case measure => simp [intOf]; omega
    · obtain rfl : k = N := by omega
      have hl := HR.out
      rw [List.take_of_length_le (by rw [rng_len]; exact Nat.le_refl _)] at hl
      have HL := Lib.hid hl
      clear hl HR HLK
      go_wp2
      go_loopw [5, 7, 8, 9] (fun t s i jv wv => ∃ (j : Nat) (L P : List Int) (A1 : Option Addr) (C1 : Nat) (A2 : Option Addr) (C2 : Nat), j ≤ k ∧ i = .int .i64 j ∧ t = .slice A1 (k - j) C1 ∧ s = .slice A2 j C2 ∧ (P ++ L).Perm (rng k) ∧ P.length = j ∧ Same w wv ∧ Fresh w.heap.size A1 ∧ Fresh w.heap.size A2 ∧ OwnI wv 3 A1 (k - j) C1 L ∧ OwnI wv 3 A2 j C2 P ∧ (∀ b, rowOf A1 b → ¬ rowOf A2 b)) (fun _ _ i _ _ => k - (intOf i).toNat)
      case atStart => exact ⟨0, rng k, [], A2, C2, none, 0, by omega, rfl, rfl, rfl, by simp, rfl, HS.out, HF.out, fresh_none _, HL.out, Own.nil _ _ _ _, fun b _ ⟨a, h, _⟩ => by cases h⟩
      case round =>
        clear HL HS HF
        obtain ⟨j, L, P, A1, C1, A2, C2, hj, rfl, rfl, rfl, hpm, hpl, hs, hf1, hf2, ht, hp, hdis⟩ := hrel
        have HP := Lib.hid hp
        have HT := Lib.hid ht
        have HS := Lib.hid hs
        have HF1 := Lib.hid hf1
        have HF2 := Lib.hid hf2
        have HDIS := Lib.hid hdis
        have HPM := Lib.hid hpm
        have HPL := Lib.hid hpl
        by_cases hjk : j < k
        · have hjk1 : (j : Int) < k := by omega
          have hj0 : (0 : Int) ≤ j := by omega
          obtain ⟨m, hm⟩ : ∃ m, k - j = m + 1 := ⟨k - j - 1, by omega⟩
          rw [hm] at ht HT ⊢
          have hLl := ht.len
          obtain ⟨M, z, rfl⟩ : ∃ M z, L = M ++ [z] := by
            rcases List.eq_nil_or_concat L with h0 | ⟨M, z, h0⟩
            · subst h0; simp at hLl
            · exact ⟨M, z, by simpa using h0⟩
          have hMl : M.length = m := by simp at hLl; omega
          have hm12 : m < 12 := by omega
          have hmc : m + 1 ≤ C1 := Own.cap ht
          have HML := Lib.hid hMl
          have HM := Lib.hid hm
          have hz : (M ++ [z])[m]? = some z := by rw [← hMl]; simp
          obtain ⟨sb, hA1, htl, htz⟩ := ht.at1 (c := fun x => .int .i64 x) hz
          subst hA1
          clear hpm hpl hs hf1 hf2 hp hdis hLl hMl hm hz
          by_cases hbl : j < bs.length
          · obtain ⟨x, hx⟩ : ∃ x, bs[j]? = some x := ⟨_, List.getElem?_eq_getElem hbl⟩
            obtain ⟨b, off, rfl, hb, hc⟩ := U8.at1 (Sl.same H.out HS.out) hx
            obtain ⟨xv, hxv⟩ := x
            simp only at hc
            obtain ⟨d, hd⟩ : ∃ d, xv % (m + 1) = d := ⟨_, rfl⟩
            have hdl : d < m + 1 := by rw [← hd]; exact Nat.mod_lt _ (by omega)
            have hbl1 : (j : Int) < bs.length := by omega
            have hq1 : IntKind.i64.wrap (xv : Int) = xv := IntWalk.i64_in _ (by omega)
            have hq2 : (xv : Int).tmod ((m + 1 : Nat) : Int) = (d : Int) := by rw [← hd]; exact (Int.natCast_emod xv (m + 1)).symm ▸ (Int.tmod_eq_emod_of_nonneg (by omega))
            have hq3 : ¬ ((m + 1 : Nat) : Int) = 0 := by omega
            have hq4 : (xv : Int).tmod ((m : Int) + 1) = (d : Int) := by simpa using hq2
            have hq5 : ¬ ((m : Int) + 1) = 0 := by omega
            have hq7 : (xv : Int) % ((m : Int) + 1) = (d : Int) := by rw [← hd]; exact (Int.natCast_emod xv (m + 1)).symm
            have hq6 : IntKind.i64.wrap (d : Int) = d := IntWalk.i64_in _ (by omega)
            clear hd hx
            go_upto_region 12 with fail
            refine wp_read 7 ?_
            simp only [List.take_succ_cons, List.take_zero, List.drop_succ_cons, List.drop_zero]
            repeat (any_goals (first | go_big_quiet_step (fail) | quiet_step (fail)))
            refine wpQuiet_nil ?_
            clear hq1 hq2 hq3 hq4 hq5 hq6 hc hb
            go_upto_region 13 with fail
            simp only [hq7]
            clear hq7
            obtain ⟨y, hy⟩ : ∃ y, (M ++ [z])[d]? = some y := ⟨_, List.getElem?_eq_getElem (by simp; have := HML.out; omega)⟩
            obtain ⟨sb2, hA2, _, hty⟩ := HT.out.at1 (c := fun x => .int .i64 x) hy
            injection hA2 with hA2
            injection hA2 with hA2
            subst hA2
            obtain ⟨hto, hts⟩ := take_out hy
            have HTO := Lib.hid hto
            have HTS := Lib.hid hts
            have hd0 : (0 : Int) ≤ d := by omega
            have hd1 : (d : Int) < ((m + 1 : Nat) : Int) := by omega
            have hd2 : (d : Int) < (m : Int) + 1 := by omega
            have hdy : d < (M ++ [z]).length := lt_of_get hy
            have HDY := Lib.hid hdy
            clear hto hts hy hdy
            go_upto_region 13 with fail
            refine wp_read 5 ?_
            simp only [List.take_succ_cons, List.take_zero, List.drop_succ_cons, List.drop_zero]
            repeat (any_goals (first | go_big_quiet_step (fail) | quiet_step (fail)))
            refine wpQuiet_nil ?_
            refine wpList_plain rfl fun K hK => ?_
            go_simp
            refine hK _ _ ?_
            clear hK K
            refine list_world fun wa hwa => ?_
            have hN := Blk.new wr 3 #[.int .i64 y]
            have hsa : Same wr wa := by rw [hwa]; exact (Frm.refl _ _).alloc _
            rw [← hwa] at hN
            clear hwa
            refine Own.append_list (f := icell) rfl (.tmp 36) (.tmp 41) _ rfl Try.underlying38 info_int rfl (by omega) rfl ((HP.out).frm hsa (fun _ _ => id)) (fun _ => rfl) (y) wr.heap.size 1 rfl hN (by simp [Value.oneCell', icell]) (by rw [HPL.out]; simp [maxLen]; omega) (by rw [HPL.out]; omega) ?_
            intro gg cap wb hOb hgb hat
            have HOb := Lib.hid hOb
            have HSb := Lib.hid (Same.app (HS.out) hsa hgb (HF2.out))
            have HFb := Lib.hid (fresh_app (HS.out) hsa (HF2.out) hat)
            have hgs : gg ≠ sb := by
              intro h
              subst h
              rcases hat with h | h
              · exact HDIS.out gg ⟨_, rfl, rfl⟩ (ownBlock_row.1 h)
              · have := hsa.size
                omega
            have hTb := Own.frm (Own.frm HT.out hsa (fun _ _ => id)) (Frm.grown (S := fun b => rowOf A2 b) (Frm.refl _ _) hgb (fun g hg => .inl (ownBlock_row.1 hg))) (fun a ha h => by injection ha with ha; subst ha; exact HDIS.out _ ⟨_, rfl, rfl⟩ h)
            have htlb : sb < wb.heap.size := (hTb.block _ rfl)
            have hyb : wb.cell? ⟨sb, d, none⟩ = some (.int .i64 y) := by
              obtain ⟨y2, hy2⟩ : ∃ y2, (M ++ [z])[d]? = some y2 := ⟨_, List.getElem?_eq_getElem HDY.out⟩
              obtain ⟨sb3, hA3, _, hc3⟩ := hTb.at1 (c := fun x => .int .i64 x) hy2
              injection hA3 with hA3
              injection hA3 with hA3
              subst hA3
              obtain ⟨sb4, hA4, _, hc4⟩ := HT.out.at1 (c := fun x => .int .i64 x) hy2
              injection hA4 with hA4
              injection hA4 with hA4
              subst hA4
              rw [hty] at hc4
              rw [hc3, ← hc4]
            have hzb : wb.cell? ⟨sb, m, none⟩ = some (.int .i64 z) := by
              have hz : (M ++ [z])[m]? = some z := by rw [← HML.out]; simp
              obtain ⟨sb3, hA3, _, hc3⟩ := hTb.at1 (c := fun x => .int .i64 x) hz
              injection hA3 with hA3
              injection hA3 with hA3
              subst hA3
              exact hc3
            have hfr := Own.free hTb d
            have hst := Own.put1 (c := fun x => .int .i64 x) hTb (i := d) HDY.out z
            rw [HTS.out] at hst
            have hpop := Own.pop1 hst
            rw [List.length_set, HML.out] at hpop
            have HPOP := Lib.hid hpop
            have HGS := Lib.hid hgs
            clear hOb hgb hat hsa hN hgs hTb hst hpop htz hty htl
            have HOb2 := Lib.hid (Own.far (p := ⟨sb, d, none⟩) HOb.out (fun a ha h => by injection ha with ha; subst ha; exact HGS.out h) (.int .i64 z))
            have hsz : w.heap.size ≤ sb := HF1.out sb ⟨_, rfl, rfl⟩
            have HSb2 := Lib.hid (HSb.out.setNew d (.int .i64 z) hsz)
            have hq1 : IntKind.i64.wrap ((m : Int) + 1 - 1) = (m : Int) := by rw [IntWalk.i64_in _ (by omega)]; omega
            have hq2 : IntKind.i64.wrap (((m + 1 : Nat) : Int) - 1) = (m : Int) := by rw [IntWalk.i64_in _ (by omega)]; omega
            have hq3 : (0 : Int) ≤ m := by omega
            have hq4 : (m : Int) < ((m + 1 : Nat) : Int) := by omega
            have hq5 : (m : Int) < (m : Int) + 1 := by omega
            clear hsz
            go_wp2
            go_roundw
            case rel => exact ⟨j + 1, M.set d z, P ++ [y], some ⟨sb, 0, none⟩, C1, some ⟨gg, 0, none⟩, cap, by omega, by go_num, by have := HM.out; rw [show k - (j + 1) = m by omega], rfl, by
              have h1 := HTO.out.append_left P
              rw [List.append_assoc]
              exact h1.trans HPM.out, by rw [List.length_append, HPL.out]; rfl, HSb2.out, HF1.out, HFb.out, by have := HM.out; rw [show k - (j + 1) = m by omega]; exact HPOP.out, HOb2.out, fun b ⟨a, ha, h⟩ ⟨a', ha', h'⟩ => by
              injection ha with ha
              injection ha' with ha'
              subst ha ha'
              exact HGS.out (h'.trans h.symm)⟩
            case measure => simp [intOf]; omega
          · have hbl1 : ¬ (j : Int) < bs.length := by omega
            obtain ⟨d, hd⟩ : ∃ d : Nat, d = 0 := ⟨0, rfl⟩
            have hdl : d < m + 1 := by omega
            have hd0 : (0 : Int) = (d : Int) := by omega
            go_upto_region 13 with fail
            rw [hd0]
            clear hd0 hd
            obtain ⟨y, hy⟩ : ∃ y, (M ++ [z])[d]? = some y := ⟨_, List.getElem?_eq_getElem (by simp; have := HML.out; omega)⟩
            obtain ⟨sb2, hA2, _, hty⟩ := HT.out.at1 (c := fun x => .int .i64 x) hy
            injection hA2 with hA2
            injection hA2 with hA2
            subst hA2
            obtain ⟨hto, hts⟩ := take_out hy
            have HTO := Lib.hid hto
            have HTS := Lib.hid hts
            have hd0 : (0 : Int) ≤ d := by omega
            have hd1 : (d : Int) < ((m + 1 : Nat) : Int) := by omega
            have hd2 : (d : Int) < (m : Int) + 1 := by omega
            have hdy : d < (M ++ [z]).length := lt_of_get hy
            have HDY := Lib.hid hdy
            clear hto hts hy hdy
            go_upto_region 13 with fail
            refine wp_read 5 ?_
            simp only [List.take_succ_cons, List.take_zero, List.drop_succ_cons, List.drop_zero]
            repeat (any_goals (first | go_big_quiet_step (fail) | quiet_step (fail)))
            refine wpQuiet_nil ?_
            refine wpList_plain rfl fun K hK => ?_
            go_simp
            refine hK _ _ ?_
            clear hK K
            refine list_world fun wa hwa => ?_
            have hN := Blk.new wr 3 #[.int .i64 y]
            have hsa : Same wr wa := by rw [hwa]; exact (Frm.refl _ _).alloc _
            rw [← hwa] at hN
            clear hwa
            refine Own.append_list (f := icell) rfl (.tmp 36) (.tmp 41) _ rfl Try.underlying38 info_int rfl (by omega) rfl ((HP.out).frm hsa (fun _ _ => id)) (fun _ => rfl) (y) wr.heap.size 1 rfl hN (by simp [Value.oneCell', icell]) (by rw [HPL.out]; simp [maxLen]; omega) (by rw [HPL.out]; omega) ?_
            intro gg cap wb hOb hgb hat
            have HOb := Lib.hid hOb
            have HSb := Lib.hid (Same.app (HS.out) hsa hgb (HF2.out))
            have HFb := Lib.hid (fresh_app (HS.out) hsa (HF2.out) hat)
            have hgs : gg ≠ sb := by
              intro h
              subst h
              rcases hat with h | h
              · exact HDIS.out gg ⟨_, rfl, rfl⟩ (ownBlock_row.1 h)
              · have := hsa.size
                omega
            have hTb := Own.frm (Own.frm HT.out hsa (fun _ _ => id)) (Frm.grown (S := fun b => rowOf A2 b) (Frm.refl _ _) hgb (fun g hg => .inl (ownBlock_row.1 hg))) (fun a ha h => by injection ha with ha; subst ha; exact HDIS.out _ ⟨_, rfl, rfl⟩ h)
            have htlb : sb < wb.heap.size := (hTb.block _ rfl)
            have hyb : wb.cell? ⟨sb, d, none⟩ = some (.int .i64 y) := by
              obtain ⟨y2, hy2⟩ : ∃ y2, (M ++ [z])[d]? = some y2 := ⟨_, List.getElem?_eq_getElem HDY.out⟩
              obtain ⟨sb3, hA3, _, hc3⟩ := hTb.at1 (c := fun x => .int .i64 x) hy2
              injection hA3 with hA3
              injection hA3 with hA3
              subst hA3
              obtain ⟨sb4, hA4, _, hc4⟩ := HT.out.at1 (c := fun x => .int .i64 x) hy2
              injection hA4 with hA4
              injection hA4 with hA4
              subst hA4
              rw [hty] at hc4
              rw [hc3, ← hc4]
            have hzb : wb.cell? ⟨sb, m, none⟩ = some (.int .i64 z) := by
              have hz : (M ++ [z])[m]? = some z := by rw [← HML.out]; simp
              obtain ⟨sb3, hA3, _, hc3⟩ := hTb.at1 (c := fun x => .int .i64 x) hz
              injection hA3 with hA3
              injection hA3 with hA3
              subst hA3
              exact hc3
            have hfr := Own.free hTb d
            have hst := Own.put1 (c := fun x => .int .i64 x) hTb (i := d) HDY.out z
            rw [HTS.out] at hst
            have hpop := Own.pop1 hst
            rw [List.length_set, HML.out] at hpop
            have HPOP := Lib.hid hpop
            have HGS := Lib.hid hgs
            clear hOb hgb hat hsa hN hgs hTb hst hpop htz hty htl
            have HOb2 := Lib.hid (Own.far (p := ⟨sb, d, none⟩) HOb.out (fun a ha h => by injection ha with ha; subst ha; exact HGS.out h) (.int .i64 z))
            have hsz : w.heap.size ≤ sb := HF1.out sb ⟨_, rfl, rfl⟩
            have HSb2 := Lib.hid (HSb.out.setNew d (.int .i64 z) hsz)
            have hq1 : IntKind.i64.wrap ((m : Int) + 1 - 1) = (m : Int) := by rw [IntWalk.i64_in _ (by omega)]; omega
            have hq2 : IntKind.i64.wrap (((m + 1 : Nat) : Int) - 1) = (m : Int) := by rw [IntWalk.i64_in _ (by omega)]; omega
            have hq3 : (0 : Int) ≤ m := by omega
            have hq4 : (m : Int) < ((m + 1 : Nat) : Int) := by omega
            have hq5 : (m : Int) < (m : Int) + 1 := by omega
            clear hsz
            go_wp2
            go_roundw
            case rel => exact ⟨j + 1, M.set d z, P ++ [y], some ⟨sb, 0, none⟩, C1, some ⟨gg, 0, none⟩, cap, by omega, by go_num, by have := HM.out; rw [show k - (j + 1) = m by omega], rfl, by
              have h1 := HTO.out.append_left P
              rw [List.append_assoc]
              exact h1.trans HPM.out, by rw [List.length_append, HPL.out]; rfl, HSb2.out, HF1.out, HFb.out, by have := HM.out; rw [show k - (j + 1) = m by omega]; exact HPOP.out, HOb2.out, fun b ⟨a, ha, h⟩ ⟨a', ha', h'⟩ => by
              injection ha with ha
              injection ha' with ha'
              subst ha ha'
              exact HGS.out (h'.trans h.symm)⟩
            case measure => simp [intOf]; omega
        · obtain rfl : j = k := by omega
          have hLn : L = [] := by
            have h1 := ht.len
            rw [Nat.sub_self] at h1
            exact List.eq_nil_of_length_eq_zero h1.symm
          subst hLn
          have hperm : IsPerm P := .of_perm (by simpa using hpm)
          have HPP := Lib.hid hperm
          clear hpm hs hf1 hf2 ht hp hdis hperm
          go_wp2
          go_ret
          refine ⟨P, HPP.out, HPL.out, A2, C2, by rw [HPL.out]; rfl, ?_, HF2.out, HS.out⟩
          rw [HPL.out]
          exact HP.out
end Go.Proofs.Ytaakjecnompogaa


/- WholeTruth: its walk. -/
namespace Go.Proofs.Ytaakjecnompogaa
open Go.RowKit Go.Tk

set_option maxRecDepth 100000 in
set_option maxHeartbeats 16000000 in
theorem wtruth_walk (av op x : Nat) (A1 A2 A3 : Option Addr) (n1 n2 n3 C1 C2 C3 : Nat) (us vs : List Nat) (bs : List (Fin 256)) (w : World) (hav : av < 256) (hop : op < 256) (hx : x < 18446744073709551616) (hu : WL w A1 n1 us) (hus : Small us) (hv : WL w A2 n2 vs) (hvs : Small vs) (hl : U8 w A3 n3 bs) :
    Calls Try.prog 3 #[.int .u8 av, .slice A1 n1 C1, .slice A2 n2 C2, .int .u8 op, .int .u64 x, .slice A3 n3 C3] w fun e w' => e = .returned (.bool true) ∧ Below w.heap.size w w' := by
  obtain rfl := hu.len
  obtain rfl := hv.len
  obtain rfl := hl.len
  obtain ⟨N, hN⟩ : ∃ N, av % 9 = N := ⟨_, rfl⟩
  have hN8 : N ≤ 8 := by omega
  have hq1 : IntKind.i64.wrap (av : Int) = av := IntWalk.i64_in _ (by omega)
  have hq2 : (av : Int).tmod 9 = (N : Int) := by rw [← hN, Int.tmod_eq_emod_of_nonneg (by omega)]; simp
  have hq3 : ¬ (9 : Int) = 0 := by omega
  have hq4 : (av : Int) % 9 = (N : Int) := by omega
  have hq5 : IntKind.i64.wrap (N : Int) = N := IntWalk.i64_in _ (by omega)
  clear hN
  obtain ⟨o, ho⟩ : ∃ o, op % 16 = o := ⟨_, rfl⟩
  have ho15 : o ≤ 15 := by omega
  have ho2 : (op : Int).tmod 16 = (o : Int) := by rw [← ho, Int.tmod_eq_emod_of_nonneg (by omega)]; simp
  have ho4 : (op : Int) % 16 = (o : Int) := by omega
  have ho5 : IntKind.u8.wrap (o : Int) = o := IntWalk.u8_in _ (by omega)
  clear ho
  have hM1 : 1 ≤ 2 ^ N := Nat.pow_pos (by omega)
  have hM8 : 2 ^ N ≤ 256 := Nat.pow_le_pow_right (n := 2) (by omega) hN8
  have hp0 : IntKind.u64.wrap ((2 : Int) ^ N) = ((2 ^ N : Nat) : Int) := by
    rw [pow_int]
    generalize 2 ^ N = M at hM8
    exact IntWalk.u64_in _ (by omega)
  have hmn : min N 64 = N := by omega
  have hpm : IntKind.u64.wrap (((2 ^ N : Nat) : Int) - 1) = ((2 ^ N - 1 : Nat) : Int) := by
    generalize 2 ^ N = M at hM1 hM8
    rw [IntWalk.u64_in _ (by omega)]
    omega
  have hxm : bits .and .u64 (x : Int) ((2 ^ N - 1 : Nat) : Int) = ((x % 2 ^ N : Nat) : Int) := by
    have h := u64_and_nat x (2 ^ N - 1) hx (by omega)
    rw [Nat.and_two_pow_sub_one_eq_mod x N] at h
    exact h
  have hxl : x % 2 ^ N < 2 ^ N := Nat.mod_lt _ hM1
  have hff := tabW_form (n := N) (by omega) us
  have hfg := tabW_form (n := N) (by omega) vs
  have hsf := tabW_small N us
  have hsg := tabW_small N vs
  have kTf := fun w h => table_any N A1 us.length C1 us w hN8 h hus
  have kTg := fun w h => table_any N A2 vs.length C2 vs w hN8 h hvs
  generalize tabW N us = fs at *
  generalize tabW N vs = gs at *
  have hn16 : N ≤ 16 := by omega
  have hft : ∀ (G : Nat → Bool), frm N (tab N G) = true := fun G => frm_nat.2 (tab_form hn16)
  have kC := fun w => Const_any N true w
  rw [show cntE N = 0 by unfold cntE; rw [if_neg (by omega), if_neg (by omega)]] at kC
  unfold RetA at kC
  rw [show ansN N 0 = N from rfl, show ansL (tab (N : Int).toNat (fun _ => true)) 0 = tab N (fun _ => true) from rfl] at kC
  have hat : ∀ (zs : List Nat), frm N zs = true → ∀ y, y < 2 ^ N → atE (frm N zs) N y = 0 ∧ atB N zs y = vb zs y := fun zs hz y hy => by
    have h1 : atE (frm N zs) N y = 0 := by unfold atE; rw [hz, if_pos rfl, if_pos (by simpa using hy)]
    exact ⟨h1, by unfold atB; rw [if_pos h1]⟩
  have kA : ∀ (zs : List Nat), frm N zs = true → ∀ (y : Nat), y < 2 ^ N → ∀ (A : Option Addr) (C : Nat) (w : World), TbOk w ⟨N, A, C, zs⟩ → Calls Try.prog 6 #[.agg #[.int .i64 N, .slice A zs.length C], .int .u64 y] w fun e w' => e = .returned (.tuple #[.bool (vb zs y), .int .i64 0]) ∧ Same w w' := fun zs hz y hy A C w h => by
    have := At_any N A C zs y w (by omega) h
    rw [(hat zs hz y hy).1, (hat zs hz y hy).2] at this
    exact this
  have kA1 := kA (tab N (fun _ => true)) (hft _) (x % 2 ^ N) hxl
  rw [vb_tab hxl] at kA1
  have kAf := kA fs (frm_nat.2 hff)
  have kAg := kA gs (frm_nat.2 hfg) (x % 2 ^ N) hxl
  have kAh := kA (tab N (binF o fs gs)) (hft _) (x % 2 ^ N) hxl
  rw [bin_at hxl] at kAh
  have kB := fun A C A2 C2 w h1 h2 => Binary_any o N A C fs N A2 C2 gs w (by omega) h1 h2
  have hbe : ∀ (A1 A2 : Option Addr) (C1 C2 : Nat), binE o (fm [⟨N, A1, C1, fs⟩, ⟨N, A2, C2, gs⟩]) = 0 := fun _ _ _ _ => by
    have : ¬ 15 < o := by omega
    simp [fm, Tb.frm, frm_nat.2 hff, frm_nat.2 hfg, binE, fmE, this]
  simp only [hbe] at kB
  unfold RetA at kB
  simp only [show ansN N 0 = N from rfl, show ansL (tab (N : Int).toNat (binF o fs gs)) 0 = tab N (binF o fs gs) from rfl] at kB
  have kBit := fun w => bit_any' o (vb fs (x % 2 ^ N)) (vb gs (x % 2 ^ N)) w ho15
  have kS := fun A C w h => Support_any N A C fs w h
  have kN := fun A C w h => Count_any N A C fs w h
  have hfrf := frm_nat.2 hff
  rw [hfrf] at kS kN
  rw [if_pos rfl, popS_form hff] at kN
  rw [show fmE true = 0 from rfl] at kS kN
  have es : supN N fs = bsum (depB N fs) N := by unfold supN; rw [hfrf, if_pos rfl]; rfl
  rw [es] at kS
  have ls : bsum (depB N fs) N < 18446744073709551616 := Nat.lt_of_lt_of_le (bsum_lt _ N) (show 2 ^ N ≤ 2 ^ 64 from Nat.pow_le_pow_right (by omega) (by omega))
  have kE := fun V hV A C w h => expands_any N V A C fs w hff hsf hV h
  have kBs := fun V => and1_bit (bsum (depB N fs) N) V ls
  have hsone := tab_small N (fun _ => true)
  have hsh := tab_small N (binF o fs gs)
  have kR : ∀ (p : List Int), PermN N p → ∀ A C Ap Cp w, TbOk w ⟨N, A, C, fs⟩ → IL w Ap N p → Calls Try.prog 13 #[.agg #[.int .i64 N, .slice A fs.length C], .slice Ap N Cp] w fun e w' => ∃ A C, e = .returned (.tuple #[.agg #[.int .i64 N, .slice A (tab N (renF N p fs)).length C], .int .i64 0]) ∧ NewT w (tab N (renF N p fs)) A C w' := fun p hp A C Ap Cp w h hi => by
    have := Renamed_any N A C fs Ap N Cp p w h hi (by omega)
    rw [show rnE N p fs = 0 by unfold rnE; rw [hfrf, if_pos rfl, show (N : Int).toNat = N from rfl, prmB_true.2 hp, if_pos rfl]] at this
    exact this
  have kRt := fun (p : List Int) (hp : PermN N p) => kA (tab N (renF N p fs)) (hft _) (sg p (x % 2 ^ N) N) (sg_lt hp _ N (Nat.le_refl _))
  have kRv := fun (p : List Int) (hp : PermN N p) => ren_at (ws := fs) hp hxl
  have hcl := cntB_le (vb fs)
  generalize tab N (fun _ => true) = one at *
  generalize tab N (binF o fs gs) = hs at *
  generalize bsum (depB N fs) N = sp at *
  obtain ⟨M, hM⟩ : ∃ M, 2 ^ N = M := ⟨_, rfl⟩
  obtain ⟨y, hy⟩ : ∃ y, x % 2 ^ N = y := ⟨_, rfl⟩
  simp only [hM] at hp0 hpm kAf hxm hcl kN hM8 hM1
  simp only [hM] at hxl
  simp only [hM] at hy
  simp only [hM, hy] at hxm hxl kA1 kAf kAg kAh kBit
  have hym : x % M = y := hy
  have KTFH := Lib.hid kTf
  have KTGH := Lib.hid kTg
  have KCH := Lib.hid kC
  have KA1H := Lib.hid kA1
  have KAFH := Lib.hid kAf
  have KAGH := Lib.hid kAg
  have KAHH := Lib.hid kAh
  have KBH := Lib.hid kB
  have KBITH := Lib.hid kBit
  have KSH := Lib.hid kS
  have KNH := Lib.hid kN
  have KEH := Lib.hid kE
  have KBSH := Lib.hid kBs
  have KRH := Lib.hid kR
  have KRTH := Lib.hid kRt
  have KRVH := Lib.hid kRv
  have HSFH := Lib.hid hsf
  have HSGH := Lib.hid hsg
  have HSONEH := Lib.hid hsone
  have HSHH := Lib.hid hsh
  have HCLH := Lib.hid hcl
  have HBY := Lib.hid hl
  have HU := Lib.hid hu
  have HV := Lib.hid hv
  have HM := Lib.hid hM
  have HY := Lib.hid hy
  have HL := Lib.hid ls
  clear hat kA hbe hfrf es hft hff hfg hl hu hv hM hy hym ls hus hvs kTf kTg kC kA1 kAf kAg kAh kB kBit kS kN kE kBs kR kRt kRv hsf hsg hsone hsh hcl
  have HS1 := Lib.hid (show Same w w from Frm.refl _ _)
  go_enter Try.func3, Try.ntmps3
  go_wp2_with (fail)
  refine (KTFH.out w HU.out).mono ?_
  rintro e u1 ⟨Af, Cf, rfl, hN⟩
  have hs := hN.2.2
  have ho := hN.1.sl ucell_len
  clear hN
  replace HS1 := Lib.hid (HS1.out.trans hs (fun _ _ h => h))
  clear hs
  clear hq1 hq2 hq3 hq4
  go_wp2_with (fail)
  refine call_world fun b2 hb2 => ?_
  obtain ⟨hqn, hsv⟩ := Tv.make ho hb2
  replace HS1 := Lib.hid (HS1.out.trans hsv (fun _ _ h => h))
  obtain ⟨Tf, hTe⟩ : ∃ b, u1.heap.size = b := ⟨_, rfl⟩
  rw [hTe] at hqn ⊢
  have hqf := hqn
  clear hqn hb2 hsv hTe ho
  refine (KTGH.out b2 (Sl.same HV.out HS1.out)).mono ?_
  rintro e u3 ⟨Ag, Cg, rfl, hN⟩
  have hs := hN.2.2
  have ho := hN.1.sl ucell_len
  clear hN
  replace HS1 := Lib.hid (HS1.out.trans hs (fun _ _ h => h))
  replace hqf := hqf.same hs
  clear hs
  go_wp2_with (fail)
  refine call_world fun b4 hb4 => ?_
  obtain ⟨hqn, hsv⟩ := Tv.make ho hb4
  replace HS1 := Lib.hid (HS1.out.trans hsv (fun _ _ h => h))
  replace hqf := hqf.same hsv
  obtain ⟨Tg, hTe⟩ : ∃ b, u3.heap.size = b := ⟨_, rfl⟩
  rw [hTe] at hqn ⊢
  have hqg := hqn
  clear hqn hb4 hsv hTe ho
  refine (KCH.out b4).mono ?_
  rintro e u5 ⟨Aone, Cone, rfl, hN⟩
  have hs := hN.2.2
  have ho := hN.1.sl ucell_len
  clear hN
  replace HS1 := Lib.hid (HS1.out.trans hs (fun _ _ h => h))
  replace hqf := hqf.same hs
  replace hqg := hqg.same hs
  clear hs
  go_wp2_with (fail)
  refine call_world fun b6 hb6 => ?_
  obtain ⟨hqn, hsv⟩ := Tv.make ho hb6
  replace HS1 := Lib.hid (HS1.out.trans hsv (fun _ _ h => h))
  replace hqf := hqf.same hsv
  replace hqg := hqg.same hsv
  obtain ⟨Tone, hTe⟩ : ∃ b, u5.heap.size = b := ⟨_, rfl⟩
  rw [hTe] at hqn ⊢
  have hqone := hqn
  clear hqn hb6 hsv hTe ho
  refine (KA1H.out Aone Cone b6 ⟨hqone.wl, HSONEH.out⟩).mono ?_
  rintro e u7 ⟨rfl, hs⟩
  replace HS1 := Lib.hid (HS1.out.trans hs (fun _ _ h => h))
  replace hqf := hqf.same hs
  replace hqg := hqg.same hs
  replace hqone := hqone.same hs
  clear hs
  have cf0 : u7.cell? ⟨Tf, 0, none⟩ = some (.int .i64 N) := hqf.blk.cell 0
  have cf1 : u7.cell? ⟨Tf, 1, none⟩ = some (.slice Af fs.length Cf) := hqf.blk.cell 1
  have lf := hqf.blk.lt
  have cg0 : u7.cell? ⟨Tg, 0, none⟩ = some (.int .i64 N) := hqg.blk.cell 0
  have cg1 : u7.cell? ⟨Tg, 1, none⟩ = some (.slice Ag gs.length Cg) := hqg.blk.cell 1
  have lg := hqg.blk.lt
  go_wp2_with (fail)
  refine (KBH.out Af Cf Ag Cg u7 ⟨hqf.wl, HSFH.out⟩ ⟨hqg.wl, HSGH.out⟩).mono ?_
  rintro e u8 ⟨Ah, Ch, rfl, hN⟩
  clear cf0 cf1 lf cg0 cg1 lg
  have hs := hN.2.2
  have ho := hN.1.sl ucell_len
  clear hN
  replace HS1 := Lib.hid (HS1.out.trans hs (fun _ _ h => h))
  replace hqf := hqf.same hs
  replace hqg := hqg.same hs
  replace hqone := hqone.same hs
  clear hs
  have cf0 : u8.cell? ⟨Tf, 0, none⟩ = some (.int .i64 N) := hqf.blk.cell 0
  have cf1 : u8.cell? ⟨Tf, 1, none⟩ = some (.slice Af fs.length Cf) := hqf.blk.cell 1
  have lf := hqf.blk.lt
  go_wp2_with (fail)
  refine call_world fun b9 hb9 => ?_
  obtain ⟨hqn, hsv⟩ := Tv.make ho hb9
  clear cf0 cf1 lf
  replace HS1 := Lib.hid (HS1.out.trans hsv (fun _ _ h => h))
  replace hqf := hqf.same hsv
  replace hqg := hqg.same hsv
  replace hqone := hqone.same hsv
  obtain ⟨Th, hTe⟩ : ∃ b, u8.heap.size = b := ⟨_, rfl⟩
  rw [hTe] at hqn ⊢
  have hqh := hqn
  clear hqn hb9 hsv hTe ho
  refine (KAFH.out y hxl Af Cf b9 ⟨hqf.wl, HSFH.out⟩).mono ?_
  rintro e u10 ⟨rfl, hs⟩
  replace HS1 := Lib.hid (HS1.out.trans hs (fun _ _ h => h))
  replace hqf := hqf.same hs
  replace hqg := hqg.same hs
  replace hqone := hqone.same hs
  replace hqh := hqh.same hs
  clear hs
  have cg0 : u10.cell? ⟨Tg, 0, none⟩ = some (.int .i64 N) := hqg.blk.cell 0
  have cg1 : u10.cell? ⟨Tg, 1, none⟩ = some (.slice Ag gs.length Cg) := hqg.blk.cell 1
  have lg := hqg.blk.lt
  go_wp2_with (fail)
  refine (KAGH.out Ag Cg u10 ⟨hqg.wl, HSGH.out⟩).mono ?_
  rintro e u11 ⟨rfl, hs⟩
  clear cg0 cg1 lg
  replace HS1 := Lib.hid (HS1.out.trans hs (fun _ _ h => h))
  replace hqf := hqf.same hs
  replace hqg := hqg.same hs
  replace hqone := hqone.same hs
  replace hqh := hqh.same hs
  clear hs
  have ch0 : u11.cell? ⟨Th, 0, none⟩ = some (.int .i64 N) := hqh.blk.cell 0
  have ch1 : u11.cell? ⟨Th, 1, none⟩ = some (.slice Ah hs.length Ch) := hqh.blk.cell 1
  have lh := hqh.blk.lt
  go_wp2_with (fail)
  refine (KAHH.out Ah Ch u11 ⟨hqh.wl, HSHH.out⟩).mono ?_
  rintro e u12 ⟨rfl, hs⟩
  clear ch0 ch1 lh
  replace HS1 := Lib.hid (HS1.out.trans hs (fun _ _ h => h))
  replace hqf := hqf.same hs
  replace hqg := hqg.same hs
  replace hqone := hqone.same hs
  replace hqh := hqh.same hs
  clear hs
  go_wp2_with (fail)
  refine (KBITH.out u12).mono ?_
  rintro e u13 ⟨rfl, hs⟩
  replace HS1 := Lib.hid (HS1.out.trans hs (fun _ _ h => h))
  replace hqf := hqf.same hs
  replace hqg := hqg.same hs
  replace hqone := hqone.same hs
  replace hqh := hqh.same hs
  clear hs
  clear hqone hqh hqg
  have cf0 : u13.cell? ⟨Tf, 0, none⟩ = some (.int .i64 N) := hqf.blk.cell 0
  have cf1 : u13.cell? ⟨Tf, 1, none⟩ = some (.slice Af fs.length Cf) := hqf.blk.cell 1
  have lf := hqf.blk.lt
  go_wp2_with (fail)
  refine (KSH.out Af Cf u13 ⟨hqf.wl, HSFH.out⟩).mono ?_
  rintro e u14 ⟨rfl, hs⟩
  clear cf0 cf1 lf
  replace HS1 := Lib.hid (HS1.out.trans hs (fun _ _ h => h))
  replace hqf := hqf.same hs
  clear hs
  have cf0 : u14.cell? ⟨Tf, 0, none⟩ = some (.int .i64 N) := hqf.blk.cell 0
  have cf1 : u14.cell? ⟨Tf, 1, none⟩ = some (.slice Af fs.length Cf) := hqf.blk.cell 1
  have lf := hqf.blk.lt
  go_wp2_with (fail)
  refine (KNH.out Af Cf u14 ⟨hqf.wl, HSFH.out⟩).mono ?_
  rintro e u15 ⟨rfl, hs⟩
  clear cf0 cf1 lf
  replace HS1 := Lib.hid (HS1.out.trans hs (fun _ _ h => h))
  replace hqf := hqf.same hs
  clear hs
  go_wp2
  go_loopw [32, 33] (fun c z wr => ∃ k : Nat, k ≤ M ∧ z = .int .u64 k ∧ c = .int .u64 (cntB (vb fs) k : Nat) ∧ Same u15 wr) (fun _ z _ => M - (intOf z).toNat)
  case atStart => exact ⟨0, by omega, rfl, rfl, Frm.refl _ _⟩
  case round =>
    obtain ⟨k, hk, rfl, rfl, hs⟩ := hrel
    have hcl := HCLH.out k
    have HSr := Lib.hid (HS1.out.trans hs (fun _ _ h => h))
    have HS0 := Lib.hid hs
    have hqfr := hqf.same hs
    have cf0 : wr.cell? ⟨Tf, 0, none⟩ = some (.int .i64 N) := hqfr.blk.cell 0
    have cf1 : wr.cell? ⟨Tf, 1, none⟩ = some (.slice Af fs.length Cf) := hqfr.blk.cell 1
    have lf := hqfr.blk.lt
    clear hs HS1
    by_cases hlt : k < M
    · have hk1 : (k : Int) < M := by omega
      have hst : cntB (vb fs) (k + 1) = cntB (vb fs) k + (if vb fs k then 1 else 0) := rfl
      have hac := KAFH.out k hlt Af Cf wr ⟨hqfr.wl, HSFH.out⟩
      have HST := Lib.hid hst
      clear hst hqfr
      generalize vb fs k = v at *
      generalize cntB (vb fs) k = cc at *
      have HAC := Lib.hid hac
      clear hac
      go_wp2_with (fail)
      refine HAC.out.mono ?_
      rintro e w5 ⟨rfl, hs⟩
      have HSw := Lib.hid (HS0.out.trans hs (fun _ _ h => h))
      clear hs cf0 cf1 lf HAC
      cases v
      · go_wp2
        go_roundw
        case rel => exact ⟨k + 1, by omega, by go_num, by rw [HST.out]; rfl, HSw.out⟩
        case measure => simp [intOf]; omega
      · go_wp2
        go_roundw
        case rel => exact ⟨k + 1, by omega, by go_num, by rw [HST.out]; go_num, HSw.out⟩
        case measure => simp [intOf]; omega
    · obtain rfl : k = M := by omega
      clear cf0 cf1 lf hqf HS0
      obtain ⟨wo, rfl⟩ : ∃ z, z = wr := ⟨_, rfl⟩
      go_wp2
      go_loopw [36] (fun i wi => ∃ j : Nat, j ≤ N ∧ i = .int .i64 j ∧ Same wo wi) (fun i _ => N - (intOf i).toNat)
      case atStart => exact ⟨0, by omega, rfl, Frm.refl _ _⟩
      case round =>
        obtain ⟨j, hj, rfl, hs⟩ := hrel
        have HSi := Lib.hid (HSr.out.trans hs (fun _ _ h => h))
        have HS0 := Lib.hid hs
        have hqfi := hqfr.same hs
        have cf0 : wr.cell? ⟨Tf, 0, none⟩ = some (.int .i64 N) := hqfi.blk.cell 0
        have cf1 : wr.cell? ⟨Tf, 1, none⟩ = some (.slice Af fs.length Cf) := hqfi.blk.cell 1
        have lf := hqfi.blk.lt
        clear hs
        by_cases hlt : j < N
        · have hj1 : (j : Int) < N := by omega
          have hj0 : (0 : Int) ≤ j := by omega
          have hkm : min j 64 = j := by omega
          have hdv : ((sp : Nat) : Int) / 2 ^ j = ((sp / 2 ^ j : Nat) : Int) := by rw [pow_int]; exact (Int.natCast_ediv _ _).symm
          have hbit := KBSH.out j
          have hdl : sp / 2 ^ j ≤ sp := Nat.div_le_self _ _
          have hls := HL.out
          generalize sp / 2 ^ j = sq at *
          have HKE := Lib.hid (KEH.out j hlt Af Cf)
          clear hqfr
          go_upto_region 33 with fail
          refine wp_quiet (by kernel_rfl) (by kernel_rfl) ?_
          repeat (any_goals (first | go_big_quiet_step ((go_at_call 11; exact quiet_call (HKE.out _ (Sl.same hqfi.wl (more_same _ _))))) | quiet_step ((go_at_call 11; exact quiet_call (HKE.out _ (Sl.same hqfi.wl (more_same _ _)))))))
          refine wpQuiet_nil ?_
          rintro wy ⟨q, hq⟩
          have hsz : Same wr wy := by rw [hq]; exact more_same _ q
          have HSw := Lib.hid (HS0.out.trans hsz (fun _ _ h => h))
          clear hq hsz hqfi cf0 cf1 lf
          go_wp2
          go_roundw
          case rel => exact ⟨j + 1, by omega, by go_num, HSw.out⟩
          case measure => simp [intOf]; omega
        · obtain rfl : j = N := by omega
          obtain ⟨wi, rfl⟩ : ∃ z, z = wr := ⟨_, rfl⟩
          clear cf0 cf1 lf hqfr HS0 HSr
          have HS1 := HSi
          have hqf := hqfi
          clear hqfi HSi
          go_wp2_with (fail)
          refine (order_any j A3 bs.length C3 bs wi (Sl.same HBY.out HS1.out) (by omega)).mono ?_
          rintro e w6 ⟨ys, hpp, hlp, Ap, Cp, rfl, hN1⟩
          rw [hlp]
          have hs := hN1.2.2
          have hip := hN1.il
          rw [hlp] at hip
          have hpn : PermN j ys := ⟨hlp, hpp⟩
          have HPN := Lib.hid hpn
          have hlp2 := Lib.hid hip
          have kt := KRTH.out ys hpn
          have kv := KRVH.out ys hpn
          simp only [HM.out, HY.out] at kt kv
          rw [kv] at kt
          have kr := KRH.out ys hpn
          have sr := tab_small j (renF j ys fs)
          have hgl : ∀ k, k ≤ j → sg ys y k < 65536 := fun k hk => by have h1 := sg_lt hpn y k hk; have h2 := HM.out; omega
          have hgo : ∀ k, k < j → sg ys y k ||| (y / 2 ^ k % 2) * 2 ^ pv ys k = sg ys y (k + 1) := fun k hk => sg_or hpn y hk
          generalize tab j (renF j ys fs) = ts at *
          have KT := Lib.hid kt
          have KR := Lib.hid kr
          have SR := Lib.hid sr
          have HGL := Lib.hid hgl
          have HGO := Lib.hid hgo
          clear hpp hlp hN1 hip hpn kt kv kr sr hgl hgo
          have hlq := hlp2
          replace hlq := hlq
          replace HS1 := Lib.hid (HS1.out.trans hs (fun _ _ h => h))
          replace hqf := hqf.same hs
          clear hs hlp2
          have cf0 : w6.cell? ⟨Tf, 0, none⟩ = some (.int .i64 j) := hqf.blk.cell 0
          have cf1 : w6.cell? ⟨Tf, 1, none⟩ = some (.slice Af fs.length Cf) := hqf.blk.cell 1
          have lf := hqf.blk.lt
          go_wp2_with (fail)
          refine (KR.out Af Cf Ap Cp w6 ⟨hqf.wl, HSFH.out⟩ hlq.out).mono ?_
          rintro e u51 ⟨At, Ct, rfl, hN⟩
          clear cf0 cf1 lf
          have hs := hN.2.2
          have ho := hN.1.sl ucell_len
          clear hN
          replace HS1 := Lib.hid (HS1.out.trans hs (fun _ _ h => h))
          replace hqf := hqf.same hs
          replace hlq := Lib.hid (Sl.same hlq.out hs)
          clear hs
          go_upto_region 37 with fail
          refine wp_world fun b52 hb52 => ?_
          obtain ⟨hqn, hsv⟩ := Tv.make ho hb52
          replace HS1 := Lib.hid (HS1.out.trans hsv (fun _ _ h => h))
          replace hqf := hqf.same hsv
          replace hlq := Lib.hid (Sl.same hlq.out hsv)
          obtain ⟨Tt, hTe⟩ : ∃ b, u51.heap.size = b := ⟨_, rfl⟩
          rw [hTe] at hqn ⊢
          have hqt := hqn
          clear hqn hb52 hsv hTe ho
          clear hqf
          go_wp2
          go_loopw [40, 41] (fun m i wz => ∃ k : Nat, k ≤ j ∧ i = .int .i64 k ∧ m = .int .u64 (sg ys y k : Nat) ∧ Same b52 wz) (fun _ i _ => j - (intOf i).toNat)
          case atStart => exact ⟨0, by omega, rfl, rfl, Frm.refl _ _⟩
          case round =>
            obtain ⟨k, hk, rfl, rfl, hs0⟩ := hrel
            have hsl := HGL.out k (by omega)
            by_cases hlt : k < j
            · have hgk := HPN.out.get hlt
              obtain ⟨bp, op, hA, hb, hc⟩ := (Sl.same hlq.out hs0).at1 hgk
              have hal := HPN.out.lt hlt
              have hor := HGO.out k hlt
              clear hgk
              have HS0 := Lib.hid hs0
              clear hs0
              generalize pv ys k = a at *
              obtain ⟨s1, hse⟩ : ∃ r, sg ys y (k + 1) = r := ⟨_, rfl⟩
              rw [hse] at hor
              have HSE := Lib.hid hse
              clear hse
              generalize sg ys y k = s0 at *
              subst hA
              have hk0 : (0 : Int) ≤ k := by omega
              have hk1 : (k : Int) < j := by omega
              have ha0 : (0 : Int) ≤ a := by omega
              have hma : min a 64 = a := by omega
              have hmk : min k 64 = k := by omega
              obtain ⟨q1, b1, c1, hd1, hd2, hd3, hd4, hb2, hq2, hc2⟩ := step_u (k := k) (u := a) (show y < 18446744073709551616 by omega) (by omega) hsl hor
              clear hor
              go_upto_region 41 with fail
              refine wp_quiet (by kernel_rfl) (by kernel_rfl) ?_
              repeat (any_goals (first | go_big_quiet_step (fail) | quiet_step (fail)))
              refine wpQuiet_nil ?_
              rintro wy ⟨pq, hpq⟩
              have hsz := HS0.out.trans (show Same wr wy by rw [hpq]; exact more_same _ pq) (fun _ _ h => h)
              clear hpq
              go_wp2
              go_roundw
              case rel => exact ⟨k + 1, by omega, by go_num, by rw [HSE.out], hsz⟩
              case measure => simp [intOf]; omega
            · obtain rfl : k = j := by omega
              have hqtr := hqt.same hs0
              have ct0 : wr.cell? ⟨Tt, 0, none⟩ = some (.int .i64 k) := hqtr.blk.cell 0
              have ct1 : wr.cell? ⟨Tt, 1, none⟩ = some (.slice At ts.length Ct) := hqtr.blk.cell 1
              have lt := hqtr.blk.lt
              replace HS1 := Lib.hid (HS1.out.trans hs0 (fun _ _ h => h))
              clear hs0 hsl
              generalize sg ys y k = s0 at *
              go_wp2_with (fail)
              refine (KT.out At Ct wr ⟨hqtr.wl, SR.out⟩).mono ?_
              rintro e w9 ⟨rfl, hs⟩
              replace HS1 := Lib.hid (HS1.out.trans hs (fun _ _ h => h))
              clear hs ct0 ct1 lt
              go_wp2
              go_ret
              exact ⟨by simp, HS1.out.to_below (Nat.le_refl _) (fun _ _ => id)⟩

end Go.Proofs.Ytaakjecnompogaa


/- The walk of WholeTruth beside the given rows. -/
namespace Go.Proofs.Ytaakjecnompogaa
open Go.RowKit Go.Tk
abbrev u64Ks : List Leaf := [.int .u64]
def u64cell (x : Fin 18446744073709551616) : List Value := ucell x.val
theorem u64_of {w : World} (l : List Value) (h : CellsOk w u64Ks l) : ∃ x : Fin 18446744073709551616, l = u64cell x := by
  simp only [CellsOk, CellOk] at h
  obtain ⟨v0, l0, rfl, ⟨n0, rfl, hw⟩, rfl⟩ := h
  obtain ⟨h0, h1⟩ := bounds_u64 hw
  obtain ⟨q, rfl⟩ := Int.eq_ofNat_of_zero_le h0
  exact ⟨⟨q, by omega⟩, rfl⟩
theorem u64_wl {w : World} {A : Option Addr} {n : Nat} {xs : List (Fin 18446744073709551616)} (h : Sl w 1 u64cell A n xs) : WL w A n (xs.map Fin.val) ∧ Small (xs.map Fin.val) :=
  ⟨Sl.map Fin.val h, fun x hx => by obtain ⟨y, _, rfl⟩ := List.mem_map.1 hx; exact y.isLt⟩
end Go.Proofs.Ytaakjecnompogaa
