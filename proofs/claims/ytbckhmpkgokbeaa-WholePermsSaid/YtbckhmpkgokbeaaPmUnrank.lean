/- Unrank of the program. -/
import Derived.Test.YtbckhmpkgokbeaaPmUnr
namespace Go.Proofs.Ytbckhmpkgokbeaa
open Go.RowKit Go.Tk

set_option maxHeartbeats 4000000 in
theorem unrank_any (n : Int) (r : Nat) (w : World) (hr : r < 18446744073709551616) : Calls Try.prog 16 #[.int .i64 n, .int .u64 r] w (RetE w (unR n r) (unE n r)) := by
  by_cases h0 : n < 0
  · have he : unE n r = 1 := by unfold unE; rw [if_pos (.inl h0)]
    have hy : unR n r = [] := by unfold unR; rw [he, if_neg (by decide)]
    rw [he, hy]
    clear he hy hr
    go_enter Try.func16, Try.ntmps16
    go_wp2
    go_ret2
    exact ⟨none, 0, rfl, NewL.nil w⟩
  by_cases h1 : n > 20
  · have he : unE n r = 1 := by unfold unE; rw [if_pos (.inr h1)]
    have hy : unR n r = [] := by unfold unR; rw [he, if_neg (by decide)]
    rw [he, hy]
    clear he hy hr
    go_enter Try.func16, Try.ntmps16
    go_wp2
    go_ret2
    exact ⟨none, 0, rfl, NewL.nil w⟩
  obtain ⟨N, rfl⟩ : ∃ m : Nat, n = m := ⟨n.toNat, by omega⟩
  have hN : N ≤ 20 := by omega
  obtain ⟨ue, hue⟩ : ∃ e, unE N r = e := ⟨_, rfl⟩
  obtain ⟨ul, hul⟩ : ∃ l, unR N r = l := ⟨_, rfl⟩
  rw [hue, hul]
  have HUE := Lib.hid hue
  have HUL := Lib.hid hul
  have hmk := fun w => run_make_n (P := Try.prog) Try.underlying22 info_int .i64 .i64 N (show 8 * N ≤ 281474976710656 by omega) (show N ≤ 9223372036854775807 by omega) w
  have hO := Own.ofMade (m := 1) w 3 icell (fun _ => rfl) (by decide) 0 N (show N ≤ 9223372036854775807 by omega) rfl
  rw [← dgL_zero N r] at hO
  have hs1 : ∀ cs, Same w (w.alloc (.cells cs 3)) := fun cs => (Frm.refl _ _).alloc _
  have HO := Lib.hid hO
  have HSA := Lib.hid hs1
  clear hO hue hul hs1
  go_enter Try.func16, Try.ntmps16
  go_wp2
  go_loopw [1, 21] (fun s i wr => ∃ k : Nat, k ≤ N ∧ i = .int .i64 k ∧ s = .int .u64 (rq r k : Nat) ∧ Same w wr ∧ OwnI wr 3 (some ⟨w.heap.size, 0, none⟩) N N (dgL N r k)) (fun _ i _ => N - (intOf i).toNat)
  case atStart => exact ⟨0, by omega, rfl, rfl, HSA.out _, by simpa [icell] using HO.out⟩
  case round =>
    clear hmk HSA HO
    obtain ⟨k, hk, rfl, rfl, hs, ho⟩ := hrel
    have HS := Lib.hid hs
    have HR := Lib.hid ho
    by_cases hlt : k < N
    · have hi1 : (k : Int) < N := by omega
      have hi0 : (0 : Int) ≤ k := by omega
      have hrb := rq_le r k
      obtain ⟨q, hq⟩ : ∃ q, rq r k = q := ⟨_, rfl⟩
      have hnext : rq r (k + 1) = q / (k + 1) := by rw [rq, hq]
      have hdg : dg r k = q % (k + 1) := by unfold dg; rw [hq]
      have hdl := dg_lt r k
      obtain ⟨d, hd⟩ : ∃ d, dg r k = d := ⟨_, rfl⟩
      obtain ⟨ix, hix⟩ : ∃ ix, N - 1 - k = ix := ⟨_, rfl⟩
      have hixl : ix < N := by omega
      obtain ⟨sb, hsb, hsl, hsc⟩ := ho.at1 (c := fun x => .int .i64 x) (i := ix) (x := (dgL N r k)[ix]'(by rw [dgL_len]; exact hixl)) (List.getElem?_eq_getElem _)
      injection hsb with hsb
      injection hsb with hsb
      subst hsb
      have hfr := Own.free ho ix
      have hst := Own.put1 (c := fun x => .int .i64 x) ho (i := ix) (by rw [dgL_len]; exact hixl) (d : Int)
      rw [← hix, ← hd, dgL_set hlt, hix, hd] at hst
      generalize (dgL N r k)[ix]'(by rw [dgL_len]; exact hixl) = old at hsc
      rw [hq] at hrb ⊢
      rw [hd] at hdg hdl
      have HST := Lib.hid hst
      have HNX := Lib.hid hnext
      have hq0 : IntKind.i64.wrap ((N : Int) - 1) = (N : Int) - 1 := IntWalk.i64_in _ (by omega)
      have hq1 : IntKind.i64.wrap ((N : Int) - 1 - k) = (ix : Int) := by rw [IntWalk.i64_in _ (by omega)]; omega
      have hq2 : IntKind.i64.wrap ((k : Int) + 1) = (k : Int) + 1 := IntWalk.i64_in _ (by omega)
      have hq3 : IntKind.u64.wrap ((k : Int) + 1) = (k : Int) + 1 := IntWalk.u64_in _ (by omega)
      have hq4 : (q : Int).tmod ((k : Int) + 1) = (d : Int) := by rw [hdg]; exact (Int.natCast_emod q (k + 1)).symm ▸ (Int.tmod_eq_emod_of_nonneg (by omega))
      have hq5 : IntKind.i64.wrap (d : Int) = d := IntWalk.i64_in _ (by omega)
      have hq6 : (ix : Int) < N := by omega
      have hq7 : ¬ (k : Int) + 1 = 0 := by omega
      have hq8 : (0 : Int) ≤ ix := by omega
      clear hs ho hst hnext hdg hd hix hq
      go_upto_region 7 with fail
      refine wp_read 12 ?_
      simp only [List.take_succ_cons, List.take_zero, List.drop_succ_cons, List.drop_zero]
      repeat (any_goals (first | go_big_quiet_step (fail) | quiet_step (fail)))
      refine wpQuiet_nil ?_
      have hqe : (q : Int) / ((k : Int) + 1) = ((q / (k + 1) : Nat) : Int) := by simp
      have hql : q / (k + 1) ≤ q := Nat.div_le_self _ _
      have hq9 : IntKind.u64.wrap ((q : Int) / ((k : Int) + 1)) = ((q / (k + 1) : Nat) : Int) := by
        rw [hqe]
        generalize q / (k + 1) = qq at hql
        exact IntWalk.u64_in _ (by omega)
      clear hqe hql
      clear hq0 hq1 hq4 hq5
      go_upto_region 8 with fail
      refine wp_read 6 ?_
      simp only [List.take_succ_cons, List.take_zero, List.drop_succ_cons, List.drop_zero]
      repeat (any_goals (first | go_big_quiet_step (fail) | quiet_step (fail)))
      refine wpQuiet_nil ?_
      clear hq2 hq3 hq9
      go_wp2
      go_roundw
      case rel => exact ⟨k + 1, by omega, by go_num, by rw [HNX.out]; simp, HS.out.setNew _ _ (Nat.le_refl _), HST.out⟩
      case measure => simp [intOf]; omega
    · obtain rfl : k = N := by omega
      by_cases hz : rq r k = 0
      · have hle : r < fact k := un_zero.1 hz
        have he : ue = 0 := by
          rw [← HUE.out]
          unfold unE
          rw [if_neg (by omega), if_neg (by rw [show ((k : Nat) : Int).toNat = k from rfl]; omega)]
        have hl : ul = unL k r := by
          rw [← HUL.out]
          unfold unR
          rw [HUE.out, he, if_pos rfl]
          rfl
        subst he hl
        rw [hz]
        clear hs ho hz hle HUE HUL
        go_wp2_with (fail)
        refine call_world fun wr hwr => ?_
        subst hwr
        refine (identity_any k wr (by omega)).mono ?_
        rintro e w2 ⟨A0, C0, rfl, hN2⟩
        rw [rng_len]
        have hO2 := hN2.1
        rw [rng_len] at hO2
        have hF2 := hN2.2.1
        have HD2 := Lib.hid (Own.frm HR.out hN2.2.2 (fun _ _ => id))
        have HO2 := Lib.hid hO2
        have HS2 := Lib.hid (HS.out.trans hN2.2.2 (fun _ _ h => h))
        have hgw := HR.out.block _ rfl
        simp only at hgw
        have hdj : ∀ b, rowOf A0 b → w.heap.size < b := fun b hb => by have := hF2 b hb; omega
        have HDJ := Lib.hid hdj
        clear hN2 hO2 hF2 HR HS hdj
        go_wp2
        go_loopw [9, 8, 48] (fun s t i wv => ∃ (j : Nat) (A2 : Option Addr) (C2 : Nat) , j ≤ k ∧ i = .int .i64 j ∧ s = .slice A2 j C2 ∧ t = .slice A0 (k - j) C0 ∧ OwnI wv 3 A2 j C2 (dcd (dgs k r) k j).1 ∧ OwnI wv 3 A0 (k - j) C0 (dcd (dgs k r) k j).2 ∧ OwnI wv 3 (some ⟨w.heap.size, 0, none⟩) k k (dgL k r k) ∧ Same w wv ∧ (∀ b, rowOf A2 b → w.heap.size < b ∧ ¬ rowOf A0 b)) (fun _ _ i _ => k - (intOf i).toNat)
        case atStart => exact ⟨0, none, 0, by omega, rfl, rfl, rfl, Own.nil _ _ _ _, HO2.out, HD2.out, HS2.out, fun b ⟨a, h, _⟩ => by cases h⟩
        case round =>
          clear HO2 HD2 HS2
          obtain ⟨j, A2, C2, hj, rfl, rfl, rfl, hp, ht, hdg, hs, hdis⟩ := hrel
          have HP := Lib.hid hp
          have HT := Lib.hid ht
          have HG := Lib.hid hdg
          have HS := Lib.hid hs
          have HDIS := Lib.hid hdis
          by_cases hjk : j < k
          · have hjk1 : (j : Int) < k := by omega
            have hj0 : (0 : Int) ≤ j := by omega
            obtain ⟨hl1, hl2⟩ := dcd_len (f := dgs k r) (n := k) dgs_ok j hj
            have hdl := dgs_ok (r := r) j hjk
            obtain ⟨sbg, hsg, hgl, hgc⟩ := hdg.at1 (c := fun x => .int .i64 x) (dgL_get (r := r) hjk)
            injection hsg with hsg
            injection hsg with hsg
            subst hsg
            obtain ⟨d, hd⟩ : ∃ d, dgs k r j = d := ⟨_, rfl⟩
            rw [hd] at hgc hdl
            obtain ⟨x, hx⟩ : ∃ x, (dcd (dgs k r) k j).2[d]? = some x := ⟨_, List.getElem?_eq_getElem (by omega)⟩
            obtain ⟨sb, hA0, htl, htc⟩ := ht.at1 (c := fun x => .int .i64 x) hx
            subst hA0
            have hd0 : (0 : Int) ≤ d := by omega
            have hd1 : (d : Int) < ((k - j : Nat) : Int) := by omega
            have hn1 : (dcd (dgs k r) k (j + 1)).1 = (dcd (dgs k r) k j).1 ++ [x] := by
              simp only [dcd, hd]
              rw [List.getD_eq_getElem?_getD, hx]
              rfl
            have hn2 : (dcd (dgs k r) k (j + 1)).2 = (dcd (dgs k r) k j).2.take d ++ (dcd (dgs k r) k j).2.drop (d + 1) := by simp only [dcd, hd]
            have hgt : ¬ w.heap.size = sb := by have := HDJ.out sb ⟨_, rfl, rfl⟩; omega
            have HN1 := Lib.hid hn1
            have HN2 := Lib.hid hn2
            have HL1 := Lib.hid hl1
            clear hp ht hdg hs hdis hl2 hd hx hn1 hn2 hl1
            go_upto_region 17 with fail
            refine wp_world fun wv hwv => ?_
            subst hwv
            refine wp_read 5 ?_
            simp only [List.take_succ_cons, List.take_zero, List.drop_succ_cons, List.drop_zero]
            repeat (any_goals (first | go_big_quiet_step (fail) | quiet_step (fail)))
            refine wpQuiet_nil ?_
            refine wpList_plain rfl fun K hK => ?_
            go_simp
            refine hK _ _ ?_
            clear hK K
            refine list_world fun wa hwa => ?_
            have hN := Blk.new wv 3 #[.int .i64 x]
            have hsa : Same wv wa := by rw [hwa]; exact (Frm.refl _ _).alloc _
            rw [← hwa] at hN
            clear hwa
            refine Own.append_list (f := icell) rfl (.tmp 52) (.tmp 57) _ rfl Try.underlying22 info_int rfl (by omega) rfl (Own.frm (HP.out) hsa (fun _ _ => id)) (fun _ => rfl) (x) wv.heap.size 1 rfl hN (by simp [Value.oneCell', icell]) (by rw [HL1.out]; simp [maxLen]; omega) (by rw [HL1.out]; omega) ?_
            intro gg cap wb hOb hgb hat
            have hggA : w.heap.size < gg ∧ gg ≠ sb := by
              have := hsa.size
              rcases hat with h | h
              · have h2 := HDIS.out gg (ownBlock_row.1 h)
                exact ⟨h2.1, fun h3 => h2.2 ⟨_, rfl, h3.symm⟩⟩
              · exact ⟨by omega, by omega⟩
            have hfg : Frm (fun b => rowOf A2 b) wa wb := Frm.grown (Frm.refl _ _) hgb (fun g hg => .inl (ownBlock_row.1 hg))
            have HTb := Lib.hid (Own.frm (Own.frm HT.out hsa (fun _ _ => id)) hfg (fun a ha h => (HDIS.out _ h).2 ⟨a, ha, rfl⟩))
            have HGb := Lib.hid (Own.frm (Own.frm HG.out hsa (fun _ _ => id)) hfg (fun a ha h => by injection ha with ha; subst ha; have := (HDIS.out _ h).1; simp at this))
            have HGA := Lib.hid hggA
            have HOb := Lib.hid hOb
            have HSb := Lib.hid (Same.app (HS.out) hsa hgb (fun b hb => Nat.le_of_lt (HDIS.out b hb).1))
            have HFb := Lib.hid (fresh_app (HS.out) hsa (fun b hb => Nat.le_of_lt (HDIS.out b hb).1) hat)
            clear hfg hggA hOb hgb hat hsa hN
            clear HP HT HG HS HDIS hgc htc
            go_wp2_with (fail)
            refine (delete_any (i := d) wb HTb.out (by omega) (by omega)).mono ?_
            rintro e wd ⟨rfl, hT2, hfd⟩
            have HT2 := Lib.hid hT2
            have HP2 := Lib.hid (Own.frm HOb.out hfd (fun a ha h => by injection ha with ha; subst ha; exact HGA.out.2 h))
            have HG2 := Lib.hid (Own.frm HGb.out hfd (fun a ha h => by injection ha with ha; subst ha; exact hgt h))
            have HSd := Lib.hid (HSb.out.trans hfd (fun i hi h => by have h' : i = sb := h; have := HDJ.out sb ⟨_, rfl, rfl⟩; omega))
            clear hT2 hfd HSb HFb HOb HTb HGb
            go_wp2
            go_roundw
            case rel => exact ⟨j + 1, some ⟨gg, 0, none⟩, cap, by omega, by go_num, rfl, rfl, by rw [HN1.out]; exact HP2.out, by rw [HN2.out]; exact HT2.out, HG2.out, HSd.out, fun b ⟨a, ha, hb⟩ => by
              injection ha with ha
              subst ha
              simp only at hb
              subst hb
              exact ⟨HGA.out.1, fun ⟨a, ha, h⟩ => by injection ha with ha; subst ha; exact HGA.out.2 h.symm⟩⟩
            case measure => simp [intOf]; omega
          · obtain rfl : j = k := by omega
            clear hp ht hdg hs hdis
            go_wp2
            go_ret2
            have hl : (unL j r).length = j := (dcd_len dgs_ok j (Nat.le_refl _)).1
            refine ⟨A2, C2, by rw [hl]; rfl, ?_, fun b hb => Nat.le_of_lt (HDIS.out b hb).1, HS.out⟩
            rw [hl]
            exact HP.out
      · have hle : fact k ≤ r := by
          rcases Nat.lt_or_ge r (fact k) with h | h
          · exact absurd (un_zero.2 h) hz
          · exact h
        have he : ue = 1 := by
          rw [← HUE.out]
          unfold unE
          rw [if_neg (by omega), if_pos (show fact ((k : Nat) : Int).toNat ≤ r from hle)]
        have hl : ul = [] := by
          rw [← HUL.out]
          unfold unR
          rw [HUE.out, he, if_neg (by decide)]
        subst he hl
        have hpos : (rq r k : Int) > 0 := by omega
        clear hs ho hz hle HUE HUL
        go_wp2
        go_ret2
        exact ⟨none, 0, rfl, NewL.nil' HS.out⟩
end Go.Proofs.Ytbckhmpkgokbeaa
