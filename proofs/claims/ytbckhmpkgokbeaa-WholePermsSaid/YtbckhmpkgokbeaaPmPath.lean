/- Permutations: Path of both. -/
import Derived.Test.YtbckhmpkgokbeaaPmIdent
namespace Go.Proofs.Ytbckhmpkgokbeaa
open Go.RowKit Go.Tk

theorem plc_lt (p : List Int) (x : Int) : plc p x < p.length := by
  unfold plc
  split <;> omega
theorem plc_ge (p : List Int) (x : Int) : -1 ≤ plc p x := by unfold plc; split <;> omega
theorem pst_path_le (p q : List Int) : ∀ k, (pst p q k).2.length ≤ k * p.length
  | 0 => by simp [pst]
  | k + 1 => by
    rw [pst, bub_path, Nat.add_mul, Nat.one_mul]
    have := pst_path_le p q k
    have h1 := plc_lt (pst p q k).1 (q.getD k 0)
    rw [pst_len] at h1
    omega
theorem pst_path64 {p q : List Int} {k : Nat} (h : p.length ≤ 64) (hk : k ≤ 64) : (pst p q k).2.length ≤ 4096 := Nat.le_trans (pst_path_le p q k) (Nat.mul_le_mul hk h)
def paL (p q : List Int) : List Int := if both p q = 0 then pathL p q else []

set_option maxHeartbeats 4000000 in
theorem path_any (A B : Option Addr) (n m C D : Nat) (xs ys : List Int) (w : World) (h : IL w A n xs) (h2 : IL w B m ys) (hr : n * 8 ≤ 140737488351232) (hr2 : m * 8 ≤ 140737488351232) :
    Calls Try.prog 11 #[.slice A n C, .slice B m D] w (RetE w (paL xs ys) (both xs ys)) := by
  obtain rfl := h.len
  obtain rfl := h2.len
  obtain ⟨c, hcc⟩ : ∃ c, both xs ys = c := ⟨_, rfl⟩
  have HC := Lib.hid hcc
  have H := Lib.hid h
  have H2 := Lib.hid h2
  by_cases hc : c = 0
  · have hy : paL xs ys = pathL xs ys := by unfold paL; rw [hcc, if_pos hc]
    rw [hy, hcc]
    subst hc
    obtain ⟨hp, hq, hlen, h64⟩ := both_ok hcc
    have hl1 : xs.length ≤ ys.length := by omega
    have hl2 : ys.length ≤ xs.length := by omega
    clear h h2 hcc hp hq hy hlen
    go_enter Try.func11, Try.ntmps11
    go_wp2_with (fail)
    refine (both_any A B _ _ C D xs ys w H.out H2.out hr hr2).mono ?_
    rintro e w1 ⟨rfl, hs1⟩
    rw [HC.out]
    go_wp2_with (fail)
    refine (clone_any A _ C xs w1 (Sl.same H.out hs1) hr).mono ?_
    rintro e w2 ⟨A0, C0, rfl, hO, hF0, hs2⟩
    have hF : Fresh w.heap.size A0 := fun b hb => by have := hF0 b hb; have := hs1.size; omega
    have hs12 : Same w w2 := hs1.trans hs2 (fun _ _ h => h)
    have HO := Lib.hid hO
    have HF0 := Lib.hid hF
    have HS := Lib.hid hs12
    clear hO hF0 hF hs12 hs1 hs2
    go_wp2
    go_loopw [8, 22] (fun s i wr => ∃ (k : Nat) (a b : List Int) (A2 : Option Addr) (C2 : Nat), k ≤ ys.length ∧ i = .int .i64 k ∧ s = .slice A2 b.length C2 ∧ pst xs ys k = (a, b) ∧ a.length = xs.length ∧ Same w wr ∧ Fresh w.heap.size A2 ∧ OwnI wr 3 A0 xs.length C0 a ∧ OwnI wr 3 A2 b.length C2 b ∧ (∀ b, rowOf A0 b → ¬ rowOf A2 b)) (fun _ i _ => ys.length - (intOf i).toNat)
    case atStart => exact ⟨0, xs, [], none, 0, by omega, rfl, rfl, rfl, rfl, HS.out, fresh_none _, HO.out, Own.nil _ _ _ _, fun b _ ⟨a, h, _⟩ => by cases h⟩
    case round =>
      clear HO HS
      obtain ⟨k, a, b, A2, C2, hk, rfl, rfl, hpst, hal, hs, hf, ho, ho2, hd⟩ := hrel
      have HS := Lib.hid hs
      have HR := Lib.hid ho
      have HR2 := Lib.hid ho2
      have HF := Lib.hid hf
      have HD := Lib.hid hd
      have HAL := Lib.hid hal
      have HPST := Lib.hid hpst
      by_cases hlt : k < ys.length
      · have hi1 : (k : Int) < ys.length := by omega
        have hi0 : (0 : Int) ≤ k := by omega
        obtain ⟨y, hy⟩ : ∃ y, ys[k]? = some y := ⟨_, List.getElem?_eq_getElem hlt⟩
        obtain ⟨bb, off, rfl, hbb, hcy⟩ := (Sl.same H2.out hs).at1 hy
        have hnx : bub a b k (plc a y - k).toNat = pst xs ys (k + 1) := by
          rw [pst, hpst]
          simp [List.getD_eq_getElem?_getD, hy]
        have hpl := plc_lt a y
        have hpg := plc_ge a y
        rw [hal] at hpl
        have HNX := Lib.hid hnx
        have hpb := pst_path64 (q := ys) (k := k + 1) h64 (by omega)
        have HPB := Lib.hid hpb
        have HIL := Lib.hid (Own.il ho)
        clear hs ho ho2 hf hd hal hpst hy hnx hpb
        go_wp2_with (fail)
        refine (index_any A0 _ C0 a y _ HIL.out hr).mono ?_
        rintro e w3 ⟨rfl, rfl⟩
        clear hcy
        go_wp2_with (fail)
        generalize plc a y = j0 at *
        go_loopw [8, 11] (fun s jv wv => ∃ (j : Int) (a b : List Int) (A2 : Option Addr) (C2 : Nat), jv = .int .i64 j ∧ s = .slice A2 b.length C2 ∧ -1 ≤ j ∧ j < xs.length ∧ bub a b k (j - k).toNat = pst xs ys (k + 1) ∧ a.length = xs.length ∧ Same w wv ∧ Fresh w.heap.size A2 ∧ OwnI wv 3 A0 xs.length C0 a ∧ OwnI wv 3 A2 b.length C2 b ∧ (∀ b, rowOf A0 b → ¬ rowOf A2 b)) (fun _ jv _ => (intOf jv - k).toNat)
        case atStart => exact ⟨j0, a, b, A2, C2, rfl, rfl, hpg, by omega, HNX.out, HAL.out, HS.out, HF.out, HR.out, HR2.out, HD.out⟩
        case round =>
          clear HNX HAL HS HF HR HR2 HD HPST HIL hpg hpl
          obtain ⟨j, a, b, A2, C2, rfl, rfl, hj0, hj1, hbub, hal, hs, hf, ho, ho2, hd⟩ := hrel
          by_cases hjk : j > k
          · obtain ⟨l, rfl⟩ : ∃ l : Nat, j = (l : Int) + 1 := ⟨(j - 1).toNat, by omega⟩
            have hlk : k ≤ l := by omega
            have hll : l + 1 < xs.length := by omega
            obtain ⟨u, hu⟩ : ∃ u, a[l]? = some u := ⟨_, List.getElem?_eq_getElem (by omega)⟩
            obtain ⟨v, hv⟩ : ∃ v, a[l + 1]? = some v := ⟨_, List.getElem?_eq_getElem (by omega)⟩
            obtain ⟨sb, rfl, hsb, cu⟩ := ho.at1 (c := fun x => .int .i64 x) hu
            obtain ⟨sb', hsb', _, cv⟩ := ho.at1 (c := fun x => .int .i64 x) hv
            injection hsb' with hsb'
            injection hsb' with hsb'
            subst hsb'
            have fu := Own.free ho l
            have fv := Own.free ho (l + 1)
            have hsb0 : w.heap.size ≤ sb := HF0.out sb ⟨_, rfl, rfl⟩
            have hsd : ¬ rowOf A2 sb := hd sb ⟨_, rfl, rfl⟩
            have hb1 : bub (swp a l) (b ++ [(l : Int)]) k (l - k) = pst xs ys (k + 1) := by
              rw [show ((l : Int) + 1 - k).toNat = (l - k) + 1 by omega, bub, show k + (l - k) = l by omega] at hbub
              exact hbub
            have hbl : b.length < 4096 := by
              have h1 := congrArg (fun x => x.2.length) hb1
              simp only [bub_path, List.length_append, List.length_singleton] at h1
              have := HPB.out
              omega
            have HA := Lib.hid hal
            have HR := Lib.hid ho
            have HR2 := Lib.hid ho2
            have HS := Lib.hid hs
            have HF := Lib.hid hf
            have HU := Lib.hid hu
            have HV := Lib.hid hv
            have HB1 := Lib.hid hb1
            clear hbub hal hs hf ho ho2 hd hu hv hb1
            have hw0 : IntKind.i64.wrap ((l : Int) + 1 - 1) = l := by rw [show (l : Int) + 1 - 1 = l by omega]; exact IntWalk.i64_in _ (by omega)
            have hw1 : (0 : Int) ≤ (l : Int) + 1 := by omega
            have hw2 : ((l : Int) + 1).toNat = l + 1 := by omega
            have hw3 : (l : Int) + 1 < xs.length := by omega
            have hw4 : (l : Int) < xs.length := by omega
            have hw5 : (0 : Int) ≤ (l : Int) := by omega
            go_upto_region 12 with fail
            refine wp_world fun wv hwv => ?_
            subst hwv
            go_region
            have h1 := Own.put1 (c := fun x => .int .i64 x) HR.out (i := l) (by rw [HA.out]; omega) v
            have h2 := Own.put1 (c := fun x => .int .i64 x) h1 (i := l + 1) (by rw [List.length_set, HA.out]; omega) u
            rw [← swp_get a l HU.out HV.out] at h2
            have hfar : Frm (fun b => b = sb) wv ((wv.setCell ⟨sb, l, none⟩ (.int .i64 v)).setCell ⟨sb, l + 1, none⟩ (.int .i64 u)).drew := (((Frm.refl (fun b => b = sb) wv).set l (.int .i64 v) rfl).set (l + 1) (.int .i64 u) rfl).drew
            have h3 : OwnI ((wv.setCell ⟨sb, l, none⟩ (.int .i64 v)).setCell ⟨sb, l + 1, none⟩ (.int .i64 u)).drew 3 (some ⟨sb, 0, none⟩) xs.length C0 (swp a l) := Own.frm h2 ((Frm.refl (fun _ => False) _).drew) (fun _ _ => id)
            have h4 := Own.frm HR2.out hfar (fun a ha h => hsd ⟨a, ha, h⟩)
            have hs3 : Same w ((wv.setCell ⟨sb, l, none⟩ (.int .i64 v)).setCell ⟨sb, l + 1, none⟩ (.int .i64 u)).drew := ((HS.out.setNew _ _ hsb0).setNew _ _ hsb0).drew
            generalize ((wv.setCell ⟨sb, l, none⟩ (.int .i64 v)).setCell ⟨sb, l + 1, none⟩ (.int .i64 u)).drew = w3 at h3 h4 hs3 ⊢
            have HO3 := Lib.hid h3
            have HO4 := Lib.hid h4
            have HS3 := Lib.hid hs3
            clear h1 h2 h3 h4 hs3 hfar cu cv fu fv HR HR2 HS
            go_upto_region 13 with fail
            refine wp_read 3 ?_
            simp only [List.take_succ_cons, List.take_zero, List.drop_succ_cons, List.drop_zero]
            repeat (any_goals (first | go_big_quiet_step (fail) | quiet_step (fail)))
            refine wpQuiet_nil ?_
            refine wpList_plain rfl fun K hK => ?_
            go_simp
            refine hK _ _ ?_
            clear hK K
            refine list_world fun wa hwa => ?_
            have hN := Blk.new w3 3 #[.int .i64 (l : Int)]
            have hsa : Same w3 wa := by rw [hwa]; exact (Frm.refl _ _).alloc _
            rw [← hwa] at hN
            clear hwa
            refine Own.append_list (f := icell) rfl (.tmp 51) (.tmp 54) _ rfl Try.underlying22 info_int rfl (by omega) rfl (Own.frm (HO4.out) hsa (fun _ _ => id)) (fun _ => rfl) ((l : Int)) w3.heap.size 1 rfl hN (by simp [Value.oneCell', icell]) (by simp [maxLen]; omega) (by omega) ?_
            intro gg cap wb hOb hgb hat
            have hgs : gg ≠ sb := by
              intro h
              subst h
              rcases hat with h | h
              · exact hsd (ownBlock_row.1 h)
              · have := (HO3.out.block _ rfl)
                have := hsa.size
                simp only at *
                omega
            have hO5 := Own.frm (Own.frm HO3.out hsa (fun _ _ => id)) (Frm.grown (S := fun b => rowOf A2 b) (Frm.refl _ _) hgb (fun g hg => .inl (ownBlock_row.1 hg))) (fun a ha h => by injection ha with ha; subst ha; exact hsd h)
            have HO5 := Lib.hid hO5
            have HOb := Lib.hid hOb
            have HSb := Lib.hid (Same.app (HS3.out) hsa hgb (HF.out))
            have HFb := Lib.hid (fresh_app (HS3.out) hsa (HF.out) hat)
            clear hO5 hOb hgb hat hsa hN
            clear hw0 hw1 hw2 hw3 hw5
            go_wp2
            go_roundw
            case rel => exact ⟨(l : Int), swp a l, b ++ [(l : Int)], some ⟨gg, 0, none⟩, cap, by go_num, by simp, by omega, by omega, by rw [show ((l : Int) - k).toNat = l - k by omega]; exact HB1.out, by rw [swp_len]; exact HA.out, HSb.out, HFb.out, HO5.out, by simpa using HOb.out, fun b ⟨a, ha, h⟩ ⟨a', ha', h'⟩ => by
              injection ha with ha
              injection ha' with ha'
              subst ha ha'
              exact hgs (h'.trans h.symm)⟩
            case measure => simp [intOf]; omega
          · have hjk' : ¬ j > (k : Int) := hjk
            have hfin : (a, b) = pst xs ys (k + 1) := by
              rw [show (j - (k : Int)).toNat = 0 by omega, bub] at hbub
              exact hbub
            have HFIN := Lib.hid hfin
            have HA := Lib.hid hal
            have HR := Lib.hid ho
            have HR2 := Lib.hid ho2
            have HS := Lib.hid hs
            have HF := Lib.hid hf
            have HD := Lib.hid hd
            clear hbub hfin hal hs hf ho ho2 hd hjk
            go_wp2
            go_roundw
            case rel => exact ⟨k + 1, a, b, A2, C2, by omega, by go_num, rfl, HFIN.out.symm, HA.out, HS.out, HF.out, HR.out, HR2.out, HD.out⟩
            case measure => simp [intOf]; omega
      · obtain rfl : k = ys.length := by omega
        clear hs ho ho2 hf hd hal hpst
        go_wp2
        go_ret2
        have hb : pathL xs ys = b := by unfold pathL; rw [HPST.out]
        rw [hb]
        exact ⟨A2, C2, rfl, HR2.out, HF.out, HS.out⟩
  · have hy : paL xs ys = [] := by unfold paL; rw [hcc, if_neg hc]
    rw [hy, hcc]
    have hc' : (c != 0) = true := by simpa using hc
    clear h h2 hcc hc hy
    go_enter Try.func11, Try.ntmps11
    go_wp2_with (fail)
    refine (both_any A B _ _ C D xs ys w H.out H2.out hr hr2).mono ?_
    rintro e w1 ⟨rfl, hs1⟩
    rw [HC.out]
    go_wp2
    go_ret2
    exact ⟨none, 0, rfl, NewL.nil' hs1⟩
end Go.Proofs.Ytbckhmpkgokbeaa
