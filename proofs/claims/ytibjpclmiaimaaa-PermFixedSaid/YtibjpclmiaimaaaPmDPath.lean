/- Permutations: the reference's DocPath. -/
import Derived.Test.YtibjpclmiaimaaaPmPath
namespace Go.Tk
theorem Sl.frm {w w' : World} {S : Nat → Prop} {m : Nat} {α : Type} {f : α → List Value} {A : Option Addr} {n : Nat} {xs : List α} (h : Sl w m f A n xs) (hf : Frm S w w') (hs : 0 < xs.length → ∀ b, rowOf A b → ¬ S b) : Sl w' m f A n xs :=
  ⟨h.len, fun i x hi => by
    obtain ⟨b, off, h1, h2, h3⟩ := h.get i x hi
    have hl := lt_of_get hi
    exact ⟨b, off, h1, Nat.lt_of_lt_of_le h2 hf.size, fun j hj => by rw [← h3 j hj]; exact hf.cell (p := ⟨b, _, none⟩) h2 (hs (by omega) b ⟨_, h1, rfl⟩)⟩⟩
theorem Sl.row {w : World} {m : Nat} {α : Type} {f : α → List Value} {A : Option Addr} {n : Nat} {xs : List α} (h : Sl w m f A n xs) (h0 : 0 < xs.length) : ∀ b, rowOf A b → b < w.heap.size := by
  rintro b ⟨a, ha, rfl⟩
  obtain ⟨b, off, h1, h2, h3⟩ := h.get 0 _ (List.getElem?_eq_getElem h0)
  rw [h1] at ha
  injection ha with ha
  subst ha
  exact h2
end Go.Tk
namespace Go.Proofs.Ytibjpclmiaimaaa
open Go.RowKit Go.Tk

set_option maxHeartbeats 4000000 in
theorem docPath_any (A B : Option Addr) (n m C D : Nat) (xs ys : List Int) (w : World) (h : IL w A n xs) (h2 : IL w B m ys) (hr : n * 8 ≤ 140737488351232) (hr2 : m * 8 ≤ 140737488351232) :
    Calls Try.prog 16 #[.slice A n C, .slice B m D] w (RetE w (paL xs ys) (both xs ys)) := by
  obtain rfl := h.len
  obtain rfl := h2.len
  obtain ⟨c, hcc⟩ : ∃ c, both xs ys = c := ⟨_, rfl⟩
  have HC := Lib.hid hcc
  have H := Lib.hid h
  have H2 := Lib.hid h2
  by_cases hc : c = 0
  · have hy : paL xs ys = pathL xs ys := by unfold paL; rw [hcc, if_pos hc]
    rw [hy, hcc]
    subst hc
    obtain ⟨hp, hq, hlen, h64⟩ := both_ok hcc
    have hl1 : xs.length ≤ ys.length := by omega
    have hl2 : ys.length ≤ xs.length := by omega
    clear h h2 hcc hp hq hy hlen
    go_enter Try.func16, Try.ntmps16
    go_wp2_with (fail)
    refine (worse_any A B _ _ C D xs ys w H.out H2.out hr hr2).mono ?_
    rintro e w1 ⟨rfl, rfl⟩
    rw [HC.out]
    go_wp2
    go_loopw [0, 7, 8] (fun ps s i wr => ∃ (k : Nat) (a b : List Int) (A1 : Option Addr) (C1 : Nat) (A2 : Option Addr) (C2 : Nat), k ≤ ys.length ∧ i = .int .i64 k ∧ ps = .slice A1 xs.length C1 ∧ s = .slice A2 b.length C2 ∧ pst xs ys k = (a, b) ∧ a.length = xs.length ∧ Same w wr ∧ Fresh w.heap.size A2 ∧ IL wr A1 xs.length a ∧ OwnI wr 3 A2 b.length C2 b ∧ (0 < xs.length → ∀ b, rowOf A1 b → ¬ rowOf A2 b)) (fun _ _ i _ => ys.length - (intOf i).toNat)
    case atStart => exact ⟨0, xs, [], A, C, none, 0, by omega, rfl, rfl, rfl, rfl, rfl, Frm.refl _ _, fresh_none _, H.out, Own.nil _ _ _ _, fun _ b _ ⟨a, h, _⟩ => by cases h⟩
    case round =>
      obtain ⟨k, a, b, A1, C1, A2, C2, hk, rfl, rfl, rfl, hpst, hal, hs, hf, ho, ho2, hd⟩ := hrel
      have HS := Lib.hid hs
      have HR := Lib.hid ho
      have HR2 := Lib.hid ho2
      have HF := Lib.hid hf
      have HD := Lib.hid hd
      have HAL := Lib.hid hal
      have HPST := Lib.hid hpst
      by_cases hlt : k < ys.length
      · have hi1 : (k : Int) < ys.length := by omega
        have hi0 : (0 : Int) ≤ k := by omega
        obtain ⟨y, hy⟩ : ∃ y, ys[k]? = some y := ⟨_, List.getElem?_eq_getElem hlt⟩
        obtain ⟨bb, off, rfl, hbb, hcy⟩ := (Sl.same H2.out hs).at1 hy
        have hnx : bub a b k (plc a y - k).toNat = pst xs ys (k + 1) := by
          rw [pst, hpst]
          simp [List.getD_eq_getElem?_getD, hy]
        have hpl := plc_lt a y
        have hpg := plc_ge a y
        rw [hal] at hpl
        have HNX := Lib.hid hnx
        have hpb := pst_path64 (q := ys) (k := k + 1) h64 (by omega)
        have HPB := Lib.hid hpb
        clear hs ho ho2 hf hd hal hpst hy hnx hpb
        go_wp2_with (fail)
        refine (place_any A1 _ C1 a y _ HR.out hr).mono ?_
        rintro e w3 ⟨rfl, rfl⟩
        clear hcy
        go_wp2_with (fail)
        generalize plc a y = j0 at *
        go_loopw [0, 7, 9] (fun ps s jv wv => ∃ (j : Int) (a b : List Int) (A1 : Option Addr) (C1 : Nat) (A2 : Option Addr) (C2 : Nat), jv = .int .i64 j ∧ ps = .slice A1 xs.length C1 ∧ s = .slice A2 b.length C2 ∧ -1 ≤ j ∧ j < xs.length ∧ bub a b k (j - k).toNat = pst xs ys (k + 1) ∧ a.length = xs.length ∧ Same w wv ∧ Fresh w.heap.size A2 ∧ IL wv A1 xs.length a ∧ OwnI wv 3 A2 b.length C2 b ∧ (0 < xs.length → ∀ b, rowOf A1 b → ¬ rowOf A2 b)) (fun _ _ jv _ => (intOf jv - k).toNat)
        case atStart => exact ⟨j0, a, b, A1, C1, A2, C2, rfl, rfl, rfl, hpg, by omega, HNX.out, HAL.out, HS.out, HF.out, HR.out, HR2.out, HD.out⟩
        case round =>
          clear HNX HAL HS HF HR HR2 HD HPST hpg hpl
          obtain ⟨j, a, b, A1, C1, A2, C2, rfl, rfl, rfl, hj0, hj1, hbub, hal, hs, hf, ho, ho2, hd⟩ := hrel
          by_cases hjk : j > k
          · obtain ⟨l, rfl⟩ : ∃ l : Nat, j = (l : Int) + 1 := ⟨(j - 1).toNat, by omega⟩
            have hlk : k ≤ l := by omega
            have hll : l + 2 ≤ xs.length := by omega
            have hb1 : bub (swp a l) (b ++ [(l : Int)]) k (l - k) = pst xs ys (k + 1) := by
              rw [show ((l : Int) + 1 - k).toNat = (l - k) + 1 by omega, bub, show k + (l - k) = l by omega] at hbub
              exact hbub
            have hbl : b.length < 4096 := by
              have h1 := congrArg (fun x => x.2.length) hb1
              simp only [bub_path, List.length_append, List.length_singleton] at h1
              have := HPB.out
              omega
            have HA := Lib.hid hal
            have HR := Lib.hid ho
            have HR2 := Lib.hid ho2
            have HS := Lib.hid hs
            have HF := Lib.hid hf
            have HB1 := Lib.hid hb1
            clear hbub hal hs hf ho ho2 hd hb1
            have hw0 : (l : Int) + 1 - 1 = l := by omega
            go_wp2_with (fail)
            refine call_world fun wv hwv => ?_
            subst hwv
            refine (turned_any A1 _ C1 a l wv HR.out hr hll).mono ?_
            rintro e w3 ⟨A1', C1', rfl, hO3, hF3, hs3⟩
            rw [swp_len, HA.out] at hO3 ⊢
            have hO4 := Own.frm HR2.out hs3 (fun _ _ => id)
            have hs3' : Same w w3 := HS.out.trans hs3 (fun _ _ h => h)
            have hdj : ∀ b, rowOf A1' b → ¬ rowOf A2 b ∧ b < w3.heap.size := fun b hb => ⟨fun ⟨a, ha, h⟩ => by
              have := HR2.out.block a ha
              have := hF3 b hb
              omega, by obtain ⟨a, ha, rfl⟩ := hb; exact hO3.block a ha⟩
            have HO3 := Lib.hid hO3
            have HO4 := Lib.hid hO4
            have HS3 := Lib.hid hs3'
            have HDJ := Lib.hid hdj
            clear hO3 hF3 hs3 hO4 hs3' hdj HR HR2 HS hw0
            have hw0 : IntKind.i64.wrap ((l : Int) + 1 - 1) = l := by rw [show (l : Int) + 1 - 1 = l by omega]; exact IntWalk.i64_in _ (by omega)
            go_upto_region 12 with fail
            refine wp_read 3 ?_
            simp only [List.take_succ_cons, List.take_zero, List.drop_succ_cons, List.drop_zero]
            repeat (any_goals (first | go_big_quiet_step (fail) | quiet_step (fail)))
            refine wpQuiet_nil ?_
            refine wpList_plain rfl fun K hK => ?_
            go_simp
            refine hK _ _ ?_
            clear hK K
            refine list_world fun wa hwa => ?_
            have hN := Blk.new w3 3 #[.int .i64 (l : Int)]
            have hsa : Same w3 wa := by rw [hwa]; exact (Frm.refl _ _).alloc _
            rw [← hwa] at hN
            clear hwa
            refine Own.append_list (f := icell) rfl (.tmp 37) (.tmp 40) _ rfl Try.underlying22 info_int rfl (by omega) rfl (Own.frm (HO4.out) hsa (fun _ _ => id)) (fun _ => rfl) ((l : Int)) w3.heap.size 1 rfl hN (by simp [Value.oneCell', icell]) (by simp [maxLen]; omega) (by omega) ?_
            intro gg cap wb hOb hgb hat
            have hgs : ∀ b, rowOf A1' b → ¬ rowOf (some ⟨gg, 0, none⟩) b := by
              rintro b hb ⟨a, ha, h⟩
              injection ha with ha
              subst ha
              simp only at h
              subst h
              have h5 := HDJ.out gg hb
              have h6 := hsa.size
              rcases hat with h | h
              · exact h5.1 (ownBlock_row.1 h)
              · omega
            have hO5 := Own.frm (Own.frm HO3.out hsa (fun _ _ => id)) (Frm.grown (S := fun b => rowOf A2 b) (Frm.refl _ _) hgb (fun g hg => .inl (ownBlock_row.1 hg))) (fun a ha h => (HDJ.out _ ⟨a, ha, rfl⟩).1 h)
            have HO5 := Lib.hid hO5
            have HOb := Lib.hid hOb
            have HSb := Lib.hid (Same.app (HS3.out) hsa hgb (HF.out))
            have HFb := Lib.hid (fresh_app (HS3.out) hsa (HF.out) hat)
            clear hO5 hOb hgb hat hsa hN
            clear hw0
            go_wp2
            go_roundw
            case rel => exact ⟨(l : Int), swp a l, b ++ [(l : Int)], A1', C1', some ⟨gg, 0, none⟩, cap, by go_num, rfl, by simp, by omega, by omega, by rw [show ((l : Int) - k).toNat = l - k by omega]; exact HB1.out, by rw [swp_len]; exact HA.out, HSb.out, HFb.out, Own.il HO5.out, by simpa using HOb.out, fun _ => hgs⟩
            case measure => simp [intOf]; omega
          · have hjk' : ¬ j > (k : Int) := hjk
            have hfin : (a, b) = pst xs ys (k + 1) := by
              rw [show (j - (k : Int)).toNat = 0 by omega, bub] at hbub
              exact hbub
            have HFIN := Lib.hid hfin
            have HA := Lib.hid hal
            have HR := Lib.hid ho
            have HR2 := Lib.hid ho2
            have HS := Lib.hid hs
            have HF := Lib.hid hf
            have HD := Lib.hid hd
            clear hbub hfin hal hs hf ho ho2 hd hjk
            go_wp2
            go_roundw
            case rel => exact ⟨k + 1, a, b, A1, C1, A2, C2, by omega, by go_num, rfl, rfl, HFIN.out.symm, HA.out, HS.out, HF.out, HR.out, HR2.out, HD.out⟩
            case measure => simp [intOf]; omega
      · obtain rfl : k = ys.length := by omega
        clear hs ho ho2 hf hd hal hpst
        go_wp2
        go_ret2
        have hb : pathL xs ys = b := by unfold pathL; rw [HPST.out]
        rw [hb]
        exact ⟨A2, C2, rfl, HR2.out, HF.out, HS.out⟩
  · have hy : paL xs ys = [] := by unfold paL; rw [hcc, if_neg hc]
    rw [hy, hcc]
    have hc' : (c != 0) = true := by simpa using hc
    clear h h2 hcc hc hy
    go_enter Try.func16, Try.ntmps16
    go_wp2_with (fail)
    refine (worse_any A B _ _ C D xs ys w H.out H2.out hr hr2).mono ?_
    rintro e w1 ⟨rfl, rfl⟩
    rw [HC.out]
    go_wp2
    go_ret2
    exact ⟨none, 0, rfl, NewL.nil w⟩
end Go.Proofs.Ytibjpclmiaimaaa
