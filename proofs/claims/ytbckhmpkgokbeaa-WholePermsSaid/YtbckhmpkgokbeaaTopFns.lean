/- Small functions of thickettop: sameList, twin, ahead, order. -/
import Derived.Test.YtbckhmpkgokbeaaPmAll
import Derived.Test.YtbckhmpkgokbeaaPmRkPure
import Derived.Test.YtbckhmpkgokbeaaPmUnrank
namespace Go.Proofs.Ytbckhmpkgokbeaa
open Go.RowKit Go.Tk

set_option maxHeartbeats 1000000 in
theorem sameList_any (A B : Option Addr) (n m C D : Nat) (xs ys : List Int) (w : World) (h : IL w A n xs) (h2 : IL w B m ys) (hr : n * 8 ≤ 140737488351232) (hr2 : m * 8 ≤ 140737488351232) :
    Calls Try.prog 15 #[.slice A n C, .slice B m D] w fun e w' => e = .returned (.bool (decide (xs = ys))) ∧ Same w w' := by
  obtain rfl := h.len
  obtain rfl := h2.len
  have H := Lib.hid h
  have H2 := Lib.hid h2
  clear h h2
  by_cases hl : xs.length = ys.length
  · have hl1 : xs.length ≤ ys.length := by omega
    have hl2 : ys.length ≤ xs.length := by omega
    have hl' : ((xs.length : Int) != (ys.length : Int)) = false := by simp [hl]
    have HL := Lib.hid hl
    clear hl
    go_enter Try.func15, Try.ntmps15
    go_wp2
    go_loopw [5] (fun i wr => ∃ k : Nat, k ≤ xs.length ∧ i = .int .i64 k ∧ xs.take k = ys.take k ∧ Same w wr) (fun i _ => xs.length - (intOf i).toNat)
    case atStart => exact ⟨0, by omega, rfl, rfl, Frm.refl _ _⟩
    case round =>
      obtain ⟨k, hk, rfl, he, hs⟩ := hrel
      by_cases hlt : k < xs.length
      · obtain ⟨x, hx⟩ : ∃ x, xs[k]? = some x := ⟨_, List.getElem?_eq_getElem hlt⟩
        obtain ⟨y, hy⟩ : ∃ y, ys[k]? = some y := ⟨_, List.getElem?_eq_getElem (by omega)⟩
        obtain ⟨b, off, rfl, hb, hc⟩ := (Sl.same H.out hs).at1 hx
        obtain ⟨b2, off2, rfl, hb2, hc2⟩ := (Sl.same H2.out hs).at1 hy
        have hi0 : (0 : Int) ≤ k := by omega
        have hi1 : (k : Int) < xs.length := by omega
        have hi2 : (k : Int) < ys.length := by omega
        have HX := Lib.hid hx
        have HY := Lib.hid hy
        have HE := Lib.hid he
        have HS := Lib.hid hs
        clear hx hy he hs
        by_cases hxy : x = y
        · subst hxy
          go_wp2
          refine wp_quiet (by kernel_rfl) (by kernel_rfl) ?_
          repeat (any_goals (first | go_big_quiet_step (fail) | quiet_step (fail)))
          refine wpQuiet_nil ?_
          rintro _ ⟨q, rfl⟩
          have HS2 := Lib.hid (HS.out.trans (more_same _ q) (fun _ _ h => h))
          go_wp2
          go_roundw
          case rel => exact ⟨k + 1, by omega, by go_num, by rw [take_snoc HX.out, take_snoc HY.out, HE.out], HS2.out⟩
          case measure => simp [intOf]; omega
        · have hne : (x != y) = true := by simpa using hxy
          have hfin : decide (xs = ys) = false := by
            rw [decide_eq_false_iff_not]
            rintro rfl
            exact hxy (Option.some.inj (HX.out.symm.trans HY.out))
          have HFIN := Lib.hid hfin
          clear hxy hfin
          go_wp2
          refine wp_quiet (by kernel_rfl) (by kernel_rfl) ?_
          repeat (any_goals (first | go_big_quiet_step (fail) | quiet_step (fail)))
          refine wpQuiet_nil ?_
          rintro _ ⟨q, rfl⟩
          have HS2 := Lib.hid (HS.out.trans (more_same _ q) (fun _ _ h => h))
          go_wp2
          go_ret
          exact ⟨ret_bool HFIN.out.symm, HS2.out⟩
      · obtain rfl : k = xs.length := by omega
        have hfin : decide (xs = ys) = true := by
          rw [decide_eq_true_iff]
          rw [List.take_of_length_le (Nat.le_refl _), List.take_of_length_le (by omega)] at he
          exact he
        have HFIN := Lib.hid hfin
        clear he hfin
        go_wp2
        go_ret
        exact ⟨ret_bool HFIN.out.symm, hs⟩
  · have hl' : ((xs.length : Int) != (ys.length : Int)) = true := by simp; omega
    have hfin : decide (xs = ys) = false := by
      rw [decide_eq_false_iff_not]
      rintro rfl
      exact hl rfl
    have HFIN := Lib.hid hfin
    clear hl hfin
    go_enter Try.func15, Try.ntmps15
    go_wp2
    go_ret
    exact ⟨ret_bool HFIN.out.symm, Frm.refl _ _⟩

set_option maxHeartbeats 1000000 in
theorem ttwin_any (A : Option Addr) (n C : Nat) (xs : List Int) (w : World) (h : IL w A n xs) (hr : n * 8 ≤ 140737488351232) :
    Calls Try.prog 12 #[.slice A n C] w (RetL w xs) := by
  obtain rfl := h.len
  have H := Lib.hid h
  clear h
  go_enter Try.func12, Try.ntmps12
  go_wp2
  go_loopw [3, 4] (fun s i wr => ∃ (k : Nat) (A2 : Option Addr) (C2 : Nat), k ≤ xs.length ∧ i = .int .i64 k ∧ s = .slice A2 k C2 ∧ Same w wr ∧ Fresh w.heap.size A2 ∧ OwnI wr 3 A2 k C2 (xs.take k)) (fun _ i _ => xs.length - (intOf i).toNat)
  case atStart => exact ⟨0, none, 0, by omega, rfl, rfl, Frm.refl _ _, fresh_none _, Own.nil _ _ _ _⟩
  case round =>
    obtain ⟨k, A2, C2, hk, rfl, rfl, hs, hf, ho⟩ := hrel
    have HR := Lib.hid ho
    have HF := Lib.hid hf
    have HS := Lib.hid hs
    have hlk : (xs.take k).length = k := by rw [List.length_take]; omega
    have HLK := Lib.hid hlk
    by_cases hlt : k < xs.length
    · obtain ⟨x, hx⟩ : ∃ x, xs[k]? = some x := ⟨_, List.getElem?_eq_getElem hlt⟩
      obtain ⟨b, off, rfl, hb, hc⟩ := (Sl.same H.out hs).at1 hx
      have hi1 : (k : Int) < xs.length := by omega
      have hi0 : (0 : Int) ≤ k := by omega
      have hnx := take_snoc hx
      have HNX := Lib.hid hnx
      clear hs ho hf hlk hnx hx
      go_upto_region 5 with fail
      refine wp_read 5 ?_
      simp only [List.take_succ_cons, List.take_zero, List.drop_succ_cons, List.drop_zero]
      repeat (any_goals (first | go_big_quiet_step (fail) | quiet_step (fail)))
      refine wpQuiet_nil ?_
      refine wpList_plain rfl fun K hK => ?_
      go_simp
      refine hK _ _ ?_
      clear hK K
      refine list_world fun wa hwa => ?_
      have hN := Blk.new wr 3 #[.int .i64 x]
      have hsa : Same wr wa := by rw [hwa]; exact (Frm.refl _ _).alloc _
      rw [← hwa] at hN
      clear hwa
      refine Own.append_list (f := icell) rfl (.tmp 11) (.tmp 16) _ rfl Try.underlying22 info_int rfl (by omega) rfl ((HR.out).frm hsa (fun _ _ => id)) (fun _ => rfl) (x) wr.heap.size 1 rfl hN (by simp [Value.oneCell', icell]) (by rw [HLK.out]; simp [maxLen]; omega) (by rw [HLK.out]; omega) ?_
      intro gg cap wb hOb hgb hat
      have HOb := Lib.hid hOb
      have HSb := Lib.hid (Same.app (HS.out) hsa hgb (HF.out))
      have HFb := Lib.hid (fresh_app (HS.out) hsa (HF.out) hat)
      clear hOb hgb hat hsa hN
      clear hc hb
      go_wp2
      go_roundw
      case rel => exact ⟨k + 1, _, cap, by omega, by go_num, rfl, HSb.out, HFb.out, by rw [HNX.out]; exact HOb.out⟩
      case measure => simp [intOf]; omega
    · obtain rfl : k = xs.length := by omega
      have ho2 := HR.out
      rw [List.take_length] at ho2
      have HO2 := Lib.hid ho2
      clear hs ho hf hlk ho2 HR
      go_wp2
      go_ret
      exact ⟨A2, C2, rfl, HO2.out, HF.out, HS.out⟩
/-- the first difference tells -/
def lexLt : List Int → List Int → Bool
  | x :: xs, y :: ys => if x = y then lexLt xs ys else decide (x < y)
  | _, _ => false
theorem lexLt_at : ∀ {xs ys : List Int} {k : Nat} {x y : Int}, xs.take k = ys.take k → xs[k]? = some x → ys[k]? = some y → x ≠ y → lexLt xs ys = decide (x < y)
  | [], _, _, _, _, _, h, _, _ => by simp at h
  | _ :: _, [], _, _, _, _, _, h, _ => by simp at h
  | a :: xs, b :: ys, 0, x, y, _, hx, hy, hne => by
    simp only [List.getElem?_cons_zero, Option.some.injEq] at hx hy
    subst hx hy
    rw [lexLt, if_neg hne]
  | a :: xs, b :: ys, k + 1, x, y, he, hx, hy, hne => by
    simp only [List.take_succ_cons, List.cons.injEq] at he
    simp only [List.getElem?_cons_succ] at hx hy
    rw [lexLt, if_pos he.1]
    exact lexLt_at he.2 hx hy hne
theorem lexLt_same : ∀ (xs : List Int), lexLt xs xs = false
  | [] => rfl
  | x :: xs => by rw [lexLt, if_pos rfl, lexLt_same xs]
theorem lexLt_rk {p q : List Int} (hp : p.Perm q) : lexLt p q = decide (rk p < rk q) := by
  by_cases hpq : p = q
  · subst hpq; rw [lexLt_same]; simp
  · obtain ⟨k, x, y, h1, h2, h3, h4⟩ := first_diff hp.length_eq hpq
    rw [lexLt_at h1 h2 h3 h4, decide_eq_decide]
    rcases Int.lt_or_gt_of_ne h4 with h5 | h5
    · have := rk_first hp h1 h2 h3 h5; exact ⟨fun _ => this, fun _ => h5⟩
    · have := rk_first hp.symm h1.symm h3 h2 h5; exact ⟨fun h => by omega, fun h => by omega⟩
set_option maxHeartbeats 1000000 in
theorem ahead_any (A B : Option Addr) (n C D : Nat) (xs ys : List Int) (w : World) (h : IL w A n xs) (h2 : IL w B n ys) (hr : n * 8 ≤ 140737488351232) :
    Calls Try.prog 17 #[.slice A n C, .slice B n D] w fun e w' => e = .returned (.bool (lexLt xs ys)) ∧ Same w w' := by
  obtain rfl := h.len
  have hl1 : xs.length ≤ ys.length := by have := h2.len; omega
  have hl2 : ys.length ≤ xs.length := by have := h2.len; omega
  have H := Lib.hid h
  have H2 := Lib.hid h2
  clear h h2
  go_enter Try.func17, Try.ntmps17
  go_wp2
  go_loopw [5] (fun i wr => ∃ k : Nat, k ≤ xs.length ∧ i = .int .i64 k ∧ xs.take k = ys.take k ∧ Same w wr) (fun i _ => xs.length - (intOf i).toNat)
  case atStart => exact ⟨0, by omega, rfl, rfl, Frm.refl _ _⟩
  case round =>
    obtain ⟨k, hk, rfl, he, hs⟩ := hrel
    by_cases hlt : k < xs.length
    · obtain ⟨x, hx⟩ : ∃ x, xs[k]? = some x := ⟨_, List.getElem?_eq_getElem hlt⟩
      obtain ⟨y, hy⟩ : ∃ y, ys[k]? = some y := ⟨_, List.getElem?_eq_getElem (by omega)⟩
      obtain ⟨b, off, rfl, hb, hc⟩ := (Sl.same H.out hs).at1 hx
      obtain ⟨b2, off2, rfl, hb2, hc2⟩ := (Sl.same H2.out hs).at1 hy
      have hi0 : (0 : Int) ≤ k := by omega
      have hi1 : (k : Int) < xs.length := by omega
      have HX := Lib.hid hx
      have HY := Lib.hid hy
      have HE := Lib.hid he
      have HS := Lib.hid hs
      clear hx hy he hs
      by_cases hxy : x = y
      · subst hxy
        go_wp2
        refine wp_quiet (by kernel_rfl) (by kernel_rfl) ?_
        repeat (any_goals (first | go_big_quiet_step (fail) | quiet_step (fail)))
        refine wpQuiet_nil ?_
        rintro _ ⟨q, rfl⟩
        have HS2 := Lib.hid (HS.out.trans (more_same _ q) (fun _ _ h => h))
        go_wp2
        go_roundw
        case rel => exact ⟨k + 1, by omega, by go_num, by rw [take_snoc HX.out, take_snoc HY.out, HE.out], HS2.out⟩
        case measure => simp [intOf]; omega
      · have hne : (x != y) = true := by simpa using hxy
        have HFIN := Lib.hid (lexLt_at HE.out HX.out HY.out hxy)
        clear hxy
        go_upto_region 5 with fail
        refine wp_quiet (by kernel_rfl) (by kernel_rfl) ?_
        repeat (any_goals (first | go_big_quiet_step (fail) | quiet_step (fail)))
        refine wpQuiet_nil ?_
        rintro wz ⟨q, hq⟩
        have hsq : Same wr wz := by rw [hq]; exact more_same _ q
        have HS2 := Lib.hid (HS.out.trans hsq (fun _ _ h => h))
        have hcz := (hsq.cell (p := ⟨b, off + k, none⟩) hb id).trans hc
        have hcz2 := (hsq.cell (p := ⟨b2, off2 + k, none⟩) hb2 id).trans hc2
        have hbz : b < wz.heap.size := by have := hsq.size; omega
        have hbz2 : b2 < wz.heap.size := by have := hsq.size; omega
        clear hq hsq hc hc2 hb hb2
        go_upto_region 6 with fail
        refine wp_quiet (by kernel_rfl) (by kernel_rfl) ?_
        repeat (any_goals (first | go_big_quiet_step (fail) | quiet_step (fail)))
        refine wpQuiet_nil ?_
        rintro _ ⟨q2, rfl⟩
        have HS3 := Lib.hid (HS2.out.trans (more_same _ q2) (fun _ _ h => h))
        go_wp2
        go_ret
        exact ⟨ret_bool HFIN.out.symm, HS3.out⟩
    · obtain rfl : k = xs.length := by omega
      have hfin : lexLt xs ys = false := by
        rw [List.take_of_length_le (Nat.le_refl _), List.take_of_length_le (by omega)] at he
        subst he
        exact lexLt_same _
      have HFIN := Lib.hid hfin
      clear he hfin
      go_wp2
      go_ret
      exact ⟨ret_bool HFIN.out.symm, hs⟩
end Go.Proofs.Ytbckhmpkgokbeaa
