/- Two arenas know nothing of one another: the walk. -/
import Derived.Test.YtkajgopkdolhcaaArLaws
namespace Go.Proofs.Ytkajgopkdolhcaa
open Go.RowKit Go.Tk

structure Pr (w : World) (W bb bb' : Nat) (pl : Int) (K K' : Nat) (S T : Nat → Prop) : Prop where
  one : Bk w bb pl K S
  two : Bk w bb' pl K' T
  dis : ∀ b, S b → ¬ T b
  low : ∀ b, S b → W ≤ b
  low' : ∀ b, T b → W ≤ b
theorem Pr.swap {w : World} {W bb bb' : Nat} {pl : Int} {K K' : Nat} {S T : Nat → Prop} (h : Pr w W bb bb' pl K K' S T) : Pr w W bb' bb pl K' K T S := ⟨h.two, h.one, fun b h1 h2 => h.dis b h2 h1, h.low', h.low⟩
theorem Pr.same {w w' : World} {W bb bb' : Nat} {pl : Int} {K K' : Nat} {S T : Nat → Prop} (h : Pr w W bb bb' pl K K' S T) (hs : Same w w') : Pr w' W bb bb' pl K K' S T :=
  ⟨h.one.frm hs (fun _ _ => id), h.two.frm hs (fun _ _ => id), h.dis, h.low, h.low'⟩
theorem Pr.mono {w : World} {W bb bb' : Nat} {pl : Int} {K K' L L' : Nat} {S T : Nat → Prop} (h : Pr w W bb bb' pl K K' S T) (hk : K ≤ L) (hk' : K' ≤ L') : Pr w W bb bb' pl L L' S T := ⟨h.one.mono hk, h.two.mono hk', h.dis, h.low, h.low'⟩
theorem Pr.step {w w' : World} {W bb bb' : Nat} {pl : Int} {K K' L : Nat} {S S' T : Nat → Prop} (h : Pr w W bb bb' pl K K' S T) (hW : W ≤ w.heap.size) (hB : Bk w' bb pl L S') (hs : Stp S w w' S') :
    Pr w' W bb bb' pl L K' S' T := by
  refine ⟨hB, h.two.frm hs.frm (fun b h1 h2 => h.dis b h2 h1), fun b h1 h2 => ?_, fun b hb => ?_, h.low'⟩
  · rcases hs.new b h1 with h3 | h3
    · exact h.dis b h3 h2
    · have := h.two.lt b h2; omega
  · rcases hs.new b hb with h3 | h3
    · exact h.low b h3
    · omega
theorem Pr.below {w w' : World} {W bb bb' : Nat} {pl : Int} {K K' : Nat} {S S' T : Nat → Prop} (h : Pr w W bb bb' pl K K' S T) (hW : W ≤ w.heap.size) (hf : Stp S w w' S') : Below W w w' := hf.frm.to_below hW (fun i hi hs => by have := h.low i hs; omega)

set_option maxRecDepth 100000 in
set_option maxHeartbeats 4000000 in
theorem two_walk (p : Int) (A1 A2 : Option Addr) (n1 n2 c1 c2 : Nat) (xs ys : List AOp) (w : World) (hx : Sl w 7 AOp.cells A1 n1 xs) (hy : Sl w 7 AOp.cells A2 n2 ys) (hr1 : n1 * 56 ≤ 140737488351232) (hr2 : n2 * 56 ≤ 140737488351232) :
    Calls Try.prog 5 #[.int .i64 p, .slice A1 n1 c1, .slice A2 n2 c2] w fun e w' => e = .returned (.bool true) ∧ Below w.heap.size w w' := by
  obtain rfl := hx.len
  obtain rfl := hy.len
  have HX := Lib.hid hx
  have HY := Lib.hid hy
  clear hx hy
  go_enter Try.func5, Try.ntmps5
  go_wp2_with (fail)
  by_cases hp : p < 2 ∨ 1048576 < p
  · refine (fresh_bad p w hp).mono ?_
    rintro e w1 ⟨rfl, rfl⟩
    go_wp2_with (fail)
    refine (fresh_bad p w (by omega)).mono ?_
    rintro e w1 ⟨rfl, rfl⟩
    clear hp
    go_wp2_with (fail)
    refine (awake_any w).mono ?_
    rintro e w2 ⟨rfl, hs2⟩
    go_wp2_with (fail)
    refine (awake_any w2).mono ?_
    rintro e w3 ⟨rfl, hs3⟩
    have HS3 := Lib.hid (hs2.trans hs3 (fun _ _ h => h))
    go_wp2
    go_ret
    exact ⟨rfl, HS3.out.to_below (Nat.le_refl _) (fun _ _ => id)⟩
  · refine (fresh_ok p w (by omega) (by omega)).mono ?_
    rintro e w1 ⟨bb, S0, rfl, hB1, hs1, hS0⟩
    go_wp2_with (fail)
    refine (fresh_ok p w1 (by omega) (by omega)).mono ?_
    rintro e w2 ⟨bb', T0, rfl, hB2, hs2, hT0⟩
    clear hp
    have hP : Pr w2 w.heap.size bb bb' p 0 0 S0 T0 := ⟨hB1.frm hs2 (fun _ _ => id), hB2, fun b h1 h2 => by have := hB1.lt b h1; have := hT0 b h2; omega, hS0, fun b hb => by have := hs1.size; have := hT0 b hb; omega⟩
    have hsw : Same w w2 := hs1.trans hs2 (fun _ _ h => h)
    clear hB1 hB2 hs1 hs2 hS0 hT0
    go_wp2_with (fail)
    refine (awake_any w2).mono ?_
    rintro e w3 ⟨rfl, hs3⟩
    have hP0 := hP.same hs3
    have hb0 : Below w.heap.size w w3 := (hsw.trans hs3 (fun _ _ h => h)).to_below (Nat.le_refl _) (fun _ _ => id)
    clear hP hsw hs3
    go_wp2_with (fail)
    go_loopw [11] (fun i wr => ∃ (m : Nat) (S T : Nat → Prop), m ≤ 300 ∧ i = .int .i64 m ∧ Pr wr w.heap.size bb bb' p m m S T ∧ Below w.heap.size w wr) (fun i _ => 300 - (intOf i).toNat)
    case atStart => exact ⟨0, _, _, by omega, rfl, hP0, hb0⟩
    case round =>
      clear hP0 hb0
      obtain ⟨m, S, T, hm, rfl, hP, hbr⟩ := hrel
      by_cases h3 : m < 300 ∧ (m < xs.length ∨ m < ys.length)
      · have hi3 : (m : Int) < 300 := by omega
        have h4 := h3.2
        clear h3
        by_cases h1 : m < xs.length
        · obtain ⟨o, ho⟩ : ∃ o, xs[m]? = some o := ⟨_, List.getElem?_eq_getElem h1⟩
          obtain ⟨sb, off, rfl, hsb, l0, l1, l2, l3, l4, l5, l6⟩ := aop_cells (HX.out.later hbr) ho
          have hi0 : (0 : Int) ≤ m := by omega
          have hi1 : (m : Int) < xs.length := by omega
          have HP := Lib.hid hP
          have HBL := Lib.hid hbr
          clear hP hbr ho h4
          have hcall := one_any o HP.out.one (by omega)
          unfold AOp.val at hcall
          have HC := Lib.hid hcall
          clear hcall
          by_cases h2 : m < ys.length
          · obtain ⟨o2, ho2⟩ : ∃ o, ys[m]? = some o := ⟨_, List.getElem?_eq_getElem h2⟩
            have hi2 : (m : Int) < ys.length := by omega
            have HO2 := Lib.hid ho2
            clear ho2
            go_wp2_with (fail)
            clear l0 l1 l2 l3 l4 l5 l6
            refine HC.out.mono ?_
            rintro e v2 ⟨rfl, S2, hB2, hst⟩
            have HP2 := Lib.hid (HP.out.step HBL.out.size hB2 hst)
            have HBL2 := Lib.hid (HBL.out.trans (HP.out.below HBL.out.size hst))
            clear hB2 hst HP HBL HC
            obtain ⟨sb2, off2, rfl, hsb2, l0, l1, l2, l3, l4, l5, l6⟩ := aop_cells (HY.out.later HBL2.out) HO2.out
            have hcall := one_any o2 HP2.out.two (by omega)
            unfold AOp.val at hcall
            have HC := Lib.hid hcall
            clear hcall
            go_wp2_with (fail)
            clear l0 l1 l2 l3 l4 l5 l6
            refine HC.out.mono ?_
            rintro e v3 ⟨rfl, T2, hB3, hst⟩
            have HP3 := Lib.hid ((HP2.out.swap.step HBL2.out.size hB3 hst).swap)
            have HBL3 := Lib.hid (HBL2.out.trans (HP2.out.swap.below HBL2.out.size hst))
            clear hB3 hst HP2 HBL2 HC
            go_wp2
            go_roundw
            case rel => exact ⟨m + 1, S2, T2, by omega, by go_num, HP3.out, HBL3.out⟩
            case measure => simp [intOf]; omega
          · have hi2 : decide ((m : Int) < (ys.length : Int)) = false := by simp; omega
            go_wp2_with (fail)
            clear l0 l1 l2 l3 l4 l5 l6
            refine HC.out.mono ?_
            rintro e v2 ⟨rfl, S2, hB2, hst⟩
            have HP2 := Lib.hid ((HP.out.step HBL.out.size hB2 hst).mono (L := m + 1) (L' := m + 1) (by omega) (by omega))
            have HBL2 := Lib.hid (HBL.out.trans (HP.out.below HBL.out.size hst))
            clear hB2 hst HP HBL HC
            go_wp2
            go_roundw
            case rel => exact ⟨m + 1, S2, T, by omega, by go_num, HP2.out, HBL2.out⟩
            case measure => simp [intOf]; omega
        · have hi1 : decide ((m : Int) < (xs.length : Int)) = false := by simp; omega
          have h2 : m < ys.length := by omega
          obtain ⟨o2, ho2⟩ : ∃ o, ys[m]? = some o := ⟨_, List.getElem?_eq_getElem h2⟩
          obtain ⟨sb2, off2, rfl, hsb2, l0, l1, l2, l3, l4, l5, l6⟩ := aop_cells (HY.out.later hbr) ho2
          have hi0 : (0 : Int) ≤ m := by omega
          have hi2 : (m : Int) < ys.length := by omega
          have HP := Lib.hid hP
          have HBL := Lib.hid hbr
          clear hP hbr ho2 h4
          have hcall := one_any o2 HP.out.two (by omega)
          unfold AOp.val at hcall
          have HC := Lib.hid hcall
          clear hcall
          go_wp2_with (fail)
          clear l0 l1 l2 l3 l4 l5 l6
          refine HC.out.mono ?_
          rintro e v3 ⟨rfl, T2, hB3, hst⟩
          have HP3 := Lib.hid (((HP.out.swap.step HBL.out.size hB3 hst).swap).mono (L := m + 1) (L' := m + 1) (by omega) (by omega))
          have HBL3 := Lib.hid (HBL.out.trans (HP.out.swap.below HBL.out.size hst))
          clear hB3 hst HP HBL HC
          go_wp2
          go_roundw
          case rel => exact ⟨m + 1, S, T2, by omega, by go_num, HP3.out, HBL3.out⟩
          case measure => simp [intOf]; omega
      · have HP := Lib.hid hP
        have HBL := Lib.hid hbr
        clear hP hbr
        by_cases hm3 : m < 300
        · have hi1 : ¬ (m : Int) < xs.length := by omega
          have hi2 : ¬ (m : Int) < ys.length := by omega
          have hi3 : (m : Int) < 300 := by omega
          clear h3
          go_wp2_with (fail)
          refine (HP.out.one.looks (by omega)).mono ?_
          rintro e v1 ⟨rfl, ha⟩
          go_wp2_with (fail)
          refine ((HP.out.two.frm ha (fun _ _ => id)).looks (by omega)).mono ?_
          rintro e v2 ⟨rfl, ha2⟩
          have HB2 := Lib.hid (HBL.out.trans ((ha.trans ha2 (fun _ _ h => h)).to_below HBL.out.size (fun _ _ => id)))
          clear ha ha2
          go_wp2
          go_ret
          exact ⟨rfl, HB2.out⟩
        · have hi3 : ¬ (m : Int) < 300 := by omega
          clear h3
          go_wp2_with (fail)
          refine (HP.out.one.looks (by omega)).mono ?_
          rintro e v1 ⟨rfl, ha⟩
          go_wp2_with (fail)
          refine ((HP.out.two.frm ha (fun _ _ => id)).looks (by omega)).mono ?_
          rintro e v2 ⟨rfl, ha2⟩
          have HB2 := Lib.hid (HBL.out.trans ((ha.trans ha2 (fun _ _ h => h)).to_below HBL.out.size (fun _ _ => id)))
          clear ha ha2
          go_wp2
          go_ret
          exact ⟨rfl, HB2.out⟩
end Go.Proofs.Ytkajgopkdolhcaa
