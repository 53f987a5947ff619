/- Truth tables: half's closure. -/
import Derived.Test.YtlggmoghgoeiiaaTrBin2
import Derived.Test.YtlggmoghgoeiiaaTrHPure
namespace Go.Proofs.Ytlggmoghgoeiiaa
open Go.RowKit Go.Tk

theorem and_clr {i k : Nat} (hi : i < 1024) (hp : 2 ^ k < 18446744073709551616) (j : Nat) : (i &&& (18446744073709551615 - 2 ^ k)).testBit j = if j = k then false else i.testBit j := by
  by_cases hj : j < 64
  · rw [Nat.testBit_and, not64_bit hp hj, Nat.testBit_two_pow]
    by_cases h : j = k
    · subst h; simp
    · rw [if_neg h]
      simp [show ¬ k = j by omega]
  · have h1 : i.testBit j = false := Nat.testBit_lt_two_pow (Nat.lt_of_lt_of_le hi (show 2 ^ 10 ≤ 2 ^ j from Nat.pow_le_pow_right (by omega) (by omega)))
    rw [Nat.testBit_and, h1]
    split <;> rfl
theorem or_set (i k : Nat) : wth i k false ||| 2 ^ k = wth i k true := wth_of fun j => by
  rw [Nat.testBit_or, wth_bit, Nat.testBit_two_pow]
  by_cases h : j = k
  · subst h; simp
  · rw [if_neg h, if_neg h]
    simp [show ¬ k = j by omega]
set_option maxHeartbeats 4000000 in
theorem half1_any (n i v Bv Bb Ba : Nat) (b : Bool) (A : Option Addr) (C : Nat) (ws : List Nat) (w : World) (hf : FormN n ws) (hi : i < nw n) (hv : v < n) (h : WL w A ws.length ws) (hb : Small ws)
    (hcv : w.cell? ⟨Bv, 0, none⟩ = some (.int .i64 v)) (hcb : w.cell? ⟨Bb, 0, none⟩ = some (.bool b)) (hca : w.cell? ⟨Ba, 1, none⟩ = some (.slice A ws.length C)) :
    Calls Try.prog 77 #[.int .i64 i, .pointer (some ⟨Bv, 0, none⟩), .pointer (some ⟨Bb, 0, none⟩), .pointer (some ⟨Ba, 0, none⟩)] w fun e w' => e = .returned (.int .u64 (halfN v b ws i : Nat)) ∧ Same w w' := by
  have hlBv : Bv < w.heap.size := World.block_lt_of_cell? w _ hcv
  have hlBb : Bb < w.heap.size := World.block_lt_of_cell? w _ hcb
  have hlBa : Ba < w.heap.size := World.block_lt_of_cell? w _ hca
  have hn := hf.n16
  have hnl := nw_le hn
  by_cases h6 : 6 ≤ v
  · have hil : wth i (v - 6) b < ws.length := by
      have h0 : nw n = 2 ^ (n - 6) := by
        unfold nw
        rw [if_neg (by omega)]
      rw [hf.len, h0]
      rw [h0] at hi
      exact wth_lt hi (by omega)
    have hpk2 : 2 ^ (v - 6) < 18446744073709551616 := Nat.lt_of_le_of_lt (Nat.pow_le_pow_right (show 0 < 2 by omega) (show v - 6 ≤ 10 by omega)) (by decide)
    cases b with
    | false =>
      obtain ⟨k, rfl⟩ : ∃ k, v = k + 6 := ⟨v - 6, by omega⟩
      rw [show k + 6 - 6 = k by omega] at hil hpk2
      obtain ⟨x, hx⟩ : ∃ x, ws[wth i k false]? = some x := ⟨_, List.getElem?_eq_getElem hil⟩
      have hxe : halfN (k + 6) false ws i = x := by
        unfold halfN
        rw [if_pos (by omega), show k + 6 - 6 = k by omega, getD_of hx]
      obtain ⟨b0, off, rfl, hbl, hc⟩ := h.at1 hx
      have hpk : 2 ^ k ≤ 2 ^ 9 := Nat.pow_le_pow_right (by omega) (by omega)
      have hand := i64_andNot_nat i (2 ^ k) (by omega) (by omega)
      have hor := i64_or_nat (i &&& (18446744073709551615 - 2 ^ k)) (2 ^ k) (Nat.lt_of_le_of_lt Nat.and_le_left (by omega)) (by omega)
      have hcl : i &&& (18446744073709551615 - 2 ^ k) = wth i k false := wth_of fun j => and_clr (by omega) hpk2 j
      have hst : wth i k false ||| 2 ^ k = wth i k true := or_set i k
      rw [hcl] at hand hor
      rw [hst] at hor
      have hwl : wth i k false < ws.length := hil
      have hsw : wrap64 ((2 : Int) ^ k) = ((2 ^ k : Nat) : Int) := by
        rw [pow_int]
        generalize 2 ^ k = p at hpk ⊢
        exact IntWalk.wrap64_in _ (by omega)
      have hsw2 : IntKind.i64.wrap ((2 : Int) ^ k) = ((2 ^ k : Nat) : Int) := by
        rw [pow_int]
        generalize 2 ^ k = p at hpk ⊢
        exact IntWalk.i64_in _ (by omega)
      rw [hxe]
      clear hxe hcl hst hpk2 hx
      generalize 2 ^ k = p at *
      generalize wth i k false = ix at *
      have hix0 : (0 : Int) ≤ ix := by omega
      have hix1 : (ix : Int) < ws.length := by omega
      have hcv' : w.cell? ⟨Bv, 0, none⟩ = some (.int .i64 ((k : Int) + 6)) := hcv
      have hk6 : (k : Int) + 6 ≥ 6 := by omega
      have hk7 : (k : Int) + 6 - 6 = k := by omega
      have hk8 : IntKind.i64.wrap ((k : Int) + 6 - 6) = k := by rw [IntWalk.i64_in _ (by omega)]; omega
      have hk9 : (0 : Int) ≤ k := by omega
      clear hcv
      go_enter Try.func77, Try.ntmps77
      go_wp2
      go_ret
      exact ⟨rfl, Frm.refl _ _⟩
    | true =>
      obtain ⟨k, rfl⟩ : ∃ k, v = k + 6 := ⟨v - 6, by omega⟩
      rw [show k + 6 - 6 = k by omega] at hil hpk2
      obtain ⟨x, hx⟩ : ∃ x, ws[wth i k true]? = some x := ⟨_, List.getElem?_eq_getElem hil⟩
      have hxe : halfN (k + 6) true ws i = x := by
        unfold halfN
        rw [if_pos (by omega), show k + 6 - 6 = k by omega, getD_of hx]
      obtain ⟨b0, off, rfl, hbl, hc⟩ := h.at1 hx
      have hpk : 2 ^ k ≤ 2 ^ 9 := Nat.pow_le_pow_right (by omega) (by omega)
      have hand := i64_andNot_nat i (2 ^ k) (by omega) (by omega)
      have hor := i64_or_nat (i &&& (18446744073709551615 - 2 ^ k)) (2 ^ k) (Nat.lt_of_le_of_lt Nat.and_le_left (by omega)) (by omega)
      have hcl : i &&& (18446744073709551615 - 2 ^ k) = wth i k false := wth_of fun j => and_clr (by omega) hpk2 j
      have hst : wth i k false ||| 2 ^ k = wth i k true := or_set i k
      rw [hcl] at hand hor
      rw [hst] at hor
      have hwl : wth i k true < ws.length := hil
      have hsw : wrap64 ((2 : Int) ^ k) = ((2 ^ k : Nat) : Int) := by
        rw [pow_int]
        generalize 2 ^ k = p at hpk ⊢
        exact IntWalk.wrap64_in _ (by omega)
      have hsw2 : IntKind.i64.wrap ((2 : Int) ^ k) = ((2 ^ k : Nat) : Int) := by
        rw [pow_int]
        generalize 2 ^ k = p at hpk ⊢
        exact IntWalk.i64_in _ (by omega)
      rw [hxe]
      clear hxe hcl hst hpk2 hx
      generalize 2 ^ k = p at *
      generalize wth i k true = ix at *
      have hix0 : (0 : Int) ≤ ix := by omega
      have hix1 : (ix : Int) < ws.length := by omega
      have hcv' : w.cell? ⟨Bv, 0, none⟩ = some (.int .i64 ((k : Int) + 6)) := hcv
      have hk6 : (k : Int) + 6 ≥ 6 := by omega
      have hk7 : (k : Int) + 6 - 6 = k := by omega
      have hk8 : IntKind.i64.wrap ((k : Int) + 6 - 6) = k := by rw [IntWalk.i64_in _ (by omega)]; omega
      have hk9 : (0 : Int) ≤ k := by omega
      clear hcv
      go_enter Try.func77, Try.ntmps77
      go_wp2
      go_ret
      exact ⟨rfl, Frm.refl _ _⟩
  · obtain ⟨x, hx⟩ : ∃ x, ws[i]? = some x := ⟨_, List.getElem?_eq_getElem (by rw [hf.len]; exact hi)⟩
    have hxe : halfN v b ws i = halfW v b x := by
      unfold halfN
      rw [if_neg h6, getD_of hx]
    obtain ⟨b0, off, rfl, hbl, hc⟩ := h.at1 hx
    have hxb := hb.at1 hx
    have hi0 : (0 : Int) ≤ i := by omega
    have hi1 : (i : Int) < ws.length := by rw [hf.len]; omega
    have hv6 : v < 6 := by omega
    have hcol : colN v 0 = bsum (fun j => j.testBit v) 64 := by unfold colN; rw [if_pos hv6]
    have hcc := fun w => column_any v 0 w (by omega) (by omega)
    have hcl : bsum (fun j => j.testBit v) 64 < 18446744073709551616 := bsum_lt _ 64
    have hs32 : 2 ^ v ≤ 2 ^ 5 := Nat.pow_le_pow_right (by omega) (by omega)
    rw [hxe]
    unfold halfW
    rw [hcol] at hcc
    generalize bsum (fun j => j.testBit v) 64 = c at hcc hcl ⊢
    have hsw : wrap64 ((2 : Int) ^ v) = ((2 ^ v : Nat) : Int) := by
      rw [pow_int]
      generalize 2 ^ v = p at hs32 ⊢
      exact IntWalk.wrap64_in _ (by omega)
    have hsw2 : IntKind.i64.wrap ((2 : Int) ^ v) = ((2 ^ v : Nat) : Int) := by
      rw [pow_int]
      generalize 2 ^ v = p at hs32 ⊢
      exact IntWalk.i64_in _ (by omega)
    have hs64 : 2 ^ v < 64 := Nat.lt_of_le_of_lt hs32 (by decide)
    have hmin : min (2 ^ v) 64 = 2 ^ v := Nat.min_eq_left (Nat.le_of_lt hs64)
    clear hs32
    generalize 2 ^ v = s at hsw hsw2 hs64 hmin ⊢
    have hnv : ¬ (v : Int) ≥ 6 := by omega
    have HCC := Lib.hid hcc
    clear hxe hx hcol hcc h6 hf hi
    cases b with
    | true =>
      rw [if_pos rfl]
      have ha := u64_and_nat x c hxb hcl
      have hy : x &&& c < 18446744073709551616 := Nat.lt_of_le_of_lt Nat.and_le_left hxb
      generalize x &&& c = y at ha hy ⊢
      have hzl : y / 2 ^ s < 18446744073709551616 := Nat.lt_of_le_of_lt (Nat.div_le_self _ _) hy
      have hd : (y : Int) / 2 ^ s = ((y / 2 ^ s : Nat) : Int) := by rw [pow_int]; exact (Int.natCast_ediv y (2 ^ s)).symm
      generalize y / 2 ^ s = z at hd hzl ⊢
      have ho := u64_or_nat y z hy hzl
      go_enter Try.func77, Try.ntmps77
      go_upto_region 6 with fail
      refine wp_quiet (by kernel_rfl) (by kernel_rfl) ?_
      repeat (any_goals (first | go_big_quiet_step ((go_at_call 67; exact quiet_call ((HCC.out _).mono fun e w' h => ⟨h.1, h.2 ▸ Frm.refl _ _⟩))) | quiet_step ((go_at_call 67; exact quiet_call ((HCC.out _).mono fun e w' h => ⟨h.1, h.2 ▸ Frm.refl _ _⟩)))))
      refine wpQuiet_nil ?_
      rintro wz ⟨q, hq⟩
      have hsz : Same w wz := by rw [hq]; exact more_same _ q
      have hc2 := (hsz.cell (World.block_lt_of_cell? w _ hc) id).trans hc
      have hcb2 := (hsz.cell (World.block_lt_of_cell? w _ hcb) id).trans hcb
      have hca2 := (hsz.cell (World.block_lt_of_cell? w _ hca) id).trans hca
      have HSZ := Lib.hid hsz
      clear hq hsz hc hcb hca hcv
      go_wp2
      go_ret
      exact ⟨rfl, HSZ.out⟩
    | false =>
      rw [if_neg (by decide)]
      have ha := u64_andNot_nat x c hxb hcl
      have hy : x &&& (18446744073709551615 - c) < 18446744073709551616 := Nat.lt_of_le_of_lt Nat.and_le_left hxb
      generalize x &&& (18446744073709551615 - c) = y at ha hy ⊢
      have hzl : y * 2 ^ s % 18446744073709551616 < 18446744073709551616 := Nat.mod_lt _ (by omega)
      have hd : IntKind.u64.wrap ((y : Int) * 2 ^ s) = ((y * 2 ^ s % 18446744073709551616 : Nat) : Int) := by
        rw [pow_int, IntKind.wrap_u64, ← Int.natCast_mul]
        exact (Int.natCast_emod _ _).symm
      generalize y * 2 ^ s % 18446744073709551616 = z at hd hzl ⊢
      have ho := u64_or_nat y z hy hzl
      go_enter Try.func77, Try.ntmps77
      go_upto_region 6 with fail
      refine wp_quiet (by kernel_rfl) (by kernel_rfl) ?_
      repeat (any_goals (first | go_big_quiet_step ((go_at_call 67; exact quiet_call ((HCC.out _).mono fun e w' h => ⟨h.1, h.2 ▸ Frm.refl _ _⟩))) | quiet_step ((go_at_call 67; exact quiet_call ((HCC.out _).mono fun e w' h => ⟨h.1, h.2 ▸ Frm.refl _ _⟩)))))
      refine wpQuiet_nil ?_
      rintro wz ⟨q, hq⟩
      have hsz : Same w wz := by rw [hq]; exact more_same _ q
      have hc2 := (hsz.cell (World.block_lt_of_cell? w _ hc) id).trans hc
      have hcb2 := (hsz.cell (World.block_lt_of_cell? w _ hcb) id).trans hcb
      have hca2 := (hsz.cell (World.block_lt_of_cell? w _ hca) id).trans hca
      have HSZ := Lib.hid hsz
      clear hq hsz hc hcb hca hcv
      go_wp2
      go_ret
      exact ⟨rfl, HSZ.out⟩
end Go.Proofs.Ytlggmoghgoeiiaa
