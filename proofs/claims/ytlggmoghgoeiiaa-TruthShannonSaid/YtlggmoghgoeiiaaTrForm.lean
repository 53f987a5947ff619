/- Truth tables: words, full, count, Form of the program. -/
import Derived.Test.YtlggmoghgoeiiaaTrPure
import Derived.Test.YtlggmoghgoeiiaaPh
import Derived.Test.YtlggmoghgoeiiaaCopy
import Derived.Test.YtlggmoghgoeiiaaProg
import Derived.Laws.BitsAllLaws
import Derived.BigRegion
namespace Go.Proofs.Ytlggmoghgoeiiaa
open Go.RowKit Go.Tk

theorem pow_int (n : Nat) : (2 : Int) ^ n = ((2 ^ n : Nat) : Int) := by simp
theorem words_any (n : Nat) (w : World) (h : n ≤ 16) : Calls Try.prog 59 #[.int .i64 n] w fun e w' => e = .returned (.int .i64 (nw n : Nat)) ∧ w = w' := by
  have hp := pow_le16 h
  have hs := nw_shift h
  have hw : wrap64 ((2 : Int) ^ n) = ((2 ^ n : Nat) : Int) := by
    rw [pow_int]
    generalize 2 ^ n = p at hp
    exact IntWalk.wrap64_in _ (by omega)
  have hf : max 1 (wrap64 ((2 : Int) ^ n) / 64) = ((nw n : Nat) : Int) := by
    rw [hw, ← hs]
    generalize 2 ^ n = p at hp
    omega
  have HF := Lib.hid hf
  clear hs hw hf
  go_enter Try.func59, Try.ntmps59
  go_wp2
  go_ret
  exact ⟨by rw [← HF.out]; rfl, rfl⟩
theorem full_any (n : Nat) (w : World) (h : n ≤ 16) : Calls Try.prog 60 #[.int .i64 n] w fun e w' => e = .returned (.int .u64 (fullN n : Nat)) ∧ w = w' := by
  by_cases h6 : 6 ≤ n
  · have hf : fullN n = 18446744073709551615 := by unfold fullN; rw [if_pos h6]
    rw [hf]
    have h6' : (n : Int) ≥ 6 := by omega
    clear hf
    go_enter Try.func60, Try.ntmps60
    go_wp2
    go_ret
    exact ⟨rfl, rfl⟩
  · obtain rfl | rfl | rfl | rfl | rfl | rfl : n = 0 ∨ n = 1 ∨ n = 2 ∨ n = 3 ∨ n = 4 ∨ n = 5 := by omega
    all_goals
      clear h6 h
      go_enter Try.func60, Try.ntmps60
      go_wp2
      go_ret
      exact ⟨ret_int (by decide), rfl⟩
/-- the error of a count of variables -/
def cntE (n : Int) : Int := if n < 0 then 1 else if 16 < n then 6 else 0
theorem count_any (n : Int) (w : World) : Calls Try.prog 62 #[.int .i64 n] w fun e w' => e = .returned (.int .i64 (cntE n)) ∧ w = w' := by
  by_cases h0 : n < 0
  · have hf : cntE n = 1 := by unfold cntE; rw [if_pos h0]
    rw [hf]
    clear hf
    go_enter Try.func62, Try.ntmps62
    go_wp2
    go_ret
    exact ⟨rfl, rfl⟩
  · by_cases h1 : n > 16
    · have hf : cntE n = 6 := by unfold cntE; rw [if_neg h0, if_pos (by omega)]
      rw [hf]
      clear hf
      go_enter Try.func62, Try.ntmps62
      go_wp2
      go_ret
      exact ⟨rfl, rfl⟩
    · have hf : cntE n = 0 := by unfold cntE; rw [if_neg h0, if_neg (by omega)]
      rw [hf]
      clear hf
      go_enter Try.func62, Try.ntmps62
      go_wp2
      go_ret
      exact ⟨rfl, rfl⟩
/-- a slice of words -/
def ucell (x : Nat) : List Value := [.int .u64 (x : Int)]
theorem ucell_len (x : Nat) : (ucell x).length = 1 := rfl
abbrev WL (w : World) (A : Option Addr) (n : Nat) (ws : List Nat) : Prop := Sl w 1 ucell A n ws
abbrev OwnW (w : World) (A : Option Addr) (n C : Nat) (ws : List Nat) : Prop := Own w 38 1 ucell A n C ws
theorem WL.at1 {w : World} {A : Option Addr} {n : Nat} {ws : List Nat} (h : WL w A n ws) {i : Nat} {x : Nat} (hi : ws[i]? = some x) : ∃ b off, A = some ⟨b, off, none⟩ ∧ b < w.heap.size ∧ w.cell? ⟨b, off + i, none⟩ = some (.int .u64 x) := by
  obtain ⟨b, off, h1, h2, h3⟩ := h.get i x hi
  refine ⟨b, off, h1, h2, ?_⟩
  have := h3 0 (by omega)
  simpa [ucell] using this
def Small (ws : List Nat) : Prop := ∀ x ∈ ws, x < 18446744073709551616
theorem Small.at1 {ws : List Nat} (h : Small ws) {i x : Nat} (hi : ws[i]? = some x) : x < 18446744073709551616 := h x (List.mem_of_getElem? hi)
/-- is it in form? -/
def frm (N : Int) (ws : List Nat) : Bool := decide (0 ≤ N ∧ N ≤ 16 ∧ ws.length = nw N.toNat) && (decide (6 ≤ N) || decide (ws.getD 0 0 < 2 ^ 2 ^ N.toNat))
theorem frm_nat {n : Nat} {ws : List Nat} : frm n ws = true ↔ FormN n ws := by
  unfold frm
  simp only [Bool.and_eq_true, Bool.or_eq_true, decide_eq_true_eq, Int.toNat_natCast]
  constructor
  · rintro ⟨⟨_, h1, h2⟩, h3⟩
    exact ⟨by omega, h2, fun h => h3.elim (fun h4 => by omega) id⟩
  · intro h
    refine ⟨⟨by omega, by have := h.n16; omega, h.len⟩, ?_⟩
    by_cases h6 : n < 6
    · exact .inr (h.top h6)
    · exact .inl (by omega)
theorem frm_true {N : Int} {ws : List Nat} (h : frm N ws = true) : ∃ n : Nat, N = n ∧ FormN n ws := by
  have h0 : 0 ≤ N := by
    unfold frm at h
    simp at h
    exact h.1.1
  obtain ⟨n, rfl⟩ := Int.eq_ofNat_of_zero_le h0
  exact ⟨n, rfl, frm_nat.1 h⟩
theorem frm_false {N : Int} {ws : List Nat} (h : N < 0 ∨ 16 < N ∨ ws.length ≠ nw N.toNat) : frm N ws = false := by
  unfold frm
  rcases h with h | h | h
  · simp; omega
  · simp; omega
  · simp [h]
/-- no bit too many in the last word -/
theorem andNot_top {a k : Nat} (ha : a < 18446744073709551616) (hk : k ≤ 64) : (a &&& (18446744073709551615 - (2 ^ k - 1)) = 0) ↔ a < 2 ^ k := by
  have h2 : 18446744073709551615 - (2 ^ k - 1) = 2 ^ k * (2 ^ (64 - k) - 1) := by
    have h3 : 2 ^ k * 2 ^ (64 - k) = 18446744073709551616 := by rw [← Nat.pow_add, show k + (64 - k) = 64 by omega]
    have h4 : 0 < 2 ^ k := Nat.pow_pos (by omega)
    rw [Nat.mul_sub, h3]
    omega
  rw [h2]
  constructor
  · intro h
    refine Nat.lt_pow_two_of_testBit _ fun j hj => ?_
    by_cases hj64 : j < 64
    · have h5 := congrArg (fun x => x.testBit j) h
      simp only [Nat.testBit_and, Nat.testBit_two_pow_mul, Nat.testBit_two_pow_sub_one, Nat.zero_testBit] at h5
      simpa [show k ≤ j from hj, show j - k < 64 - k by omega] using h5
    · exact Nat.testBit_lt_two_pow (Nat.lt_of_lt_of_le ha (Nat.pow_le_pow_right (show 0 < 2 by omega) (show 64 ≤ j by omega)))
  · intro h
    apply Nat.eq_of_testBit_eq
    intro j
    simp only [Nat.testBit_and, Nat.testBit_two_pow_mul, Nat.zero_testBit]
    by_cases hj : k ≤ j
    · have : a.testBit j = false := Nat.testBit_lt_two_pow (Nat.lt_of_lt_of_le h (Nat.pow_le_pow_right (by omega) hj))
      simp [this]
    · simp [hj]
theorem last_ok {n : Nat} {ws : List Nat} (hn : n ≤ 16) (hl : ws.length = nw n) {x : Nat} (hx : ws[nw n - 1]? = some x) (hb : x < 18446744073709551616) : decide (x &&& (18446744073709551615 - fullN n) = 0) = frm n ws := by
  by_cases h6 : 6 ≤ n
  · have h1 : frm n ws = true := frm_nat.2 ⟨hn, hl, fun h => by omega⟩
    rw [h1]
    unfold fullN
    rw [if_pos h6]
    simp
  · have h0 : nw n = 1 := nw_small (by omega)
    rw [h0] at hx
    have hk : 2 ^ n ≤ 32 := by
      have : ∀ n, n < 6 → 2 ^ n ≤ 32 := by decide
      exact this n (by omega)
    have h2 := andNot_top hb (show 2 ^ n ≤ 64 by omega)
    have h3 : fullN n = 2 ^ 2 ^ n - 1 := by unfold fullN; rw [if_neg h6]
    rw [h3]
    have hg : ws.getD 0 0 = x := by rw [List.getD_eq_getElem?_getD, show ws[0]? = some x from hx]; rfl
    have h4 : frm n ws = decide (x < 2 ^ 2 ^ n) := by
      unfold frm
      rw [hg, Int.toNat_natCast]
      have e1 : decide ((0 : Int) ≤ n ∧ (n : Int) ≤ 16 ∧ ws.length = nw n) = true := by simp [hl]; omega
      have e2 : decide ((6 : Int) ≤ n) = false := by simp; omega
      rw [e1, e2]
      simp
    rw [h4, decide_eq_decide]
    exact h2

theorem beq0 (z : Nat) : (((z : Nat) : Int) == 0) = decide (z = 0) := by rw [Bool.eq_iff_iff]; simp
set_option maxHeartbeats 1000000 in
theorem Form_any (N : Int) (A : Option Addr) (m C : Nat) (ws : List Nat) (w : World) (h : WL w A m ws) (hb : Small ws) :
    Calls Try.prog 23 #[.agg #[.int .i64 N, .slice A m C]] w fun e w' => e = .returned (.bool (frm N ws)) ∧ Same w w' := by
  obtain rfl := h.len
  have H := Lib.hid h
  clear h
  obtain ⟨r, hr⟩ : ∃ r, frm N ws = r := ⟨_, rfl⟩
  rw [hr]
  by_cases h0 : N < 0
  · have hf : r = false := by rw [← hr]; exact frm_false (.inl h0)
    subst hf
    clear hr
    go_enter Try.func23, Try.ntmps23
    go_upto_region 1 with fail
    refine wp_quiet (by kernel_rfl) (by kernel_rfl) ?_
    repeat (any_goals (first | go_big_quiet_step (fail) | quiet_step (fail)))
    refine wpQuiet_nil ?_
    rintro _ ⟨q, rfl⟩
    go_wp2
    go_ret
    exact ⟨rfl, ((Frm.refl _ _).alloc _).trans (more_same _ q) (fun _ _ h => h)⟩
  by_cases h1 : N > 16
  · have hf : r = false := by rw [← hr]; exact frm_false (.inr (.inl (by omega)))
    subst hf
    clear hr
    go_enter Try.func23, Try.ntmps23
    go_upto_region 1 with fail
    refine wp_quiet (by kernel_rfl) (by kernel_rfl) ?_
    repeat (any_goals (first | go_big_quiet_step (fail) | quiet_step (fail)))
    refine wpQuiet_nil ?_
    rintro _ ⟨q, rfl⟩
    go_wp2
    go_ret
    exact ⟨rfl, ((Frm.refl _ _).alloc _).trans (more_same _ q) (fun _ _ h => h)⟩
  obtain ⟨n, rfl⟩ : ∃ n : Nat, N = n := ⟨N.toNat, by omega⟩
  have hN : n ≤ 16 := by omega
  by_cases hl : ws.length = nw n
  · have hnp := nw_pos n
    have hnl := nw_le hN
    obtain ⟨k, hk⟩ : ∃ k, nw n = k := ⟨_, rfl⟩
    have hWd := fun w => words_any n w hN
    rw [hk] at hl hnp hnl hWd
    obtain ⟨x, hx⟩ : ∃ x, ws[k - 1]? = some x := ⟨_, List.getElem?_eq_getElem (by omega)⟩
    have hxb := hb.at1 hx
    have hlast : decide (x &&& (18446744073709551615 - fullN n) = 0) = r := by
      rw [← hr]
      exact last_ok hN (by rw [hl, hk]) (by rw [hk]; exact hx) hxb
    have hfl := fullN_lt n
    have hFu := fun w => full_any n w hN
    obtain ⟨fu, hfu⟩ : ∃ fu, fullN n = fu := ⟨_, rfl⟩
    rw [hfu] at hlast hfl hFu
    obtain ⟨b, off, rfl, hbl, hc⟩ := H.out.at1 hx
    have hand := u64_andNot_nat x fu hxb hfl
    have hidx : (0 : Int) ≤ (k : Int) - 1 := by omega
    have hidx2 : (k : Int) - 1 < k := by omega
    have HWD := Lib.hid hWd
    have HFU := Lib.hid hFu
    have HLAST := Lib.hid hlast
    have HH := Lib.hid hl
    clear hr hk hx hWd hFu hfu hlast
    rw [hl]
    clear hl
    go_enter Try.func23, Try.ntmps23
    go_upto_region 1 with fail
    refine wp_quiet (by kernel_rfl) (by kernel_rfl) ?_
    repeat (any_goals (first | go_big_quiet_step ((go_at_call 59; exact quiet_call ((HWD.out _).mono fun e w' h => ⟨h.1, h.2 ▸ Frm.refl _ _⟩))) | quiet_step ((go_at_call 59; exact quiet_call ((HWD.out _).mono fun e w' h => ⟨h.1, h.2 ▸ Frm.refl _ _⟩)))))
    refine wpQuiet_nil ?_
    rintro wz ⟨q, hq⟩
    have hsz : Same w wz := by rw [hq]; exact ((Frm.refl _ _).alloc _).trans (more_same _ q) (fun _ _ h => h)
    have hB := (Blk.new w 24 #[.int .i64 n, .slice (some ⟨b, off, none⟩) k C]).frm (more_same _ q) id
    rw [← hq] at hB
    have hc0 : wz.cell? ⟨w.heap.size, 0, none⟩ = some (.int .i64 n) := hB.cell 0
    have hc1 : wz.cell? ⟨w.heap.size, 1, none⟩ = some (.slice (some ⟨b, off, none⟩) k C) := hB.cell 1
    have hcl := hB.lt
    have hcz := (hsz.cell (p := ⟨b, off + (k - 1), none⟩) hbl id).trans hc
    have hbz : b < wz.heap.size := by have := hsz.size; omega
    have HSZ := Lib.hid hsz
    clear hq hc hbl hB hsz
    go_upto_region 3 with fail
    refine wp_quiet (by kernel_rfl) (by kernel_rfl) ?_
    repeat (any_goals (first | go_big_quiet_step ((go_at_call 60; exact quiet_call ((HFU.out _).mono fun e w' h => ⟨h.1, h.2 ▸ Frm.refl _ _⟩))) | quiet_step ((go_at_call 60; exact quiet_call ((HFU.out _).mono fun e w' h => ⟨h.1, h.2 ▸ Frm.refl _ _⟩)))))
    refine wpQuiet_nil ?_
    rintro _ ⟨q2, rfl⟩
    go_wp2
    go_ret
    exact ⟨ret_bool (by rw [← HLAST.out]; exact beq0 _), HSZ.out.trans (more_same _ q2) (fun _ _ h => h)⟩
  · have hf : r = false := by rw [← hr]; exact frm_false (.inr (.inr hl))
    subst hf
    have hl' : ((ws.length : Int) != ((nw n : Nat) : Int)) = true := by simp; omega
    clear hr
    go_enter Try.func23, Try.ntmps23
    go_upto_region 1 with fail
    refine wp_quiet (by kernel_rfl) (by kernel_rfl) ?_
    repeat (any_goals (first | go_big_quiet_step ((go_at_call 59; exact quiet_call ((words_any _ _ hN).mono fun e w' h => ⟨h.1, h.2 ▸ Frm.refl _ _⟩))) | quiet_step ((go_at_call 59; exact quiet_call ((words_any _ _ hN).mono fun e w' h => ⟨h.1, h.2 ▸ Frm.refl _ _⟩)))))
    refine wpQuiet_nil ?_
    rintro _ ⟨q, rfl⟩
    go_wp2
    go_ret
    exact ⟨rfl, ((Frm.refl _ _).alloc _).trans (more_same _ q) (fun _ _ h => h)⟩
end Go.Proofs.Ytlggmoghgoeiiaa
