/- Truth tables: a bit set in a number; halves of a word. Plain. -/
import Derived.Test.YtlggmoghgoeiiaaTrPure
namespace Go.Tk

theorem bit_parts {i k : Nat} : i.testBit k = decide (i / 2 ^ k % 2 = 1) := by rw [Nat.testBit_eq_decide_div_mod_eq]
theorem low_mul (c r k j : Nat) (hr : r < 2 ^ k) : (2 ^ k * c + r).testBit j = if j < k then r.testBit j else c.testBit (j - k) := Nat.testBit_two_pow_mul_add c hr j
theorem clr_bit {i k : Nat} (h : i.testBit k = true) (j : Nat) : (i - 2 ^ k).testBit j = (i.testBit j && decide (j ≠ k)) := by
  have hp : 0 < 2 ^ k := Nat.pow_pos (by omega)
  have hr := Nat.mod_lt i hp
  have hi := Nat.div_add_mod i (2 ^ k)
  rw [bit_parts, decide_eq_true_eq] at h
  obtain ⟨c, hc⟩ : ∃ c, i / 2 ^ k = 2 * c + 1 := ⟨i / 2 ^ k / 2, by omega⟩
  rw [hc] at hi
  have e1 : i = 2 ^ k * (2 * c + 1) + i % 2 ^ k := hi.symm
  have e2 : i - 2 ^ k = 2 ^ k * (2 * c) + i % 2 ^ k := by
    rw [Nat.mul_add, Nat.mul_one] at hi
    omega
  rw [e2, low_mul _ _ _ _ hr]
  conv => rhs; rw [e1, low_mul _ _ _ _ hr]
  rcases Nat.lt_trichotomy j k with hj | hj | hj
  · simp [hj, show j ≠ k by omega]
  · subst hj
    simp
  · obtain ⟨d, hd⟩ : ∃ d, j - k = d + 1 := ⟨j - k - 1, by omega⟩
    rw [if_neg (by omega), if_neg (by omega), hd, Nat.testBit_succ, Nat.testBit_succ, show 2 * c / 2 = c by omega, show (2 * c + 1) / 2 = c by omega]
    simp [show j ≠ k by omega]
theorem put_bit {i k : Nat} (h : i.testBit k = false) (j : Nat) : (i + 2 ^ k).testBit j = (i.testBit j || decide (j = k)) := by
  have hp : 0 < 2 ^ k := Nat.pow_pos (by omega)
  have hr := Nat.mod_lt i hp
  have hi := Nat.div_add_mod i (2 ^ k)
  rw [bit_parts, decide_eq_false_iff_not] at h
  obtain ⟨c, hc⟩ : ∃ c, i / 2 ^ k = 2 * c := ⟨i / 2 ^ k / 2, by omega⟩
  rw [hc] at hi
  have e1 : i = 2 ^ k * (2 * c) + i % 2 ^ k := hi.symm
  have e2 : i + 2 ^ k = 2 ^ k * (2 * c + 1) + i % 2 ^ k := by
    rw [Nat.mul_add, Nat.mul_one]
    omega
  rw [e2, low_mul _ _ _ _ hr]
  conv => rhs; rw [e1, low_mul _ _ _ _ hr]
  rcases Nat.lt_trichotomy j k with hj | hj | hj
  · simp [hj, show j ≠ k by omega]
  · subst hj
    simp
  · obtain ⟨d, hd⟩ : ∃ d, j - k = d + 1 := ⟨j - k - 1, by omega⟩
    rw [if_neg (by omega), if_neg (by omega), hd, Nat.testBit_succ, Nat.testBit_succ, show 2 * c / 2 = c by omega, show (2 * c + 1) / 2 = c by omega]
    simp [show j ≠ k by omega]
/-- i with the bit v set to b -/
def wth (i v : Nat) (b : Bool) : Nat := (if i.testBit v then i - 2 ^ v else i) + (if b then 2 ^ v else 0)
theorem clr_bit2 (i k j : Nat) : (if i.testBit k then i - 2 ^ k else i).testBit j = (i.testBit j && decide (j ≠ k)) := by
  cases h : i.testBit k with
  | true => rw [if_pos rfl]; exact clr_bit h j
  | false =>
    rw [if_neg (by decide)]
    by_cases hj : j = k
    · subst hj; simp [h]
    · simp [hj]
theorem wth_bit (i v : Nat) (b : Bool) (j : Nat) : (wth i v b).testBit j = if j = v then b else i.testBit j := by
  unfold wth
  have h := clr_bit2 i v
  generalize (if i.testBit v then i - 2 ^ v else i) = c at h
  cases b with
  | false =>
    rw [if_neg (by decide), Nat.add_zero, h j]
    by_cases hj : j = v <;> simp [hj]
  | true =>
    rw [if_pos rfl, put_bit (by rw [h v]; simp) j, h j]
    by_cases hj : j = v <;> simp [hj]
theorem wth_lt {i v n : Nat} {b : Bool} (hi : i < 2 ^ n) (hv : v < n) : wth i v b < 2 ^ n := by
  refine Nat.lt_pow_two_of_testBit _ fun j hj => ?_
  rw [wth_bit, if_neg (by omega)]
  exact Nat.testBit_lt_two_pow (Nat.lt_of_lt_of_le hi (Nat.pow_le_pow_right (by omega) hj))
theorem wth_of {i v : Nat} {b : Bool} {x : Nat} (h : ∀ j, x.testBit j = if j = v then b else i.testBit j) : x = wth i v b := Nat.eq_of_testBit_eq fun j => by rw [h, wth_bit]
theorem bit64 (k j v : Nat) (hj : j < 64) : (64 * k + j).testBit v = if v < 6 then j.testBit v else k.testBit (v - 6) := low_mul k j 6 v hj
theorem wth_high {k j v : Nat} (b : Bool) (hj : j < 64) (hv : 6 ≤ v) : wth (64 * k + j) v b = 64 * wth k (v - 6) b + j := by
  symm
  refine wth_of fun t => ?_
  rw [bit64 _ _ _ hj, bit64 _ _ _ hj, wth_bit]
  by_cases ht : t < 6
  · rw [if_pos ht, if_pos ht, if_neg (by omega)]
  · rw [if_neg ht, if_neg ht]
    by_cases h2 : t = v
    · subst h2; simp
    · rw [if_neg h2, if_neg (by omega)]
theorem wth_low {k j v : Nat} (b : Bool) (hj : j < 64) (hv : v < 6) : wth (64 * k + j) v b = 64 * k + wth j v b := by
  have hw : wth j v b < 64 := wth_lt (n := 6) hj hv
  symm
  refine wth_of fun t => ?_
  rw [bit64 _ _ _ hw, bit64 _ _ _ hj, wth_bit]
  by_cases ht : t < 6
  · rw [if_pos ht, if_pos ht]
  · rw [if_neg ht, if_neg ht, if_neg (by omega)]
theorem half_facts : ∀ v, v < 6 → ∀ j, j < 64 → (j.testBit v = true → (j + 2 ^ v).testBit v = false ∧ 2 ^ v ≤ j ∧ (j - 2 ^ v).testBit v = false) ∧ (j.testBit v = false → (j + 2 ^ v).testBit v = true ∧ j + 2 ^ v < 64 ∧ (2 ^ v ≤ j → (j - 2 ^ v).testBit v = true)) := by decide +kernel
/-- the word, v low -/
def halfW (v : Nat) (b : Bool) (x : Nat) : Nat :=
  if b then (x &&& bsum (fun j => j.testBit v) 64) ||| (x &&& bsum (fun j => j.testBit v) 64) / 2 ^ 2 ^ v
  else (x &&& (18446744073709551615 - bsum (fun j => j.testBit v) 64)) ||| ((x &&& (18446744073709551615 - bsum (fun j => j.testBit v) 64)) * 2 ^ 2 ^ v) % 18446744073709551616
theorem not64_bit {x j : Nat} (hx : x < 18446744073709551616) (hj : j < 64) : (18446744073709551615 - x).testBit j = !x.testBit j := by
  have h := Nat.testBit_two_pow_sub_succ (x := x) (n := 64) hx j
  rw [show 18446744073709551615 - x = 2 ^ 64 - (x + 1) by omega, h]
  simp [hj]
theorem halfW_bit {v j x : Nat} (b : Bool) (hv : v < 6) (hj : j < 64) : (halfW v b x).testBit j = x.testBit (wth j v b) := by
  obtain ⟨h1, h2⟩ := half_facts v hv j hj
  have hc := bsum_lt (fun j => j.testBit v) 64
  have hcb := bsum_bit (fun j => j.testBit v) 64
  unfold halfW wth
  generalize bsum (fun j => j.testBit v) 64 = c at hc hcb
  generalize 2 ^ v = s at h1 h2 ⊢
  cases b with
  | true =>
    rw [if_pos rfl, if_pos rfl, Nat.testBit_or, Nat.testBit_div_two_pow, Nat.testBit_and, Nat.testBit_and, hcb, hcb]
    cases hjv : j.testBit v with
    | true =>
      obtain ⟨g1, g2, g3⟩ := h1 hjv
      rw [if_pos rfl]
      simp [hj, g1, show j - s + s = j by omega]
    | false =>
      obtain ⟨g1, g2, g3⟩ := h2 hjv
      rw [if_neg (by decide)]
      simp [g1, g2]
  | false =>
    have hn : ∀ t, t < 64 → (x &&& (18446744073709551615 - c)).testBit t = (x.testBit t && !t.testBit v) := fun t ht => by
      rw [Nat.testBit_and, not64_bit hc ht, hcb]
      simp [ht]
    simp only [Bool.false_eq_true, if_false, Nat.add_zero]
    rw [Nat.testBit_or, show (18446744073709551616 : Nat) = 2 ^ 64 by decide, Nat.testBit_mod_two_pow, Nat.mul_comm, Nat.testBit_two_pow_mul, hn j hj]
    cases hjv : j.testBit v with
    | true =>
      obtain ⟨g1, g2, g3⟩ := h1 hjv
      simp only [if_true]
      rw [hn (j - s) (by omega)]
      simp [hj, g2, g3]
    | false =>
      obtain ⟨g1, g2, g3⟩ := h2 hjv
      simp only [Bool.false_eq_true, if_false]
      by_cases hs : s ≤ j
      · rw [hn (j - s) (by omega)]
        simp [g3 hs]
      · simp [hs]
/-- the i-th word of a cofactor -/
def halfN (v : Nat) (b : Bool) (ws : List Nat) (i : Nat) : Nat := if 6 ≤ v then ws.getD (wth i (v - 6) b) 0 else halfW v b (ws.getD i 0)
end Go.Tk
