/- The number of ones of a word, as math/bits counts them. Plain. -/
import Derived.Test.YtlggmoghgoeiiaaTrPure
namespace Go.Tk

/-- how many of the first m are true -/
def cntB (F : Nat → Bool) : Nat → Nat
  | 0 => 0
  | m + 1 => cntB F m + (if F m then 1 else 0)
theorem cntB_le (F : Nat → Bool) : ∀ m, cntB F m ≤ m
  | 0 => Nat.le_refl _
  | m + 1 => by
    have := cntB_le F m
    rw [cntB]
    split <;> omega
theorem cntB_congr {F G : Nat → Bool} : ∀ {m}, (∀ j, j < m → F j = G j) → cntB F m = cntB G m
  | 0, _ => rfl
  | m + 1, h => by rw [cntB, cntB, cntB_congr (fun j hj => h j (by omega)), h m (by omega)]
theorem cntB_add (F : Nat → Bool) (a : Nat) : ∀ b, cntB F (a + b) = cntB F a + cntB (fun j => F (a + j)) b
  | 0 => rfl
  | b + 1 => by
    rw [← Nat.add_assoc, cntB, cntB_add F a b, cntB]
    omega
theorem cntB_false {F : Nat → Bool} : ∀ {m}, (∀ j, j < m → F j = false) → cntB F m = 0
  | 0, _ => rfl
  | m + 1, h => by rw [cntB, cntB_false (fun j hj => h j (by omega)), h m (by omega)]; rfl
/-- the number of these bytes -/
def byV : List Nat → Nat
  | [] => 0
  | b :: L => 256 * byV L + b
def bytesOf (x : Nat) : Nat → List Nat
  | 0 => []
  | n + 1 => x % 256 :: bytesOf (x / 256) n
theorem byV_of : ∀ (n x : Nat), x < 256 ^ n → byV (bytesOf x n) = x
  | 0, x, h => by simp at h; subst h; rfl
  | n + 1, x, h => by
    rw [bytesOf, byV, byV_of n (x / 256) (by rw [Nat.pow_succ] at h; omega)]
    omega
theorem bytesOf_lt : ∀ (n x : Nat), ∀ b ∈ bytesOf x n, b < 256
  | 0, _, b, h => by cases h
  | n + 1, x, b, h => by
    rcases List.mem_cons.1 h with rfl | h
    · omega
    · exact bytesOf_lt n _ b h
theorem bytesOf_len : ∀ (n x : Nat), (bytesOf x n).length = n
  | 0, _ => rfl
  | n + 1, x => by rw [bytesOf, List.length_cons, bytesOf_len n]
theorem bit8 (a b j : Nat) (hb : b < 256) : (256 * a + b).testBit j = if j < 8 then b.testBit j else a.testBit (j - 8) := Nat.testBit_two_pow_mul_add (i := 8) a hb j
theorem and_cons {a b c m : Nat} (hb : b < 256) (hm : m < 256) : (256 * a + b) &&& (256 * c + m) = 256 * (a &&& c) + (b &&& m) := by
  apply Nat.eq_of_testBit_eq
  intro j
  have h : b &&& m < 256 := Nat.lt_of_le_of_lt Nat.and_le_left hb
  rw [Nat.testBit_and, bit8 _ _ _ hb, bit8 _ _ _ hm, bit8 _ _ _ h]
  split
  · rw [Nat.testBit_and]
  · rw [Nat.testBit_and]
theorem shr_and_cons {a b c m k : Nat} (hb : b < 256) (hm : m < 2 ^ (8 - k)) (hk : k ≤ 8) : ((256 * a + b) / 2 ^ k) &&& (256 * c + m) = 256 * ((a / 2 ^ k) &&& c) + ((b / 2 ^ k) &&& m) := by
  have hm8 : m < 256 := Nat.lt_of_lt_of_le hm (show 2 ^ (8 - k) ≤ 2 ^ 8 from Nat.pow_le_pow_right (by omega) (by omega))
  apply Nat.eq_of_testBit_eq
  intro j
  have h : (b / 2 ^ k) &&& m < 256 := Nat.lt_of_le_of_lt Nat.and_le_right hm8
  rw [Nat.testBit_and, Nat.testBit_div_two_pow, bit8 _ _ _ hb, bit8 _ _ _ hm8, bit8 _ _ _ h]
  by_cases hj : j < 8
  · rw [if_pos hj, if_pos hj, Nat.testBit_and, Nat.testBit_div_two_pow]
    by_cases hjk : j + k < 8
    · rw [if_pos hjk]
    · have : m.testBit j = false := Nat.testBit_lt_two_pow (Nat.lt_of_lt_of_le hm (Nat.pow_le_pow_right (by omega) (by omega)))
      rw [this, Bool.and_false, Bool.and_false]
  · rw [if_neg hj, if_neg hj, if_neg (by omega), Nat.testBit_and, Nat.testBit_div_two_pow, show j + k - 8 = j - 8 + k by omega]
/-- one step of folding: pairs, then fours -/
theorem fold_step {k m : Nat} (hm : m < 2 ^ (8 - k)) (hk : k ≤ 8) : ∀ L : List Nat, (∀ b ∈ L, b < 256) →
    ((byV L / 2 ^ k) &&& byV (List.replicate L.length m)) + (byV L &&& byV (List.replicate L.length m)) = byV (L.map fun b => ((b / 2 ^ k) &&& m) + (b &&& m))
  | [], _ => by simp [byV]
  | b :: L, h => by
    have hb := h b (by simp)
    have hm8 : m < 256 := Nat.lt_of_lt_of_le hm (show 2 ^ (8 - k) ≤ 2 ^ 8 from Nat.pow_le_pow_right (by omega) (by omega))
    have ih := fold_step hm hk L (fun b hb => h b (by simp [hb]))
    rw [List.length_cons, List.replicate_succ, List.map_cons, byV, byV, byV, ← ih, shr_and_cons hb hm hk, and_cons hb hm8]
    omega
theorem fold_three : ∀ L : List Nat, (∀ b ∈ L, b / 16 ≤ 4 ∧ b % 16 ≤ 4) →
    byV L % 16 ≤ 4 ∧ ((byV L / 16 + byV L) &&& byV (List.replicate L.length 15)) = byV (L.map fun b => b / 16 + b % 16)
  | [], _ => by simp [byV]
  | b :: L, h => by
    obtain ⟨h1, h2⟩ := h b (by simp)
    obtain ⟨h3, ih⟩ := fold_three L (fun b hb => h b (by simp [hb]))
    rw [List.length_cons, List.replicate_succ, List.map_cons, byV, byV, byV, ← ih]
    generalize byV L = v at *
    generalize byV (List.replicate L.length 15) = r at *
    refine ⟨by omega, ?_⟩
    have e : (256 * v + b) / 16 + (256 * v + b) = 256 * (v / 16 + v) + (b / 16 + b % 16 + 16 * (b / 16 + v % 16)) := by omega
    rw [e, and_cons (by omega) (by omega)]
    congr 1
    rw [show (15 : Nat) = 2 ^ 4 - 1 by decide, Nat.and_two_pow_sub_one_eq_mod]
    omega
def f1 (b : Nat) : Nat := ((b / 2 ^ 1) &&& 85) + (b &&& 85)
def f2 (b : Nat) : Nat := ((b / 2 ^ 2) &&& 51) + (b &&& 51)
theorem byte_ones : ∀ b, b < 256 → f1 b < 256 ∧ f2 (f1 b) / 16 ≤ 4 ∧ f2 (f1 b) % 16 ≤ 4 ∧ f2 (f1 b) / 16 + f2 (f1 b) % 16 = cntB b.testBit 8 := by decide +kernel
/-- the ones of a word -/
def popc (x : Nat) : Nat := cntB x.testBit 64
theorem popc_bytes : ∀ (n x : Nat), x < 256 ^ n → ((bytesOf x n).map fun b => cntB b.testBit 8).sum = cntB x.testBit (8 * n)
  | 0, _, _ => rfl
  | n + 1, x, h => by
    rw [bytesOf, List.map_cons, List.sum_cons, popc_bytes n (x / 256) (by rw [Nat.pow_succ] at h; omega), show 8 * (n + 1) = 8 + 8 * n by omega, cntB_add]
    congr 1
    · refine cntB_congr fun j hj => ?_
      rw [show (256 : Nat) = 2 ^ 8 by decide, Nat.testBit_mod_two_pow]
      simp [hj]
    · refine cntB_congr fun j _ => ?_
      rw [show (256 : Nat) = 2 ^ 8 by decide, Nat.testBit_div_two_pow, Nat.add_comm]
theorem sum8 (p0 p1 p2 p3 p4 p5 p6 p7 : Nat) (h0 : p0 ≤ 8) (h1 : p1 ≤ 8) (h2 : p2 ≤ 8) (h3 : p3 ≤ 8) (h4 : p4 ≤ 8) (h5 : p5 ≤ 8) (h6 : p6 ≤ 8) (h7 : p7 ≤ 8) (x4 x5 x6 : Nat)
    (e4 : x4 = byV [p0, p1, p2, p3, p4, p5, p6, p7] + byV [p0, p1, p2, p3, p4, p5, p6, p7] / 256) (e5 : x5 = x4 + x4 / 65536) (e6 : x6 = x5 + x5 / 4294967296) :
    x4 < 18446744073709551616 ∧ x5 < 18446744073709551616 ∧ x6 < 9223372036854775808 ∧ x6 % 128 = p0 + p1 + p2 + p3 + p4 + p5 + p6 + p7 := by
  simp only [byV] at e4
  have a4 : x4 = (p0 + p1) + 256 * (p1 + p2) + 65536 * (p2 + p3) + 16777216 * (p3 + p4) + 4294967296 * (p4 + p5) + 1099511627776 * (p5 + p6) + 281474976710656 * (p6 + p7) + 72057594037927936 * p7 := by omega
  clear e4
  have a5 : x5 = (p0 + p1 + p2 + p3) + 256 * (p1 + p2 + p3 + p4) + 65536 * (p2 + p3 + p4 + p5) + 16777216 * (p3 + p4 + p5 + p6) + 4294967296 * (p4 + p5 + p6 + p7) + 1099511627776 * (p5 + p6 + p7) + 281474976710656 * (p6 + p7) + 72057594037927936 * p7 := by omega
  clear e5
  have a6 : x6 = (p0 + p1 + p2 + p3 + p4 + p5 + p6 + p7) + 256 * (p1 + p2 + p3 + p4 + (p5 + p6 + p7)) + 65536 * (p2 + p3 + p4 + p5 + (p6 + p7)) + 16777216 * (p3 + p4 + p5 + p6 + p7) + 4294967296 * (p4 + p5 + p6 + p7) + 1099511627776 * (p5 + p6 + p7) + 281474976710656 * (p6 + p7) + 72057594037927936 * p7 := by omega
  clear e6
  refine ⟨by omega, by omega, by omega, ?_⟩
  clear a4 a5
  have h : x6 % 256 = p0 + p1 + p2 + p3 + p4 + p5 + p6 + p7 := by omega
  omega
/-- the folding steps on a word: what is below, and the answer -/
theorem popc_steps (x x1 x2 x3 x4 x5 x6 : Nat) (hx : x < 18446744073709551616)
    (e1 : x1 = ((x / 2) &&& 6148914691236517205) + (x &&& 6148914691236517205)) (e2 : x2 = ((x1 / 4) &&& 3689348814741910323) + (x1 &&& 3689348814741910323))
    (e3 : x3 = (x2 / 16 + x2) &&& 1085102592571150095) (e4 : x4 = x3 + x3 / 256) (e5 : x5 = x4 + x4 / 65536) (e6 : x6 = x5 + x5 / 4294967296) :
    x1 < 18446744073709551616 ∧ x2 < 18446744073709551616 ∧ x2 / 16 + x2 < 18446744073709551616 ∧ x3 < 18446744073709551616 ∧ x4 < 18446744073709551616 ∧ x5 < 18446744073709551616 ∧ x6 < 9223372036854775808 ∧ x6 % 128 = popc x := by
  have hV := byV_of 8 x hx
  have hL := bytesOf_lt 8 x
  have hn := bytesOf_len 8 x
  have hpc := popc_bytes 8 x hx
  generalize bytesOf x 8 = L at hV hL hn hpc
  have hb := fun b (h : b ∈ L) => byte_ones b (hL b h)
  have s1 := fold_step (k := 1) (m := 85) (by decide) (by decide) L hL
  have hL1 : ∀ b ∈ L.map f1, b < 256 := fun b h => by obtain ⟨c, hc, rfl⟩ := List.mem_map.1 h; exact (hb c hc).1
  have s2 := fold_step (k := 2) (m := 51) (by decide) (by decide) (L.map f1) hL1
  have s3 := (fold_three ((L.map f1).map f2) (fun b h => by obtain ⟨c, hc, rfl⟩ := List.mem_map.1 h; obtain ⟨d, hd, rfl⟩ := List.mem_map.1 hc; exact ⟨(hb d hd).2.1, (hb d hd).2.2.1⟩)).2
  rw [List.length_map, List.length_map, hn, List.map_map, List.map_map] at s3
  rw [List.length_map, hn] at s2
  rw [hn, hV] at s1
  have e1' : x1 = byV (L.map f1) := e1.trans s1
  have e2' : x2 = byV ((L.map f1).map f2) := by rw [e2, e1']; exact s2
  rw [List.map_map] at e2'
  have e3' : x3 = byV (L.map fun b => cntB b.testBit 8) := by
    rw [e3, e2']
    refine s3.trans ?_
    congr 1
    refine List.map_congr_left fun b hbm => ?_
    exact (hb b hbm).2.2.2
  have l1 : x1 < 18446744073709551616 := by
    have h1 : (x / 2) &&& 6148914691236517205 ≤ 6148914691236517205 := Nat.and_le_right
    have h2 : x &&& 6148914691236517205 ≤ 6148914691236517205 := Nat.and_le_right
    omega
  have l2 : x2 ≤ 7378697629483820646 := by
    have h1 : (x1 / 4) &&& 3689348814741910323 ≤ 3689348814741910323 := Nat.and_le_right
    have h2 : x1 &&& 3689348814741910323 ≤ 3689348814741910323 := Nat.and_le_right
    omega
  have l3 : x3 ≤ 1085102592571150095 := by rw [e3]; exact Nat.and_le_right
  match L, hn, e3', hpc with
  | [b0, b1, b2, b3, b4, b5, b6, b7], _, e3', hpc =>
    simp only [List.map_cons, List.map_nil] at e3' hpc
    have h := sum8 _ _ _ _ _ _ _ _ (cntB_le b0.testBit 8) (cntB_le b1.testBit 8) (cntB_le b2.testBit 8) (cntB_le b3.testBit 8) (cntB_le b4.testBit 8) (cntB_le b5.testBit 8) (cntB_le b6.testBit 8) (cntB_le b7.testBit 8) x4 x5 x6 (by rw [e4, e3']) e5 e6
    refine ⟨l1, by omega, by omega, by omega, h.1, h.2.1, h.2.2.1, ?_⟩
    rw [h.2.2.2]
    unfold popc
    rw [show (64 : Nat) = 8 * 8 from rfl, ← hpc]
    simp only [List.sum_cons, List.sum_nil]
    omega
end Go.Tk
