/- Truth tables as lists of words: plain laws, no program in sight. -/
import Derived.Test.YtlggmoghgoeiiaaInts
namespace Go.Tk

/-- the number of these m bits -/
def bsum (F : Nat → Bool) : Nat → Nat
  | 0 => 0
  | m + 1 => bsum F m + (if F m then 2 ^ m else 0)
theorem bsum_lt (F : Nat → Bool) : ∀ m, bsum F m < 2 ^ m
  | 0 => by simp [bsum]
  | m + 1 => by
    have := bsum_lt F m
    rw [bsum, Nat.pow_succ]
    split <;> omega
theorem bsum_bit (F : Nat → Bool) : ∀ m j, (bsum F m).testBit j = (decide (j < m) && F j)
  | 0, j => by simp [bsum]
  | m + 1, j => by
    have ih := bsum_bit F m j
    have hl := bsum_lt F m
    have he : (if F m then 2 ^ m else 0) = 2 ^ m * (F m).toNat := by cases F m <;> simp
    rw [bsum, he, Nat.add_comm, Nat.testBit_two_pow_mul_add _ hl, ih]
    rcases Nat.lt_trichotomy j m with h | h | h
    · rw [if_pos h]
      simp [h, show j < m + 1 by omega]
    · subst h
      rw [if_neg (Nat.lt_irrefl _)]
      cases hF : F j <;> simp
    · rw [if_neg (by omega)]
      have h1 : ¬ j < m + 1 := by omega
      have h2 : (F m).toNat.testBit (j - m) = false := by
        obtain ⟨d, hd⟩ : ∃ d, j - m = d + 1 := ⟨j - m - 1, by omega⟩
        rw [hd]
        cases F m <;> simp [Nat.testBit_succ]
      simp [h1, h2]
theorem bsum_congr {F G : Nat → Bool} : ∀ {m}, (∀ j, j < m → F j = G j) → bsum F m = bsum G m
  | 0, _ => rfl
  | m + 1, h => by rw [bsum, bsum, bsum_congr (fun j hj => h j (by omega)), h m (by omega)]
theorem bsum_of {x m : Nat} (h : x < 2 ^ m) : bsum (fun j => x.testBit j) m = x := by
  apply Nat.eq_of_testBit_eq
  intro j
  rw [bsum_bit]
  by_cases hj : j < m
  · simp [hj]
  · have : x.testBit j = false := Nat.testBit_lt_two_pow (Nat.lt_of_lt_of_le h (Nat.pow_le_pow_right (by omega) (by omega)))
    simp [this]

/-- how many words -/
def nw (n : Nat) : Nat := if n ≤ 6 then 1 else 2 ^ (n - 6)
theorem nw_pos (n : Nat) : 0 < nw n := by
  unfold nw
  split
  · omega
  · exact Nat.pow_pos (by omega)
theorem nw_le {n : Nat} (h : n ≤ 16) : nw n ≤ 1024 := by
  have : ∀ n, n ≤ 16 → nw n ≤ 1024 := by decide
  exact this n h
theorem nw_shift {n : Nat} (h : n ≤ 16) : max 1 (2 ^ n / 64) = nw n := by
  have : ∀ n, n ≤ 16 → max 1 (2 ^ n / 64) = nw n := by decide
  exact this n h
theorem pow_le16 {n : Nat} (h : n ≤ 16) : 2 ^ n ≤ 65536 := by
  have : ∀ n, n ≤ 16 → 2 ^ n ≤ 65536 := by decide
  exact this n h
theorem nw_mul {n : Nat} (h : 6 ≤ n) : nw n * 64 = 2 ^ n := by
  unfold nw
  by_cases h6 : n = 6
  · subst h6; decide
  · rw [if_neg (by omega), show (64 : Nat) = 2 ^ 6 by decide, ← Nat.pow_add, show n - 6 + 6 = n by omega]
theorem nw_small {n : Nat} (h : n < 6) : nw n = 1 := by unfold nw; rw [if_pos (by omega)]
/-- the bits of a table's word that are of use -/
def fullN (n : Nat) : Nat := if 6 ≤ n then 18446744073709551615 else 2 ^ 2 ^ n - 1
theorem fullN_lt (n : Nat) : fullN n < 18446744073709551616 := by
  unfold fullN
  split
  · omega
  · rename_i h
    have : ∀ n, n < 6 → 2 ^ 2 ^ n - 1 < 18446744073709551616 := by decide
    exact this n (by omega)
theorem fullN_bit {n j : Nat} (hj : j < 64) : (fullN n).testBit j = decide (6 ≤ n ∨ j < 2 ^ n) := by
  unfold fullN
  split
  · rename_i h
    rw [show (18446744073709551615 : Nat) = 2 ^ 64 - 1 by decide, Nat.testBit_two_pow_sub_one]
    simp [hj, h]
  · rename_i h
    rw [Nat.testBit_two_pow_sub_one]
    simp [h]
/-- the k-th word of a function -/
def word (n : Nat) (F : Nat → Bool) (k : Nat) : Nat := bsum (fun j => decide (64 * k + j < 2 ^ n) && F (64 * k + j)) 64
theorem word_lt (n : Nat) (F : Nat → Bool) (k : Nat) : word n F k < 18446744073709551616 := bsum_lt _ 64
theorem word_bit (n : Nat) (F : Nat → Bool) (k : Nat) {j : Nat} (hj : j < 64) : (word n F k).testBit j = (decide (64 * k + j < 2 ^ n) && F (64 * k + j)) := by
  unfold word
  rw [bsum_bit]
  simp [hj]
def tab (n : Nat) (F : Nat → Bool) : List Nat := (List.range (nw n)).map (word n F)
theorem tab_len (n : Nat) (F : Nat → Bool) : (tab n F).length = nw n := by simp [tab]
theorem tab_get {n : Nat} {F : Nat → Bool} {k : Nat} (h : k < nw n) : (tab n F)[k]? = some (word n F k) := by simp [tab, h]
theorem tab_lt {n : Nat} {F : Nat → Bool} : ∀ x ∈ tab n F, x < 18446744073709551616 := by
  intro x hx
  obtain ⟨k, _, rfl⟩ := List.mem_map.1 hx
  exact word_lt n F k
theorem word_congr {n : Nat} {F G : Nat → Bool} (h : ∀ i, i < 2 ^ n → F i = G i) (k : Nat) : word n F k = word n G k := by
  refine bsum_congr fun j _ => ?_
  by_cases hj : 64 * k + j < 2 ^ n
  · rw [h _ hj]
  · simp [hj]
theorem word_congr' {n : Nat} {F G : Nat → Bool} {k : Nat} (h : ∀ j, j < 64 → 64 * k + j < 2 ^ n → F (64 * k + j) = G (64 * k + j)) : word n F k = word n G k := by
  unfold word
  refine bsum_congr fun j hj => ?_
  by_cases hjn : 64 * k + j < 2 ^ n
  · rw [h j hj hjn]
  · simp [hjn]
theorem tab_congr {n : Nat} {F G : Nat → Bool} (h : ∀ i, i < 2 ^ n → F i = G i) : tab n F = tab n G := by
  unfold tab
  apply List.map_congr_left
  intro k _
  exact word_congr h k
/-- the value at i -/
def vb (ws : List Nat) (i : Nat) : Bool := (ws.getD (i / 64) 0).testBit (i % 64)
theorem vb_tab {n : Nat} {F : Nat → Bool} {i : Nat} (h : i < 2 ^ n) : vb (tab n F) i = F i := by
  unfold vb
  have hk : i / 64 < nw n := by
    by_cases h6 : 6 ≤ n
    · have := nw_mul h6; omega
    · rw [nw_small (by omega)]
      have := Nat.pow_le_pow_right (show 0 < 2 by omega) (show n ≤ 5 by omega)
      omega
  rw [List.getD_eq_getElem?_getD, tab_get hk, Option.getD_some, word_bit _ _ _ (Nat.mod_lt _ (by omega)), Nat.div_add_mod]
  simp [h]
/-- words of 64 bits, so many of them, no bit too many -/
structure FormN (n : Nat) (ws : List Nat) : Prop where
  n16 : n ≤ 16
  len : ws.length = nw n
  top : n < 6 → ws.getD 0 0 < 2 ^ 2 ^ n
theorem tab_vb {n : Nat} {ws : List Nat} (h : FormN n ws) (hb : ∀ x ∈ ws, x < 18446744073709551616) : tab n (vb ws) = ws := by
  apply List.ext_getElem?
  intro k
  rcases Nat.lt_or_ge k (nw n) with hk | hk
  · have hkl : k < ws.length := by rw [h.len]; exact hk
    rw [tab_get hk, List.getElem?_eq_getElem hkl]
    congr 1
    apply Nat.eq_of_testBit_eq
    intro j
    by_cases hj : j < 64
    · rw [word_bit _ _ _ hj]
      unfold vb
      rw [show (64 * k + j) / 64 = k by omega, show (64 * k + j) % 64 = j by omega, List.getD_eq_getElem?_getD, List.getElem?_eq_getElem hkl, Option.getD_some]
      by_cases h6 : 6 ≤ n
      · have := nw_mul h6
        simp [show 64 * k + j < 2 ^ n by omega]
      · have hk0 : k = 0 := by rw [nw_small (by omega)] at hk; omega
        subst hk0
        by_cases hjn : j < 2 ^ n
        · simp [hjn]
        · have ht := h.top (by omega)
          rw [List.getD_eq_getElem?_getD, List.getElem?_eq_getElem hkl, Option.getD_some] at ht
          have : (ws[0]).testBit j = false := Nat.testBit_lt_two_pow (Nat.lt_of_lt_of_le ht (Nat.pow_le_pow_right (by omega) (by omega)))
          simp [this]
    · have h1 : (word n (vb ws) k).testBit j = false := Nat.testBit_lt_two_pow (Nat.lt_of_lt_of_le (word_lt _ _ _) (Nat.pow_le_pow_right (show 0 < 2 by omega) (show 64 ≤ j by omega)))
      have h2 : (ws[k]).testBit j = false := Nat.testBit_lt_two_pow (Nat.lt_of_lt_of_le (hb _ (List.getElem_mem hkl)) (Nat.pow_le_pow_right (show 0 < 2 by omega) (show 64 ≤ j by omega)))
      rw [h1, h2]
  · rw [List.getElem?_eq_none (by rw [tab_len]; exact hk), List.getElem?_eq_none (by rw [h.len]; exact hk)]
theorem tab_form {n : Nat} {F : Nat → Bool} (h : n ≤ 16) : FormN n (tab n F) := by
  refine ⟨h, tab_len n F, fun h6 => ?_⟩
  rw [List.getD_eq_getElem?_getD, tab_get (nw_pos n), Option.getD_some]
  refine Nat.lt_pow_two_of_testBit _ fun j hj => ?_
  by_cases hj64 : j < 64
  · rw [word_bit _ _ _ hj64]
    simp; omega
  · exact Nat.testBit_lt_two_pow (Nat.lt_of_lt_of_le (word_lt _ _ _) (Nat.pow_le_pow_right (show 0 < 2 by omega) (show 64 ≤ j by omega)))
/-- a word laid by the program -/
theorem word_laid {n : Nat} {F : Nat → Bool} {k g : Nat} (hk : k < nw n) (hg : ∀ j, j < 64 → 64 * k + j < 2 ^ n → g.testBit j = F (64 * k + j)) : g &&& fullN n = word n F k := by
  apply Nat.eq_of_testBit_eq
  intro j
  rw [Nat.testBit_and]
  by_cases hj : j < 64
  · rw [word_bit _ _ _ hj, fullN_bit hj]
    by_cases h6 : 6 ≤ n
    · have := nw_mul h6
      have h1 : 64 * k + j < 2 ^ n := by omega
      rw [hg j hj h1]
      simp [h1, h6]
    · have hk0 : k = 0 := by rw [nw_small (by omega)] at hk; omega
      subst hk0
      by_cases h1 : j < 2 ^ n
      · rw [hg j hj (by omega)]
        simp [h1]
      · simp [h1, h6]
  · have h1 : (word n F k).testBit j = false := Nat.testBit_lt_two_pow (Nat.lt_of_lt_of_le (word_lt _ _ _) (Nat.pow_le_pow_right (show 0 < 2 by omega) (show 64 ≤ j by omega)))
    have h2 : (fullN n).testBit j = false := Nat.testBit_lt_two_pow (Nat.lt_of_lt_of_le (fullN_lt n) (Nat.pow_le_pow_right (show 0 < 2 by omega) (show 64 ≤ j by omega)))
    rw [h1, h2, Bool.and_false]
/-- what the reference has laid of the values below m -/
def part (n : Nat) (F : Nat → Bool) (m : Nat) : List Nat := (List.range (nw n)).map fun k => word n (fun i => decide (i < m) && F i) k
theorem part_len (n : Nat) (F : Nat → Bool) (m : Nat) : (part n F m).length = nw n := by simp [part]
theorem part_full (n : Nat) (F : Nat → Bool) : part n F (2 ^ n) = tab n F := by
  unfold part tab
  apply List.map_congr_left
  intro k _
  exact word_congr (fun i hi => by simp [hi]) k
theorem part_zero (n : Nat) (F : Nat → Bool) : part n F 0 = List.replicate (nw n) 0 := by
  apply List.ext_getElem?
  intro k
  rcases Nat.lt_or_ge k (nw n) with hk | hk
  · rw [part]
    simp only [List.getElem?_map, List.getElem?_range hk, Option.map_some, List.getElem?_replicate, if_pos hk]
    congr 1
    apply Nat.eq_of_testBit_eq
    intro j
    unfold word
    rw [bsum_bit]
    simp
  · rw [List.getElem?_eq_none (by rw [part_len]; exact hk), List.getElem?_eq_none (by simpa using hk)]
theorem part_get {n : Nat} {F : Nat → Bool} {m k : Nat} (h : k < nw n) : (part n F m)[k]? = some (word n (fun i => decide (i < m) && F i) k) := by simp [part, h]
theorem part_same {n : Nat} {F : Nat → Bool} {m : Nat} (h : F m = false) : part n F (m + 1) = part n F m := by
  unfold part
  apply List.map_congr_left
  intro k _
  refine word_congr (fun i _ => ?_) k
  by_cases hi : i = m
  · subst hi; simp [h]
  · rw [show decide (i < m + 1) = decide (i < m) by rw [decide_eq_decide]; omega]
theorem word_put {n : Nat} {F : Nat → Bool} {m : Nat} (hm : m < 2 ^ n) (h : F m = true) : word n (fun i => decide (i < m) && F i) (m / 64) + 2 ^ (m % 64) = word n (fun i => decide (i < m + 1) && F i) (m / 64) := by
  have hA : ∀ j, j < 64 → (word n (fun i => decide (i < m) && F i) (m / 64)).testBit j = (decide (64 * (m / 64) + j < 2 ^ n) && (decide (64 * (m / 64) + j < m) && F (64 * (m / 64) + j))) := fun j hj => word_bit n _ _ hj
  have hB : ∀ j, j < 64 → (word n (fun i => decide (i < m + 1) && F i) (m / 64)).testBit j = (decide (64 * (m / 64) + j < 2 ^ n) && (decide (64 * (m / 64) + j < m + 1) && F (64 * (m / 64) + j))) := fun j hj => word_bit n _ _ hj
  have hAl : word n (fun i => decide (i < m) && F i) (m / 64) < 2 ^ 64 := bsum_lt _ 64
  have hBl : word n (fun i => decide (i < m + 1) && F i) (m / 64) < 2 ^ 64 := bsum_lt _ 64
  have hdm := Nat.div_add_mod m 64
  have hmm := Nat.mod_lt m (show 0 < 64 by omega)
  generalize word n (fun i => decide (i < m) && F i) (m / 64) = a at hA hAl ⊢
  generalize word n (fun i => decide (i < m + 1) && F i) (m / 64) = b at hB hBl ⊢
  generalize m % 64 = r at hdm hmm ⊢
  generalize m / 64 = q at hA hB hdm
  have hlt : a < 2 ^ r := by
    refine Nat.lt_pow_two_of_testBit _ fun j hj => ?_
    by_cases hj64 : j < 64
    · rw [hA j hj64]
      have : ¬ 64 * q + j < m := by omega
      simp [this]
    · exact Nat.testBit_lt_two_pow (Nat.lt_of_lt_of_le hAl (Nat.pow_le_pow_right (show 0 < 2 by omega) (show 64 ≤ j by omega)))
  apply Nat.eq_of_testBit_eq
  intro j
  rw [show a + 2 ^ r = 2 ^ r * 1 + a by omega, Nat.testBit_two_pow_mul_add _ hlt]
  by_cases hj64 : j < 64
  · rw [hA j hj64, hB j hj64]
    rcases Nat.lt_trichotomy j r with h1 | h1 | h1
    · rw [if_pos h1]
      rw [show decide (64 * q + j < m) = true by simp; omega, show decide (64 * q + j < m + 1) = true by simp; omega]
    · subst h1
      rw [if_neg (by omega), Nat.sub_self, hdm]
      simp [h, hm]
    · rw [if_neg (by omega)]
      obtain ⟨d, hd⟩ : ∃ d, j - r = d + 1 := ⟨j - r - 1, by omega⟩
      rw [hd, show (1 : Nat).testBit (d + 1) = false by simp [Nat.testBit_succ]]
      have : ¬ 64 * q + j < m + 1 := by omega
      simp [this]
  · have h1 : b.testBit j = false := Nat.testBit_lt_two_pow (Nat.lt_of_lt_of_le hBl (Nat.pow_le_pow_right (show 0 < 2 by omega) (show 64 ≤ j by omega)))
    obtain ⟨d, hd⟩ : ∃ d, j - r = d + 1 := ⟨j - r - 1, by omega⟩
    rw [h1, if_neg (by omega), hd]
    simp [Nat.testBit_succ]
theorem part_put {n : Nat} {F : Nat → Bool} {m : Nat} (hm : m < 2 ^ n) (h : F m = true) : (part n F m).set (m / 64) (word n (fun i => decide (i < m) && F i) (m / 64) + 2 ^ (m % 64)) = part n F (m + 1) := by
  apply List.ext_getElem?
  intro k
  rcases Nat.lt_or_ge k (nw n) with hk | hk
  · rw [List.getElem?_set, part_len, part_get hk, part_get hk]
    split
    · rename_i he
      subst he
      rw [word_put hm h]
      simp [hk]
    · rename_i he
      refine congrArg some (word_congr' fun j hj _ => ?_)
      have : ¬ 64 * k + j = m := by omega
      rw [show decide (64 * k + j < m + 1) = decide (64 * k + j < m) by rw [decide_eq_decide]; omega]
  · rw [List.getElem?_eq_none (by simp [part_len, hk]), List.getElem?_eq_none (by rw [part_len]; exact hk)]
theorem div_lt_nw {n m : Nat} (hm : m < 2 ^ n) : m / 64 < nw n := by
  by_cases h6 : 6 ≤ n
  · have := nw_mul h6; omega
  · rw [nw_small (by omega)]
    have := Nat.pow_le_pow_right (show 0 < 2 by omega) (show n ≤ 5 by omega)
    omega
end Go.Tk
