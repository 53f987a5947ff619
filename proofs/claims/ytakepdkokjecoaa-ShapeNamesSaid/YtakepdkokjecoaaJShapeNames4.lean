/- Contracts and plain laws, put together in one file. No condition. -/
import Derived.Test.YtakepdkokjecoaaJShapeNames3
import Derived.Test.YtakepdkokjecoaaRows


/- Truth tables: renaming, plain. -/
namespace Go.Tk

def pv (p : List Int) (v : Nat) : Nat := (p.getD v 0).toNat
theorem pv_get {p : List Int} {v : Nat} {x : Int} (h : p[v]? = some x) : pv p v = x.toNat := by unfold pv; rw [List.getD_eq_getElem?_getD, h]; rfl
/-- a permutation of n things -/
structure PermN (n : Nat) (p : List Int) : Prop where
  len : p.length = n
  perm : IsPerm p
theorem PermN.lt {n : Nat} {p : List Int} (h : PermN n p) {v : Nat} (hv : v < n) : pv p v < n := by
  have hg : p[v]? = some p[v]! := by
    rw [List.getElem?_eq_getElem (by rw [h.len]; exact hv)]
    simp [List.getElem!_eq_getElem?_getD, List.getElem?_eq_getElem (show v < p.length by rw [h.len]; exact hv)]
  rw [pv_get hg]
  have := h.perm.1 _ (List.mem_of_getElem? hg)
  have := h.len
  omega
theorem PermN.inj {n : Nat} {p : List Int} (h : PermN n p) {u v : Nat} (hu : u < n) (hv : v < n) (he : pv p u = pv p v) : u = v := by
  have hul : u < p.length := by rw [h.len]; exact hu
  have hvl : v < p.length := by rw [h.len]; exact hv
  rw [pv_get (List.getElem?_eq_getElem hul), pv_get (List.getElem?_eq_getElem hvl)] at he
  have h1 := h.perm.1 _ (List.getElem_mem hul)
  have h2 := h.perm.1 _ (List.getElem_mem hvl)
  have hpw := List.pairwise_iff_getElem.1 (List.nodup_iff_pairwise_ne.1 h.perm.2)
  rcases Nat.lt_trichotomy u v with h3 | h3 | h3
  · exact absurd (show p[u] = p[v] by omega) (hpw u v hul hvl h3)
  · exact h3
  · exact absurd (show p[v] = p[u] by omega) (hpw v u hvl hul h3)
theorem PermN.onto {n : Nat} {p : List Int} (h : PermN n p) {t : Nat} (ht : t < n) : ∃ v, v < n ∧ pv p v = t := by
  obtain ⟨v, hv⟩ := List.getElem?_of_mem (h.perm.mem (show t < p.length by rw [h.len]; exact ht))
  exact ⟨v, by have := lt_get hv; rw [h.len] at this; exact this, by rw [pv_get hv]; omega⟩
/-- the place of the value j, after k variables -/
def sg (p : List Int) (j : Nat) : Nat → Nat
  | 0 => 0
  | k + 1 => wth (sg p j k) (pv p k) (j.testBit k)
theorem sg_bits {n : Nat} {p : List Int} (h : PermN n p) (j : Nat) : ∀ k, k ≤ n → (∀ v, v < k → (sg p j k).testBit (pv p v) = j.testBit v) ∧ (∀ t, (∀ v, v < k → pv p v ≠ t) → (sg p j k).testBit t = false)
  | 0, _ => ⟨fun v hv => by omega, fun t _ => by simp [sg]⟩
  | k + 1, hk => by
    obtain ⟨h1, h2⟩ := sg_bits h j k (by omega)
    refine ⟨fun v hv => ?_, fun t ht => ?_⟩
    · rw [sg, wth_bit]
      by_cases hvk : v = k
      · subst hvk; rw [if_pos rfl]
      · rw [if_neg (fun he => hvk (h.inj (by omega) (by omega) he)), h1 v (by omega)]
    · rw [sg, wth_bit, if_neg (fun he => ht k (by omega) he.symm)]
      exact h2 t fun v hv => ht v (by omega)
theorem sg_or {n : Nat} {p : List Int} (h : PermN n p) (j : Nat) {k : Nat} (hk : k < n) : sg p j k ||| (j / 2 ^ k % 2) * 2 ^ pv p k = sg p j (k + 1) := by
  have h0 : (sg p j k).testBit (pv p k) = false := (sg_bits h j k (by omega)).2 _ fun v hv he => by have := h.inj (by omega) hk he; omega
  have hb : j.testBit k = decide (j / 2 ^ k % 2 = 1) := by rw [Nat.testBit_eq_decide_div_mod_eq]
  rw [sg]
  refine wth_of fun t => ?_
  rw [Nat.testBit_or, hb]
  rcases Nat.mod_two_eq_zero_or_one (j / 2 ^ k) with hz | hz
  · rw [hz]
    by_cases ht : t = pv p k
    · subst ht; simp [h0]
    · simp [ht]
  · rw [hz, Nat.one_mul, Nat.testBit_two_pow]
    by_cases ht : t = pv p k
    · subst ht; simp [h0]
    · simp [ht, Ne.symm ht]
theorem sg_lt {n : Nat} {p : List Int} (h : PermN n p) (j : Nat) : ∀ k, k ≤ n → sg p j k < 2 ^ n := fun k hk => Nat.lt_pow_two_of_testBit _ fun t ht => (sg_bits h j k hk).2 t fun v hv he => by have := h.lt (v := v) (by omega); omega
/-- the value at the place i -/
def tau (n : Nat) (p : List Int) (i : Nat) : Nat := bsum (fun v => i.testBit (pv p v)) n
theorem tau_sg {n : Nat} {p : List Int} (h : PermN n p) {j : Nat} (hj : j < 2 ^ n) : tau n p (sg p j n) = j := by
  unfold tau
  rw [bsum_congr (G := fun v => j.testBit v) fun v hv => (sg_bits h j n (Nat.le_refl _)).1 v hv]
  exact bsum_of hj
theorem sg_tau {n : Nat} {p : List Int} (h : PermN n p) {i : Nat} (hi : i < 2 ^ n) : sg p (tau n p i) n = i := by
  apply Nat.eq_of_testBit_eq
  intro t
  by_cases ht : t < n
  · obtain ⟨v, hv, rfl⟩ := h.onto ht
    rw [(sg_bits h (tau n p i) n (Nat.le_refl _)).1 v hv]
    unfold tau
    rw [bsum_bit]
    simp [hv]
  · have h1 : i.testBit t = false := Nat.testBit_lt_two_pow (Nat.lt_of_lt_of_le hi (Nat.pow_le_pow_right (by omega) (by omega)))
    have h2 : (sg p (tau n p i) n).testBit t = false := Nat.testBit_lt_two_pow (Nat.lt_of_lt_of_le (sg_lt h _ n (Nat.le_refl _)) (Nat.pow_le_pow_right (by omega) (by omega)))
    rw [h1, h2]
/-- what is renamed of the values below k -/
def renP (n : Nat) (p : List Int) (ws : List Nat) (k : Nat) : Nat → Bool := fun i => decide (tau n p i < k) && vb ws (tau n p i)
def renF (n : Nat) (p : List Int) (ws : List Nat) : Nat → Bool := fun i => vb ws (tau n p i)
theorem renP_full {n : Nat} {p : List Int} {ws : List Nat} (i : Nat) : renP n p ws (2 ^ n) i = renF n p ws i := by
  unfold renP renF
  have : tau n p i < 2 ^ n := bsum_lt _ n
  simp [this]
theorem renP_zero {n : Nat} {p : List Int} {ws : List Nat} (i : Nat) : renP n p ws 0 i = false := by
  unfold renP
  simp
theorem renP_at {n : Nat} {p : List Int} {ws : List Nat} (h : PermN n p) {k : Nat} (hk : k < 2 ^ n) : renP n p ws (k + 1) (sg p k n) = vb ws k ∧ renP n p ws k (sg p k n) = false := by
  unfold renP
  rw [tau_sg h hk]
  simp
theorem renP_other {n : Nat} {p : List Int} {ws : List Nat} (h : PermN n p) {k i : Nat} (hi : i < 2 ^ n) (hne : i ≠ sg p k n) : renP n p ws (k + 1) i = renP n p ws k i := by
  unfold renP
  have : tau n p i ≠ k := fun he => hne (by rw [← he, sg_tau h hi])
  congr 1
  rw [decide_eq_decide]
  omega
theorem ren_set {n : Nat} {p : List Int} {ws : List Nat} (h : PermN n p) {k : Nat} (hk : k < 2 ^ n) : (vals (2 ^ n) (renP n p ws k)).set (sg p k n) (vb ws k) = vals (2 ^ n) (renP n p ws (k + 1)) := by
  have hs := sg_lt h k n (Nat.le_refl _)
  apply List.ext_getElem?
  intro i
  rcases Nat.lt_or_ge i (2 ^ n) with hi | hi
  · rw [List.getElem?_set, vals_len, vals_get hi, vals_get hi]
    split
    · rename_i he; subst he; simp [(renP_at h hk).1]
    · rename_i he
      rw [renP_other h hi (Ne.symm he)]
  · rw [List.getElem?_eq_none (by simp [vals_len, hi]), List.getElem?_eq_none (by rw [vals_len]; exact hi)]
theorem ren_word {n : Nat} {p : List Int} {ws : List Nat} (h : PermN n p) {k : Nat} (hk : k < 2 ^ n) : (tab n (renP n p ws k)).set (sg p k n / 64) (word n (renP n p ws k) (sg p k n / 64) ||| (if vb ws k then 1 else 0) * 2 ^ (sg p k n % 64)) = tab n (renP n p ws (k + 1)) := by
  have hs := sg_lt h k n (Nat.le_refl _)
  have hd := div_lt_nw hs
  have hm := Nat.mod_lt (sg p k n) (show 0 < 64 by omega)
  have hdm := Nat.div_add_mod (sg p k n) 64
  obtain ⟨ha1, ha0⟩ := renP_at (ws := ws) h hk
  have hoth := fun i (hi : i < 2 ^ n) (hne : i ≠ sg p k n) => renP_other (ws := ws) h hi hne
  generalize sg p k n = s at *
  generalize renP n p ws (k + 1) = G at *
  generalize renP n p ws k = F at *
  apply List.ext_getElem?
  intro q
  rcases Nat.lt_or_ge q (nw n) with hq | hq
  · rw [List.getElem?_set, tab_len, tab_get hq, tab_get hq]
    split
    · rename_i he
      subst he
      congr 1
      apply Nat.eq_of_testBit_eq
      intro j
      by_cases hj : j < 64
      · rw [Nat.testBit_or, word_bit _ _ _ hj, word_bit _ _ _ hj]
        by_cases hjs : j = s % 64
        · subst hjs
          rw [hdm, ha1, ha0]
          cases vb ws k <;> simp [hs]
        · have hb : ((if vb ws k then 1 else 0) * 2 ^ (s % 64)).testBit j = false := by
            cases vb ws k
            · simp
            · simp only [if_true, Nat.one_mul, Nat.testBit_two_pow]
              simp [Ne.symm hjs]
          rw [hb, Bool.or_false]
          by_cases hlt : 64 * (s / 64) + j < 2 ^ n
          · rw [hoth _ hlt (by omega)]
          · simp [hlt]
      · have h1 : (word n G (s / 64)).testBit j = false := Nat.testBit_lt_two_pow (Nat.lt_of_lt_of_le (word_lt _ _ _) (Nat.pow_le_pow_right (show 0 < 2 by omega) (show 64 ≤ j by omega)))
        have h2 : (word n F (s / 64)).testBit j = false := Nat.testBit_lt_two_pow (Nat.lt_of_lt_of_le (word_lt _ _ _) (Nat.pow_le_pow_right (show 0 < 2 by omega) (show 64 ≤ j by omega)))
        have h3 : ((if vb ws k then 1 else 0) * 2 ^ (s % 64)).testBit j = false := by
          cases vb ws k
          · simp
          · simp only [if_true, Nat.one_mul, Nat.testBit_two_pow]
            simp
            omega
        rw [Nat.testBit_or, h1, h2, h3]
        rfl
    · rename_i he
      refine congrArg some (word_congr' fun j hj hlt => ?_)
      exact (hoth _ hlt (by omega)).symm
  · rw [List.getElem?_eq_none (by simp [tab_len, hq]), List.getElem?_eq_none (by rw [tab_len]; exact hq)]
end Go.Tk


/- Truth tables: the reference's permutation. -/
namespace Go.Tk
theorem take_add1 {α : Type} {xs : List α} {k : Nat} {x : α} (h : xs[k]? = some x) : xs.take (k + 1) = xs.take k ++ [x] := by
  have hl := lt_get h
  rw [List.getElem?_eq_getElem hl] at h
  injection h with h
  rw [List.take_succ_eq_append_getElem hl, h]
theorem rng_count {n v : Nat} : (rng n).count (v : Int) = if v < n then 1 else 0 := by
  unfold rng
  induction n with
  | zero => simp
  | succ n ih =>
    rw [List.range_succ, List.map_append, List.count_append, ih, List.map_cons, List.map_nil, List.count_singleton]
    by_cases h2 : v = n
    · subst h2; simp
    · have h3 : ((n : Int) == (v : Int)) = false := by
        rw [beq_eq_false_iff_ne]
        omega
      rw [h3]
      by_cases h : v < n
      · rw [if_pos h, if_pos (show v < n + 1 by omega)]; rfl
      · rw [if_neg h, if_neg (show ¬ v < n + 1 by omega)]; rfl
def prmB (n : Nat) (p : List Int) : Bool := decide (p.length = n ∧ IsPerm p)
theorem prmB_true {n : Nat} {p : List Int} : prmB n p = true ↔ PermN n p := by
  unfold prmB
  rw [decide_eq_true_eq]
  exact ⟨fun h => ⟨h.1, h.2⟩, fun h => ⟨h.len, h.perm⟩⟩
theorem PermN.count {n : Nat} {p : List Int} (h : PermN n p) {v : Nat} (hv : v < n) : p.count (v : Int) = 1 := by
  rw [h.perm.perm.count_eq, rng_count, if_pos (by rw [h.len]; exact hv)]
theorem prm_of_count {n : Nat} {p : List Int} (hl : p.length = n) (h : ∀ v : Nat, v < n → p.count (v : Int) = 1) : PermN n p :=
  ⟨hl, isPerm_of_all fun v hv => List.count_pos_iff.1 (by rw [h v (by omega)]; omega)⟩
end Go.Tk
namespace Go.Proofs.Ytakepdkokjecoaa
open Go.RowKit Go.Tk

end Go.Proofs.Ytakepdkokjecoaa


/- Truth tables: the reference's DocRenamed. -/
namespace Go.Proofs.Ytakepdkokjecoaa
open Go.RowKit Go.Tk

def rnE (N : Int) (p : List Int) (ws : List Nat) : Int := if frm N ws then (if prmB N.toNat p then 0 else 4) else 5
theorem renP_zero_vals (n M : Nat) (p : List Int) (ws : List Nat) : vals M (renP n p ws 0) = List.replicate M false := by
  rw [← vals_false M]
  exact vals_congr fun i _ => renP_zero i
end Go.Proofs.Ytakepdkokjecoaa


/- Truth tables: Renamed of the program. -/
namespace Go.Tk
/-- which numbers stand among the first k -/
def seenL (xs : List Int) (k n : Nat) : List Bool := (List.range n).map fun j : Nat => decide ((j : Int) ∈ xs.take k)
theorem seenL_len (xs : List Int) (k n : Nat) : (seenL xs k n).length = n := by simp [seenL]
theorem seenL_get (xs : List Int) (k : Nat) {n j : Nat} (h : j < n) : (seenL xs k n)[j]? = some (decide ((j : Int) ∈ xs.take k)) := by simp [seenL, h]
theorem seenL_zero (xs : List Int) (n : Nat) : seenL xs 0 n = List.replicate n false := by
  apply List.ext_getElem?
  intro j
  rcases Nat.lt_or_ge j n with h | h
  · rw [seenL_get xs 0 h]; simp [h]
  · rw [List.getElem?_eq_none (by rw [seenL_len]; exact h), List.getElem?_eq_none (by simpa using h)]
theorem seenL_set {xs : List Int} {k n : Nat} {x : Nat} (h : xs[k]? = some (x : Int)) (hx : x < n) : (seenL xs k n).set x true = seenL xs (k + 1) n := by
  apply List.ext_getElem?
  intro j
  rcases Nat.lt_or_ge j n with hj | hj
  · rw [seenL_get xs (k + 1) hj, List.getElem?_set, seenL_len, seenL_get xs k hj, take_add1 h]
    split
    · rename_i he; subst he; simp
    · rename_i hne
      congr 1
      have : ¬ ((j : Int) = (x : Int)) := by omega
      simp [this]
  · rw [List.getElem?_eq_none (by simp [seenL_len, hj]), List.getElem?_eq_none (by rw [seenL_len]; exact hj)]
def GoodN (n : Nat) (xs : List Int) (k : Nat) : Prop := (∀ x, x ∈ xs.take k → 0 ≤ x ∧ x < n) ∧ (xs.take k).Nodup
theorem GoodN.next {n : Nat} {xs : List Int} {k : Nat} {x : Int} (h : GoodN n xs k) (hx : xs[k]? = some x) (h0 : 0 ≤ x) (h1 : x < n) (hn : x ∉ xs.take k) : GoodN n xs (k + 1) := by
  unfold GoodN
  rw [take_add1 hx]
  refine ⟨fun y hy => ?_, ?_⟩
  · rcases List.mem_append.1 hy with hy | hy
    · exact h.1 y hy
    · simp at hy; subst hy; exact ⟨h0, h1⟩
  · rw [List.nodup_append]
    exact ⟨h.2, by simp, fun a ha b hb => by simp at hb; subst hb; rintro rfl; exact hn ha⟩
theorem prmB_range {n : Nat} {xs : List Int} {k : Nat} {x : Int} (hx : xs[k]? = some x) (h : x < 0 ∨ (n : Int) ≤ x) : prmB n xs = false := by
  cases hp : prmB n xs with
  | false => rfl
  | true =>
    have h1 := prmB_true.1 hp
    have h2 := h1.perm.1 x (List.mem_of_getElem? hx)
    rw [h1.len] at h2
    omega
theorem prmB_dup {n : Nat} {xs : List Int} {k : Nat} {x : Int} (hx : xs[k]? = some x) (h : x ∈ xs.take k) : prmB n xs = false := by
  cases hp : prmB n xs with
  | false => rfl
  | true =>
    have h1 := prmB_true.1 hp
    have h3 : (xs.take (k + 1)).Nodup := h1.perm.2.sublist (List.take_sublist _ _)
    rw [take_add1 hx, List.nodup_append] at h3
    exact absurd rfl (h3.2.2 x h x (by simp))
theorem prmB_good {n : Nat} {xs : List Int} (h : GoodN n xs xs.length) (hl : xs.length = n) : PermN n xs := by
  unfold GoodN at h
  rw [List.take_length] at h
  exact ⟨hl, fun x hx => by rw [hl]; exact h.1 x hx, h.2⟩
theorem prmB_len {n : Nat} {xs : List Int} (h : xs.length ≠ n) : prmB n xs = false := by
  cases hp : prmB n xs with
  | false => rfl
  | true => exact absurd (prmB_true.1 hp).len h
theorem ren_zero (n : Nat) (p : List Int) (ws : List Nat) : ((List.range (nw n)).map fun _ => 0 &&& fullN n) = tab n (renP n p ws 0) := by
  unfold tab
  apply List.map_congr_left
  intro k _
  rw [Nat.zero_and]
  symm
  unfold word
  have : ∀ m, bsum (fun j => decide (64 * k + j < 2 ^ n) && renP n p ws 0 (64 * k + j)) m = 0 := by
    intro m
    induction m with
    | zero => rfl
    | succ m ih => rw [bsum, ih, renP_zero]; simp
  exact this 64
end Go.Tk
namespace Go.Proofs.Ytakepdkokjecoaa
open Go.RowKit Go.Tk

theorem mul_le16 {b u : Nat} (hb : b < 2) (hu : u < 16) : b * 2 ^ u ≤ 65536 := by
  have hpu : 2 ^ u ≤ 65536 := pow_le16 (show u ≤ 16 by omega)
  have h01 : b = 0 ∨ b = 1 := by omega
  rcases h01 with rfl | rfl
  · rw [Nat.zero_mul]; exact Nat.zero_le _
  · rw [Nat.one_mul]; exact hpu
theorem step_i {k m u s t : Nat} (hk : k < 65536) (hu : u < 16) (hs : s < 65536) (ht : s ||| (k / 2 ^ m % 2) * 2 ^ u = t) : ∃ q b c : Nat, (k : Int) / 2 ^ m = (q : Int) ∧ bits .and .i64 (q : Int) 1 = (b : Int) ∧ wrap64 ((b : Int) * 2 ^ u) = (c : Int) ∧ IntKind.i64.wrap ((b : Int) * 2 ^ u) = (c : Int) ∧ bits .or .i64 (s : Int) (c : Int) = (t : Int) ∧ c ≤ 65536 ∧ b < 2 ∧ q < 65536 ∧ (b : Int) * 2 ^ u = (c : Int) := by
  have hqk : k / 2 ^ m ≤ k := Nat.div_le_self _ _
  have hd2 := i64_and_nat (k / 2 ^ m) 1 (by omega) (by omega)
  rw [nat_mask1] at hd2
  have hb2 : k / 2 ^ m % 2 < 2 := Nat.mod_lt _ (by omega)
  have hc := mul_le16 hb2 hu
  have hmul : ((k / 2 ^ m % 2 : Nat) : Int) * 2 ^ u = (((k / 2 ^ m % 2) * 2 ^ u : Nat) : Int) := by rw [pow_int, ← Int.natCast_mul]
  refine ⟨k / 2 ^ m, k / 2 ^ m % 2, (k / 2 ^ m % 2) * 2 ^ u, by rw [pow_int]; exact (Int.natCast_ediv _ _).symm, hd2, ?_, ?_, ?_, hc, hb2, by omega, hmul⟩
  · rw [hmul]
    generalize (k / 2 ^ m % 2) * 2 ^ u = c at hc
    exact IntWalk.wrap64_in _ (by omega)
  · rw [hmul]
    generalize (k / 2 ^ m % 2) * 2 ^ u = c at hc
    exact IntWalk.i64_in _ (by omega)
  · rw [← ht]
    generalize (k / 2 ^ m % 2) * 2 ^ u = c at hc
    exact i64_or_nat s c (by omega) (by omega)
theorem step_w {x y r1 r2 : Nat} {v : Bool} (hx : x < 18446744073709551616) (hy : y < 18446744073709551616) (hr : r2 < 64) (hv : v = y.testBit r1) :
    ∃ z b c : Nat, (y : Int) / 2 ^ r1 = (z : Int) ∧ bits .and .u64 (z : Int) 1 = (b : Int) ∧ IntKind.u64.wrap ((b : Int) * 2 ^ r2) = (c : Int) ∧ bits .or .u64 (x : Int) (c : Int) = ((x ||| (if v then 1 else 0) * 2 ^ r2 : Nat) : Int) ∧ b < 2 ∧ z < 18446744073709551616 ∧ c < 18446744073709551616 := by
  have hyq : y / 2 ^ r1 ≤ y := Nat.div_le_self _ _
  have hbit : y / 2 ^ r1 % 2 = if v then 1 else 0 := by
    rw [hv, Nat.testBit_eq_decide_div_mod_eq]
    rcases Nat.mod_two_eq_zero_or_one (y / 2 ^ r1) with h | h <;> rw [h] <;> rfl
  have hb1 : (if v then 1 else 0) < 2 := by split <;> omega
  have he2 := u64_and_nat (y / 2 ^ r1) 1 (by omega) (by omega)
  rw [nat_mask1, hbit] at he2
  have hpr : 2 ^ r2 ≤ 9223372036854775808 := show 2 ^ r2 ≤ 2 ^ 63 from Nat.pow_le_pow_right (by omega) (by omega)
  have hbp : (if v then 1 else 0) * 2 ^ r2 ≤ 9223372036854775808 := by
    cases v
    · rw [if_neg (by decide), Nat.zero_mul]; exact Nat.zero_le _
    · rw [if_pos rfl, Nat.one_mul]; exact hpr
  refine ⟨y / 2 ^ r1, if v then 1 else 0, (if v then 1 else 0) * 2 ^ r2, by rw [pow_int]; exact (Int.natCast_ediv _ _).symm, he2, ?_, ?_, hb1, by omega, by omega⟩
  · rw [pow_int, ← Int.natCast_mul]
    generalize (if v then 1 else 0) * 2 ^ r2 = bp at hbp
    exact IntWalk.u64_in _ (by omega)
  · generalize (if v then 1 else 0) * 2 ^ r2 = bp at hbp
    exact u64_or_nat x bp hx (by omega)
theorem dm64 (k : Nat) : (k : Int) / 64 = ((k / 64 : Nat) : Int) ∧ (k : Int) % 64 = ((k % 64 : Nat) : Int) ∧ k % 64 < 64 ∧ min (k % 64) 64 = k % 64 ∧ (0 : Int) ≤ ((k / 64 : Nat) : Int) := by
  refine ⟨by omega, by omega, by omega, by omega, by omega⟩
theorem ren1_any (i : Nat) (w : World) : Calls Try.prog 31 #[.int .i64 i] w fun e w' => e = .returned (.int .u64 ((0 : Nat) : Int)) ∧ w = w' := by
  go_enter Try.func31, Try.ntmps31
  go_wp2
  go_ret
  exact ⟨rfl, rfl⟩
set_option maxRecDepth 100000 in
set_option maxHeartbeats 16000000 in
theorem Renamed_any (Na : Int) (Aa : Option Addr) (Ca : Nat) (wsa : List Nat) (Ap : Option Addr) (Lp Cp : Nat) (p : List Int) (w : World) (h : TbOk w ⟨Na, Aa, Ca, wsa⟩) (hp : IL w Ap Lp p) (hLp : Lp ≤ 1000000000000000000) : Calls Try.prog 15 #[.agg #[.int .i64 Na, .slice Aa wsa.length Ca], .slice Ap Lp Cp] w (RetA w Na (tab Na.toNat (renF Na.toNat p wsa)) (rnE Na p wsa)) := by
  have H := Lib.hid h
  have HP := Lib.hid hp
  unfold rnE
  cases hfr : frm Na wsa with
  | false =>
    rw [if_neg (by decide)]
    unfold RetA
    rw [show ansN Na 5 = 0 from rfl, show ansL (tab Na.toNat (renF Na.toNat p wsa)) 5 = [] from rfl]
    have HFM := Lib.hid ((frm_one Na Aa Ca wsa).trans hfr)
    clear hfr hp h
    go_enter Try.func15, Try.ntmps15
    go_upto_region 1 with fail
    refine wp_world fun w1 hw1 => ?_
    have hs1 : Same w w1 := by rw [hw1]; exact ((Frm.refl _ _).alloc _).alloc _
    have hBXa : Blk w1 (w.heap.size) 37 #[.int .i64 Na, .slice Aa wsa.length Ca] := by
      rw [hw1]
      have := ((Blk.new w 37 #[.int .i64 Na, .slice Aa wsa.length Ca]).alloc (.cells #[.int .i64 0, .slice none 0 0] 37))
      simpa using this
    have hBR : Blk w1 (w.heap.size + 1) 37 #[.int .i64 0, .slice none 0 0] := by
      rw [hw1]
      have := (Blk.new (w.alloc (.cells #[.int .i64 Na, .slice Aa wsa.length Ca] 37)) 37 #[.int .i64 0, .slice none 0 0])
      simpa using this
    clear hw1
    obtain ⟨R, hR⟩ : ∃ b, w.heap.size + 1 = b := ⟨_, rfl⟩
    rw [hR] at hBR ⊢
    have leR : w.heap.size ≤ R := by omega
    have neXaR : w.heap.size ≠ R := by omega
    clear hR
    have cXa0 : w1.cell? ⟨w.heap.size, 0, none⟩ = some (.int .i64 Na) := hBXa.cell 0
    have cXa1 : w1.cell? ⟨w.heap.size, 1, none⟩ = some (.slice Aa wsa.length Ca) := hBXa.cell 1
    have lXa := hBXa.lt
    have fXa0 := hBXa.free 0
    have fXa1 := hBXa.free 1
    have HBXa := Lib.hid hBXa
    have cR0 : w1.cell? ⟨R, 0, none⟩ = some (.int .i64 0) := hBR.cell 0
    have cR1 : w1.cell? ⟨R, 1, none⟩ = some (.slice none 0 0) := hBR.cell 1
    have lR := hBR.lt
    have fR0 := hBR.free 0
    have fR1 := hBR.free 1
    have HBR := Lib.hid hBR
    have HS1 := Lib.hid hs1
    clear hs1 hBXa hBR
    have HOKa := Lib.hid (H.out.same HS1.out)
    go_wp2_with (fail)
    refine call_world fun w2 hw2 => ?_
    have hs2 : Same w1 w2 := by rw [hw2]; exact (Frm.refl _ _).alloc _
    have hBL : Blk w2 w1.heap.size 37 #[.int .i64 Na, .slice Aa wsa.length Ca] := by rw [hw2]; exact Blk.new _ _ _
    have htbs : Tbs w2 w1.heap.size [⟨Na, Aa, Ca, wsa⟩] := by
      intro i t hi
      match i, hi with
      | 0, hi =>
        simp only [List.getElem?_cons_zero, Option.some.injEq] at hi
        subst hi
        exact ⟨hBL.lt, hBL.cell 0, hBL.cell 1⟩
      | i + 1, hi => simp at hi
    have hfc := form_any w1.heap.size 1 1 [⟨Na, Aa, Ca, wsa⟩] w2 rfl (by decide) htbs (fun t ht => by
      simp only [List.mem_cons, List.not_mem_nil, or_false] at ht
      rcases ht with rfl
      · exact (HOKa.out).same hs2)
    rw [HFM.out] at hfc
    refine hfc.mono ?_
    clear hfc htbs hBL hw2
    rintro e w3 ⟨rfl, hs3⟩
    have hs13 : Same w1 w3 := hs2.trans hs3 (fun _ _ h => h)
    clear hs2 hs3
    replace HBXa := Lib.hid (HBXa.out.frm hs13 id)
    replace cXa0 : w3.cell? ⟨w.heap.size, 0, none⟩ = some (.int .i64 Na) := HBXa.out.cell 0
    replace cXa1 : w3.cell? ⟨w.heap.size, 1, none⟩ = some (.slice Aa wsa.length Ca) := HBXa.out.cell 1
    replace lXa := HBXa.out.lt
    replace fXa0 := HBXa.out.free 0
    replace fXa1 := HBXa.out.free 1
    replace HBR := Lib.hid (HBR.out.frm hs13 id)
    replace cR0 : w3.cell? ⟨R, 0, none⟩ = some (.int .i64 0) := HBR.out.cell 0
    replace cR1 : w3.cell? ⟨R, 1, none⟩ = some (.slice none 0 0) := HBR.out.cell 1
    replace lR := HBR.out.lt
    replace fR0 := HBR.out.free 0
    replace fR1 := HBR.out.free 1
    replace HS1 := Lib.hid (HS1.out.trans hs13 (fun _ _ h => h))
    clear hs13
    go_wp2
    refine wp_post fun we hwe => ?_
    have hBE : Blk we R 37 #[.int .i64 0, .slice none 0 0] := by
      rw [hwe]
      have := (HBR.out.set 0 (.int .i64 0)).set 1 (.slice none 0 0)
      simpa using this
    have hSE : Same w we := by rw [hwe]; exact (HS1.out.setNew 0 _ leR).setNew 1 _ leR
    have hr0 : we.cell? ⟨R, 0, none⟩ = some (.int .i64 0) := hBE.cell 0
    have hr1 : we.cell? ⟨R, 1, none⟩ = some (.slice none 0 0) := hBE.cell 1
    clear hwe hBE
    refine bodyPost_ret (v := .tuple #[.agg #[.int .i64 0, .slice none 0 0], .int .i64 5]) (by simp [results, Try.results15, go_sem, hr0, hr1]) rfl ?_
    exact ⟨none, 0, rfl, NewT.nil hSE⟩
  | true =>
    rw [if_pos rfl]
    obtain ⟨n, rfl, hform⟩ := frm_true hfr
    have HFM := Lib.hid ((frm_one n Aa Ca wsa).trans hfr)
    have hn := hform.n16
    rw [Int.toNat_natCast]
    have hpl := hp.len
    have hmk := fun w => run_make_n (P := Try.prog) Try.underlying53 info_bool .i64 .i64 n (show 1 * n ≤ 281474976710656 by omega) (show n ≤ 9223372036854775807 by omega) w
    obtain ⟨err, herr⟩ : ∃ e : Int, (if prmB n p = true then (0 : Int) else 4) = e := ⟨_, rfl⟩
    rw [herr]
    have HERR := Lib.hid herr
    have HPL := Lib.hid hpl
    have HFa := Lib.hid hform
    clear hfr hp h hpl herr hform
    unfold RetA
    go_enter Try.func15, Try.ntmps15
    go_upto_region 1 with fail
    refine wp_world fun w1 hw1 => ?_
    have hs1 : Same w w1 := by rw [hw1]; exact ((Frm.refl _ _).alloc _).alloc _
    have hBXa : Blk w1 (w.heap.size) 37 #[.int .i64 n, .slice Aa wsa.length Ca] := by
      rw [hw1]
      have := ((Blk.new w 37 #[.int .i64 n, .slice Aa wsa.length Ca]).alloc (.cells #[.int .i64 0, .slice none 0 0] 37))
      simpa using this
    have hBR : Blk w1 (w.heap.size + 1) 37 #[.int .i64 0, .slice none 0 0] := by
      rw [hw1]
      have := (Blk.new (w.alloc (.cells #[.int .i64 n, .slice Aa wsa.length Ca] 37)) 37 #[.int .i64 0, .slice none 0 0])
      simpa using this
    clear hw1
    obtain ⟨R, hR⟩ : ∃ b, w.heap.size + 1 = b := ⟨_, rfl⟩
    rw [hR] at hBR ⊢
    have leR : w.heap.size ≤ R := by omega
    have neXaR : w.heap.size ≠ R := by omega
    clear hR
    have cXa0 : w1.cell? ⟨w.heap.size, 0, none⟩ = some (.int .i64 n) := hBXa.cell 0
    have cXa1 : w1.cell? ⟨w.heap.size, 1, none⟩ = some (.slice Aa wsa.length Ca) := hBXa.cell 1
    have lXa := hBXa.lt
    have fXa0 := hBXa.free 0
    have fXa1 := hBXa.free 1
    have HBXa := Lib.hid hBXa
    have cR0 : w1.cell? ⟨R, 0, none⟩ = some (.int .i64 0) := hBR.cell 0
    have cR1 : w1.cell? ⟨R, 1, none⟩ = some (.slice none 0 0) := hBR.cell 1
    have lR := hBR.lt
    have fR0 := hBR.free 0
    have fR1 := hBR.free 1
    have HBR := Lib.hid hBR
    have HS1 := Lib.hid hs1
    clear hs1 hBXa hBR
    have HOKa := Lib.hid (H.out.same HS1.out)
    go_wp2_with (fail)
    refine call_world fun w2 hw2 => ?_
    have hs2 : Same w1 w2 := by rw [hw2]; exact (Frm.refl _ _).alloc _
    have hBL : Blk w2 w1.heap.size 37 #[.int .i64 n, .slice Aa wsa.length Ca] := by rw [hw2]; exact Blk.new _ _ _
    have htbs : Tbs w2 w1.heap.size [⟨n, Aa, Ca, wsa⟩] := by
      intro i t hi
      match i, hi with
      | 0, hi =>
        simp only [List.getElem?_cons_zero, Option.some.injEq] at hi
        subst hi
        exact ⟨hBL.lt, hBL.cell 0, hBL.cell 1⟩
      | i + 1, hi => simp at hi
    have hfc := form_any w1.heap.size 1 1 [⟨n, Aa, Ca, wsa⟩] w2 rfl (by decide) htbs (fun t ht => by
      simp only [List.mem_cons, List.not_mem_nil, or_false] at ht
      rcases ht with rfl
      · exact (HOKa.out).same hs2)
    rw [HFM.out] at hfc
    refine hfc.mono ?_
    clear hfc htbs hBL hw2
    rintro e w3 ⟨rfl, hs3⟩
    have hs13 : Same w1 w3 := hs2.trans hs3 (fun _ _ h => h)
    clear hs2 hs3
    replace HBXa := Lib.hid (HBXa.out.frm hs13 id)
    replace cXa0 : w3.cell? ⟨w.heap.size, 0, none⟩ = some (.int .i64 n) := HBXa.out.cell 0
    replace cXa1 : w3.cell? ⟨w.heap.size, 1, none⟩ = some (.slice Aa wsa.length Ca) := HBXa.out.cell 1
    replace lXa := HBXa.out.lt
    replace fXa0 := HBXa.out.free 0
    replace fXa1 := HBXa.out.free 1
    replace HBR := Lib.hid (HBR.out.frm hs13 id)
    replace cR0 : w3.cell? ⟨R, 0, none⟩ = some (.int .i64 0) := HBR.out.cell 0
    replace cR1 : w3.cell? ⟨R, 1, none⟩ = some (.slice none 0 0) := HBR.out.cell 1
    replace lR := HBR.out.lt
    replace fR0 := HBR.out.free 0
    replace fR1 := HBR.out.free 1
    replace HS1 := Lib.hid (HS1.out.trans hs13 (fun _ _ h => h))
    clear hs13
    go_upto_region 4 with fail
    refine wp_world fun w5 hw5 => ?_
    have hsv : Same w3 w5 := by rw [hw5]; exact (Frm.refl _ _).alloc _
    have hOD : OwnB w5 (some ⟨w3.heap.size, 0, none⟩) n n (seenL p 0 n) := by
      rw [seenL_zero, hw5]
      have := Own.ofMade (m := 1) w3 4 (fun b : Bool => [.bool b]) (fun _ => rfl) (by decide) false n (show n ≤ 9223372036854775807 by omega) rfl
      simpa using this
    clear hw5 hmk
    obtain ⟨D, hD⟩ : ∃ D, w3.heap.size = D := ⟨_, rfl⟩
    rw [hD] at hOD ⊢
    have hneXaD : w.heap.size ≠ D := by have := HBXa.out.lt; omega
    have hneRD : R ≠ D := by have := HBR.out.lt; omega
    have hDn : w.heap.size ≤ D := by have := HS1.out.size; omega
    have HOD := Lib.hid hOD
    clear hD hOD
    replace HBXa := Lib.hid (HBXa.out.frm hsv id)
    replace cXa0 : w5.cell? ⟨w.heap.size, 0, none⟩ = some (.int .i64 n) := HBXa.out.cell 0
    replace cXa1 : w5.cell? ⟨w.heap.size, 1, none⟩ = some (.slice Aa wsa.length Ca) := HBXa.out.cell 1
    replace lXa := HBXa.out.lt
    replace fXa0 := HBXa.out.free 0
    replace fXa1 := HBXa.out.free 1
    replace HBR := Lib.hid (HBR.out.frm hsv id)
    replace cR0 : w5.cell? ⟨R, 0, none⟩ = some (.int .i64 0) := HBR.out.cell 0
    replace cR1 : w5.cell? ⟨R, 1, none⟩ = some (.slice none 0 0) := HBR.out.cell 1
    replace lR := HBR.out.lt
    replace fR0 := HBR.out.free 0
    replace fR1 := HBR.out.free 1
    replace HS1 := Lib.hid (HS1.out.trans hsv (fun _ _ h => h))
    clear hsv
    go_wp2
    go_loopw [24] (fun i wr => ∃ k : Nat, k ≤ Lp ∧ i = .int .i64 k ∧ GoodN n p k ∧ Same w wr ∧ Blk wr w.heap.size 37 #[.int .i64 n, .slice Aa wsa.length Ca] ∧ Blk wr R 37 #[.int .i64 0, .slice none 0 0] ∧ OwnB wr (some ⟨D, 0, none⟩) n n (seenL p k n)) (fun i _ => Lp - (intOf i).toNat)
    case atStart => exact ⟨0, by omega, rfl, ⟨by simp, by simp⟩, HS1.out, HBXa.out, HBR.out, HOD.out⟩
    case round =>
      obtain ⟨k, hk, rfl, hg, hs, hBXa, hBR, hOD⟩ := hrel
      replace HS1 := Lib.hid hs
      replace HBXa := Lib.hid hBXa
      replace HBR := Lib.hid hBR
      replace HOD := Lib.hid hOD
      have HG := Lib.hid hg
      clear cXa0 cXa1 fXa0 fXa1 lXa cR0 cR1 fR0 fR1 lR hs hBXa hBR hOD hg
      have cXa0 : wr.cell? ⟨w.heap.size, 0, none⟩ = some (.int .i64 n) := HBXa.out.cell 0
      have cXa1 : wr.cell? ⟨w.heap.size, 1, none⟩ = some (.slice Aa wsa.length Ca) := HBXa.out.cell 1
      have lXa := HBXa.out.lt
      have cR0 : wr.cell? ⟨R, 0, none⟩ = some (.int .i64 0) := HBR.out.cell 0
      have cR1 : wr.cell? ⟨R, 1, none⟩ = some (.slice none 0 0) := HBR.out.cell 1
      have lR := HBR.out.lt
      have fR0 := HBR.out.free 0
      have fR1 := HBR.out.free 1
      by_cases hlt : k < Lp
      · obtain ⟨x, hx⟩ : ∃ x, p[k]? = some x := ⟨_, List.getElem?_eq_getElem (by rw [← HPL.out]; exact hlt)⟩
        obtain ⟨bp, op, hA, hb, hc⟩ := (Sl.same HP.out HS1.out).at1 hx
        subst hA
        have hk0 : (0 : Int) ≤ k := by omega
        have hk1 : (k : Int) < Lp := by omega
        have HX := Lib.hid hx
        clear hx
        by_cases h0 : x < 0
        · have he : err = 4 := by rw [← HERR.out, prmB_range HX.out (.inl h0), if_neg (by decide)]
          subst he
          go_wp2
          refine wp_post fun we hwe => ?_
          have hBE : Blk we R 37 #[.int .i64 0, .slice none 0 0] := by
            rw [hwe]
            have := (HBR.out.set 0 (.int .i64 0)).set 1 (.slice none 0 0)
            simpa using this
          have hSE : Same w we := by rw [hwe]; exact (HS1.out.setNew 0 _ leR).setNew 1 _ leR
          have hr0 : we.cell? ⟨R, 0, none⟩ = some (.int .i64 0) := hBE.cell 0
          have hr1 : we.cell? ⟨R, 1, none⟩ = some (.slice none 0 0) := hBE.cell 1
          clear hwe hBE
          refine bodyPost_ret (v := .tuple #[.agg #[.int .i64 0, .slice none 0 0], .int .i64 4]) (by simp [results, Try.results15, go_sem, hr0, hr1]) rfl ?_
          exact ⟨none, 0, rfl, NewT.nil hSE⟩
        by_cases h1 : x ≥ n
        · have he : err = 4 := by rw [← HERR.out, prmB_range HX.out (.inr h1), if_neg (by decide)]
          subst he
          go_wp2
          refine wp_post fun we hwe => ?_
          have hBE : Blk we R 37 #[.int .i64 0, .slice none 0 0] := by
            rw [hwe]
            have := (HBR.out.set 0 (.int .i64 0)).set 1 (.slice none 0 0)
            simpa using this
          have hSE : Same w we := by rw [hwe]; exact (HS1.out.setNew 0 _ leR).setNew 1 _ leR
          have hr0 : we.cell? ⟨R, 0, none⟩ = some (.int .i64 0) := hBE.cell 0
          have hr1 : we.cell? ⟨R, 1, none⟩ = some (.slice none 0 0) := hBE.cell 1
          clear hwe hBE
          refine bodyPost_ret (v := .tuple #[.agg #[.int .i64 0, .slice none 0 0], .int .i64 4]) (by simp [results, Try.results15, go_sem, hr0, hr1]) rfl ?_
          exact ⟨none, 0, rfl, NewT.nil hSE⟩
        obtain ⟨y, rfl⟩ := Int.eq_ofNat_of_zero_le (show 0 ≤ x by omega)
        have hyl : y < n := by omega
        have hyl2 : (y : Int) < n := by omega
        have hy3 : ¬ n ≤ y := by omega
        have hgt := seenL_get p k hyl
        obtain ⟨sb, hsb, hsl, hsc⟩ := Own.at1 (c := fun b : Bool => .bool b) HOD.out hgt
        injection hsb with hsb
        injection hsb with hsb
        subst hsb
        have hfr := Own.free HOD.out y
        clear hgt
        by_cases hd : (y : Int) ∈ p.take k
        · have hd' : decide ((y : Int) ∈ p.take k) = true := by simpa using hd
          rw [hd'] at hsc
          have he : err = 4 := by rw [← HERR.out, prmB_dup HX.out hd, if_neg (by decide)]
          subst he
          clear hd hd'
          go_wp2
          refine wp_post fun we hwe => ?_
          have hBE : Blk we R 37 #[.int .i64 0, .slice none 0 0] := by
            rw [hwe]
            have := (HBR.out.set 0 (.int .i64 0)).set 1 (.slice none 0 0)
            simpa using this
          have hSE : Same w we := by rw [hwe]; exact (HS1.out.setNew 0 _ leR).setNew 1 _ leR
          have hr0 : we.cell? ⟨R, 0, none⟩ = some (.int .i64 0) := hBE.cell 0
          have hr1 : we.cell? ⟨R, 1, none⟩ = some (.slice none 0 0) := hBE.cell 1
          clear hwe hBE
          refine bodyPost_ret (v := .tuple #[.agg #[.int .i64 0, .slice none 0 0], .int .i64 4]) (by simp [results, Try.results15, go_sem, hr0, hr1]) rfl ?_
          exact ⟨none, 0, rfl, NewT.nil hSE⟩
        · have hd' : decide ((y : Int) ∈ p.take k) = false := by simpa using hd
          rw [hd'] at hsc
          have HD := Lib.hid hd
          clear hd hd'
          have hst := Own.put1 (c := fun b : Bool => .bool b) HOD.out (i := y) (by rw [seenL_len]; exact hyl) true
          rw [seenL_set HX.out hyl] at hst
          have HST := Lib.hid hst
          clear hst
          go_wp2
          go_roundw
          case rel => exact ⟨k + 1, by omega, by go_num, HG.out.next HX.out (by omega) (by omega) HD.out, HS1.out.setNew y _ hDn, HBXa.out.far (p := ⟨D, y, none⟩) hneXaD _, HBR.out.far (p := ⟨D, y, none⟩) hneRD _, HST.out⟩
          case measure => simp [intOf] <;> omega
      · obtain rfl : k = Lp := by omega
        by_cases hln : k ≠ n
        · have he : err = 4 := by rw [← HERR.out, prmB_len (by rw [← HPL.out]; exact hln), if_neg (by decide)]
          subst he
          have hln2 : (k : Int) ≠ n := by omega
          go_wp2
          refine wp_post fun we hwe => ?_
          have hBE : Blk we R 37 #[.int .i64 0, .slice none 0 0] := by
            rw [hwe]
            have := (HBR.out.set 0 (.int .i64 0)).set 1 (.slice none 0 0)
            simpa using this
          have hSE : Same w we := by rw [hwe]; exact (HS1.out.setNew 0 _ leR).setNew 1 _ leR
          have hr0 : we.cell? ⟨R, 0, none⟩ = some (.int .i64 0) := hBE.cell 0
          have hr1 : we.cell? ⟨R, 1, none⟩ = some (.slice none 0 0) := hBE.cell 1
          clear hwe hBE
          refine bodyPost_ret (v := .tuple #[.agg #[.int .i64 0, .slice none 0 0], .int .i64 4]) (by simp [results, Try.results15, go_sem, hr0, hr1]) rfl ?_
          exact ⟨none, 0, rfl, NewT.nil hSE⟩
        obtain rfl : n = k := by omega
        have hPN : PermN n p := prmB_good (by rw [← HPL.out]; exact HG.out) HPL.out.symm
        have he : err = 0 := by rw [← HERR.out, prmB_true.2 hPN, if_pos rfl]
        subst he
        rw [show ansN n 0 = n from rfl, show ansL (tab n (renF n p wsa)) 0 = tab n (renF n p wsa) from rfl]
        have hsgl := fun (j k : Nat) (h : k ≤ n) => sg_lt hPN j k h
        have hsgo := fun (j k : Nat) (h : k < n) => sg_or hPN j h
        have hpvl := fun (v : Nat) (h : v < n) => hPN.lt h
        have hp0 : ∀ x ∈ p, 0 ≤ x := fun x hx => (hPN.perm.1 x hx).1
        have hset := fun (k : Nat) (h : k < 2 ^ n) => ren_word (ws := wsa) hPN h
        have hfull : tab n (renP n p wsa (2 ^ n)) = tab n (renF n p wsa) := tab_congr fun i _ => renP_full i
        have hdl : ∀ i, i < 2 ^ n → i / 64 < nw n := fun i hi => div_lt_nw hi
        have hdl2 : ∀ i, i < 2 ^ n → ∃ x, wsa[i / 64]? = some x := fun i hi => ⟨_, List.getElem?_eq_getElem (by rw [HFa.out.len]; exact div_lt_nw hi)⟩
        have hsw := pow_lt_shift hn
        have hsw2 := pow_lt_shift2 hn
        have hp16 := pow_le16 hn
        have hn0 : (0 : Int) ≤ n := by omega
        have hmn : min n 64 = n := by omega
        have hen : ∀ (args : Array Value) (w : World), (callFunc 31 args).run Try.prog w = .ok (.enter 31 args) w := enters_of Try.func31 (by kernel_rfl) rfl
        have HEN := Lib.hid hen
        have htl : Tells wr n 31 #[] (fun _ => 0) := fun i hi => ⟨by show (0 : Nat) < 18446744073709551616; omega, fun w' hs' => by
          refine (ren1_any i w').mono ?_
          rintro e w'' ⟨rfl, rfl⟩
          exact ⟨rfl, Frm.refl _ _⟩⟩
        have HTL := Lib.hid htl
        have hmf : ∀ (fn : Fn) (first cap : Array Value) (w : World), (Instr.makeFunc fn first cap).run Try.prog w = .ok (.func fn first cap) w := fun _ _ _ _ => rfl
        obtain ⟨M, hM⟩ : ∃ M, 2 ^ n = M := ⟨_, rfl⟩
        rw [hM] at hsgl hset hfull hdl hdl2 hsw hsw2 hp16
        have HSG := Lib.hid hsgl
        have HSO := Lib.hid hsgo
        have HPV := Lib.hid hpvl
        have HP0 := Lib.hid hp0
        have HSET := Lib.hid hset
        have HFULL := Lib.hid hfull
        have HDL := Lib.hid hdl
        have HDL2 := Lib.hid hdl2
        clear hsgl hsgo hpvl hp0 hset hfull hdl hdl2 hen htl hM hPN
        go_wp2_with (fail)
        refine (laid_any n 31 #[] (fun _ => 0) wr hn HEN.out HTL.out).mono ?_
        rintro e w6 ⟨Aq, Cq, rfl, hNT⟩
        rw [ren_zero n p wsa] at hNT ⊢
        obtain ⟨sb, rfl, hsbl⟩ := Own.form1 hNT.1 (by rw [tab_len]; exact nw_pos n)
        have hsbn : wr.heap.size ≤ sb := hNT.2.1 sb ⟨_, rfl, rfl⟩
        have hOT := hNT.1
        have hsv := hNT.2.2
        rw [tab_len] at hOT ⊢
        obtain ⟨K, hK⟩ : ∃ K, nw n = K := ⟨_, rfl⟩
        rw [hK] at hOT HDL ⊢
        have hneXs : w.heap.size ≠ sb := by omega
        have hneRs : R ≠ sb := by omega
        have hsbW : w.heap.size ≤ sb := by omega
        have HOT := Lib.hid hOT
        have hKl : (ansL (tab n (renF n p wsa)) 0).length = K := by rw [show ansL (tab n (renF n p wsa)) 0 = tab n (renF n p wsa) from rfl, tab_len, hK]
        have HKL := Lib.hid hKl
        have hKn := fun k => (tab_len n (renP n p wsa k)).trans hK
        have HKN := Lib.hid hKn
        clear hNT hOT hK hKl hKn hneXaD hneRD hDn HOD
        replace HBXa := Lib.hid (HBXa.out.frm hsv id)
        replace HBR := Lib.hid (HBR.out.frm hsv id)
        replace HS1 := Lib.hid (HS1.out.trans hsv (fun _ _ h => h))
        clear cXa0 cXa1 lXa cR0 cR1 lR fR0 fR1
        have cXa0 : w6.cell? ⟨w.heap.size, 0, none⟩ = some (.int .i64 n) := HBXa.out.cell 0
        have cXa1 : w6.cell? ⟨w.heap.size, 1, none⟩ = some (.slice Aa wsa.length Ca) := HBXa.out.cell 1
        have lXa := HBXa.out.lt
        have cR0 : w6.cell? ⟨R, 0, none⟩ = some (.int .i64 0) := HBR.out.cell 0
        have cR1 : w6.cell? ⟨R, 1, none⟩ = some (.slice none 0 0) := HBR.out.cell 1
        have lR := HBR.out.lt
        have fR0 := HBR.out.free 0
        have fR1 := HBR.out.free 1
        go_upto_region 14 with fail
        refine wp_world fun w7 hw7 => ?_
        have hsv : Same w6 w7 := by rw [hw7]; exact (Frm.refl _ _).alloc _
        have hBT : Blk w7 w6.heap.size 37 #[.int .i64 n, .slice (some ⟨sb, 0, none⟩) K Cq] := by rw [hw7]; exact Blk.new _ _ _
        clear hw7
        replace HBXa := Lib.hid (HBXa.out.frm hsv id)
        replace HBR := Lib.hid (HBR.out.frm hsv id)
        replace HS1 := Lib.hid (HS1.out.trans hsv (fun _ _ h => h))
        replace HOT := Lib.hid (Own.frm HOT.out hsv (fun _ _ => id))
        obtain ⟨T, hT⟩ : ∃ b, w6.heap.size = b := ⟨_, rfl⟩
        rw [hT] at hBT ⊢
        have hneTs : T ≠ sb := by omega
        have HBT := Lib.hid hBT
        clear hT hBT hsv hsbl cXa0 cXa1 lXa cR0 cR1 lR fR0 fR1
        have cXa0 : w7.cell? ⟨w.heap.size, 0, none⟩ = some (.int .i64 n) := HBXa.out.cell 0
        have cXa1 : w7.cell? ⟨w.heap.size, 1, none⟩ = some (.slice Aa wsa.length Ca) := HBXa.out.cell 1
        have lXa := HBXa.out.lt
        have cR0 : w7.cell? ⟨R, 0, none⟩ = some (.int .i64 0) := HBR.out.cell 0
        have cR1 : w7.cell? ⟨R, 1, none⟩ = some (.slice none 0 0) := HBR.out.cell 1
        have lR := HBR.out.lt
        have fR0 := HBR.out.free 0
        have fR1 := HBR.out.free 1
        go_wp2
        go_loopw [59] (fun i wr => ∃ k : Nat, k ≤ M ∧ i = .int .i64 k ∧ Same w wr ∧ Blk wr w.heap.size 37 #[.int .i64 n, .slice Aa wsa.length Ca] ∧ Blk wr R 37 #[.int .i64 0, .slice none 0 0] ∧ Blk wr T 37 #[.int .i64 n, .slice (some ⟨sb, 0, none⟩) K Cq] ∧ OwnW wr (some ⟨sb, 0, none⟩) K Cq (tab n (renP n p wsa k))) (fun i _ => M - (intOf i).toNat)
        case atStart => exact ⟨0, by omega, rfl, HS1.out, HBXa.out, HBR.out, HBT.out, HOT.out⟩
        case round =>
          obtain ⟨k, hk, rfl, hs, hBXa, hBR, hBT, hOT⟩ := hrel
          replace HS1 := Lib.hid hs
          replace HBXa := Lib.hid hBXa
          replace HBR := Lib.hid hBR
          replace HBT := Lib.hid hBT
          replace HOT := Lib.hid hOT
          clear cXa0 cXa1 lXa cR0 cR1 lR fR0 fR1 hs hBXa hBR hBT hOT
          by_cases hltM : k < M
          · have hk0 : (0 : Int) ≤ k := by omega
            have hk1 : (k : Int) < M := by omega
            go_wp2
            refine wp_world fun wq hwq => ?_
            subst hwq
            go_loopw [11, 64] (fun s i wi => ∃ m : Nat, m ≤ n ∧ i = .int .i64 m ∧ s = .int .i64 (sg p k m : Nat) ∧ wq = wi) (fun _ i _ => n - (intOf i).toNat)
            case atStart => exact ⟨0, by omega, rfl, rfl, rfl⟩
            case round =>
              obtain ⟨m, hm, rfl, rfl, rfl⟩ := hrel
              have hsl := HSG.out k m (by omega)
              by_cases hlm : m < n
              · obtain ⟨x, hx⟩ : ∃ x, p[m]? = some x := ⟨_, List.getElem?_eq_getElem (by rw [← HPL.out]; exact hlm)⟩
                obtain ⟨bp, op, hA, hb, hc⟩ := (Sl.same HP.out HS1.out).at1 hx
                have hpv := HPV.out m hlm
                have hx0 := HP0.out x (List.mem_of_getElem? hx)
                have hor := HSO.out k m hlm
                rw [pv_get hx] at hpv hor
                obtain ⟨u, rfl⟩ := Int.eq_ofNat_of_zero_le hx0
                rw [Int.toNat_natCast] at hpv hor
                subst hA
                have hm0 : (0 : Int) ≤ m := by omega
                have hm1 : (m : Int) < n := by omega
                obtain ⟨q, b, c, hd1, hd2, hd3, hd5, hd4, hc16, hb2, hq16, hd6⟩ := step_i (k := k) (m := m) (u := u) (by omega) (by omega) (by omega) hor
                have hu0 : (0 : Int) ≤ u := by omega
                have hmu : min u 64 = u := by omega
                have hmm : min m 64 = m := by omega
                clear hor hx
                go_wp2
                go_roundw
                case rel => exact ⟨m + 1, by omega, by go_num, rfl, trivial⟩
                case measure => simp [intOf] <;> omega
              · have hmn : m = n := by omega
                subst hmn
                obtain ⟨y, hy⟩ := HDL2.out k hltM
                have hyl := H.out.small.at1 hy
                have hkl : k / 64 < wsa.length := lt_get hy
                have hvb : vb wsa k = y.testBit (k % 64) := by unfold vb; rw [List.getD_eq_getElem?_getD, hy]; rfl
                obtain ⟨ba, offa, hAa, hbla, hca⟩ := WL.at1 (Sl.same H.out.wl HS1.out) hy
                simp only at hAa
                subst hAa
                have hset := HSET.out k hltM
                have hdk := HDL.out (sg p k m) hsl
                have hget : (tab m (renP m p wsa k))[sg p k m / 64]? = some (word m (renP m p wsa k) (sg p k m / 64)) := tab_get (by have := HKN.out k; rw [tab_len] at this; rw [this]; exact hdk)
                have hwl := word_lt m (renP m p wsa k) (sg p k m / 64)
                obtain ⟨sb', hsb', hsl2, hsc⟩ := HOT.out.at1 (c := fun x : Nat => .int .u64 (x : Int)) hget
                injection hsb' with hsb'
                injection hsb' with hsb'
                subst hsb'
                have hst := fun (w' : World) (hs' : Same wq w') => Own.put1 (c := fun x : Nat => .int .u64 (x : Int)) (Own.frm HOT.out hs' (fun _ _ => id)) (i := sg p k m / 64) (by rw [HKN.out]; exact hdk) (word m (renP m p wsa k) (sg p k m / 64) ||| (if vb wsa k then 1 else 0) * 2 ^ (sg p k m % 64))
                rw [hset] at hst
                obtain ⟨hn1, hn2, hr1, hm1, hq2⟩ := dm64 k
                obtain ⟨hn3, hn4, hr2, hm2, hq4⟩ := dm64 (sg p k m)
                have hq1 : ((k / 64 : Nat) : Int) < wsa.length := Int.ofNat_lt.2 hkl
                have hq3 : ((sg p k m / 64 : Nat) : Int) < K := Int.ofNat_lt.2 hdk
                have hcT : _ = some (Value.slice (some ⟨sb, 0, none⟩) K Cq) := HBT.out.cell 1
                have hlT := HBT.out.lt
                have hcX : _ = some (Value.slice (some ⟨ba, offa, none⟩) wsa.length Ca) := HBXa.out.cell 1
                have hlX := HBXa.out.lt
                obtain ⟨z, b, bp, he1, he2, he3, he4, hb1, hz64, hbp64⟩ := step_w (x := word m (renP m p wsa k) (sg p k m / 64)) (y := y) (r1 := k % 64) (r2 := sg p k m % 64) (v := vb wsa k) hwl hyl hr2 hvb
                have hHST := Lib.hid hst
                clear hst hset hget hy hvb
                generalize word m (renP m p wsa k) (sg p k m / 64) ||| (if vb wsa k then 1 else 0) * 2 ^ (sg p k m % 64) = nx at *
                generalize word m (renP m p wsa k) (sg p k m / 64) = x at *
                generalize sg p k m % 64 = r2 at *
                generalize sg p k m / 64 = q2 at *
                generalize sg p k m = sk at *
                generalize k % 64 = r1 at *
                generalize k / 64 = q1 at *
                go_upto_region 23 with fail
                refine wp_quiet_tail 21 (by kernel_rfl) (by kernel_rfl) ?_
                simp only [List.take_succ_cons, List.take_zero, List.drop_succ_cons, List.drop_zero]
                repeat (any_goals (first | go_big_quiet_step (fail) | quiet_step (fail)))
                refine wpQuiet_nil ?_
                rintro wz ⟨q, hq⟩
                have hsz : Same wq wz := by rw [hq]; exact more_same _ q
                have hfz := Own.free (Own.frm HOT.out hsz (fun _ _ => id)) q2
                have hcz := (hsz.cell (p := ⟨sb, q2, none⟩) hsl2 id).trans hsc
                have HSZ := Lib.hid ((HS1.out.trans hsz (fun _ _ h => h)).setNew (g := sb) q2 (.int .u64 (nx : Int)) hsbW)
                have HBXz := Lib.hid ((HBXa.out.frm hsz id).far (p := ⟨sb, q2, none⟩) hneXs (.int .u64 (nx : Int)))
                have HBRz := Lib.hid ((HBR.out.frm hsz id).far (p := ⟨sb, q2, none⟩) hneRs (.int .u64 (nx : Int)))
                have HBTz := Lib.hid ((HBT.out.frm hsz id).far (p := ⟨sb, q2, none⟩) hneTs (.int .u64 (nx : Int)))
                have HOZ := Lib.hid (hHST.out wz hsz)
                have hsbz : sb < wz.heap.size := Nat.lt_of_lt_of_le hsl2 hsz.size
                clear hq hsz hsc hsl2 hcT hlT hcX hlX hca hbla hn1 hn2 hn3 hn4 he1 he2 he3 he4 hm1 hm2
                go_wp2
                go_roundw
                case rel => exact ⟨k + 1, hltM, by go_num, HSZ.out, HBXz.out, HBRz.out, HBTz.out, HOZ.out⟩
                case measure => simp [intOf] <;> omega
          · obtain rfl : k = M := by omega
            rw [HFULL.out] at HOT
            have cT0 : _ = some (Value.int .i64 n) := HBT.out.cell 0
            have cT1 : _ = some (Value.slice (some ⟨sb, 0, none⟩) K Cq) := HBT.out.cell 1
            have lT := HBT.out.lt
            have cR0 : wr.cell? ⟨R, 0, none⟩ = some (.int .i64 0) := HBR.out.cell 0
            have cR1 : wr.cell? ⟨R, 1, none⟩ = some (.slice none 0 0) := HBR.out.cell 1
            have lR := HBR.out.lt
            have fR0 := HBR.out.free 0
            have fR1 := HBR.out.free 1
            go_wp2
            refine wp_post fun we hwe => ?_
            have hBE : Blk we R 37 #[.int .i64 n, .slice (some ⟨sb, 0, none⟩) K Cq] := by
              rw [hwe]
              have := (HBR.out.set 0 (.int .i64 n)).set 1 (.slice (some ⟨sb, 0, none⟩) K Cq)
              simpa using this
            have hSE : Same w we := by rw [hwe]; exact (HS1.out.setNew 0 _ leR).setNew 1 _ leR
            have hOE : OwnW we (some ⟨sb, 0, none⟩) K Cq (tab n (renF n p wsa)) := by
              rw [hwe]
              exact (Own.far (p := ⟨R, 0, none⟩) HOT.out (fun a ha h => by injection ha with ha; subst ha; exact hneRs h.symm) _).far (p := ⟨R, 1, none⟩) (fun a ha h => by injection ha with ha; subst ha; exact hneRs h.symm) _
            have hr0 : we.cell? ⟨R, 0, none⟩ = some (.int .i64 n) := hBE.cell 0
            have hr1 : we.cell? ⟨R, 1, none⟩ = some (.slice (some ⟨sb, 0, none⟩) K Cq) := hBE.cell 1
            clear hwe hBE
            refine bodyPost_ret (v := .tuple #[.agg #[.int .i64 n, .slice (some ⟨sb, 0, none⟩) K Cq], .int .i64 0]) (by simp [results, Try.results15, go_sem, hr0, hr1]) rfl ?_
            refine ⟨some ⟨sb, 0, none⟩, Cq, by rw [HKL.out]; rfl, ?_, fresh_some hsbW, hSE⟩
            rw [HKL.out]
            exact hOE
end Go.Proofs.Ytakepdkokjecoaa


/- Truth tables: renamings there, back, one behind the other: plain. -/
namespace Go.Tk

/-- back, after k variables -/
def bkL (n : Nat) (p : List Int) : Nat → List Int
  | 0 => List.replicate n 0
  | k + 1 => (bkL n p k).set (pv p k) (k : Int)
/-- both, after k variables -/
def boL (n : Nat) (p q : List Int) : Nat → List Int
  | 0 => List.replicate n 0
  | k + 1 => (boL n p q k).set k (q.getD (pv p k) 0)
theorem bkL_len (n : Nat) (p : List Int) : ∀ k, (bkL n p k).length = n
  | 0 => by simp [bkL]
  | k + 1 => by rw [bkL, List.length_set, bkL_len n p k]
theorem boL_len (n : Nat) (p q : List Int) : ∀ k, (boL n p q k).length = n
  | 0 => by simp [boL]
  | k + 1 => by rw [boL, List.length_set, boL_len n p q k]
theorem bkL_get {n : Nat} {p : List Int} (h : PermN n p) : ∀ k, k ≤ n → ∀ v, v < k → (bkL n p k)[pv p v]? = some (v : Int)
  | 0, _, v, hv => by omega
  | k + 1, hk, v, hv => by
    have hl := h.lt (v := v) (by omega)
    rw [bkL, List.getElem?_set, bkL_len]
    by_cases he : pv p k = pv p v
    · obtain rfl := h.inj (by omega) (by omega) he
      rw [if_pos he, if_pos hl]
    · rw [if_neg he]
      exact bkL_get h k (by omega) v (by
        have : v ≠ k := fun hvk => he (by rw [hvk])
        omega)
theorem boL_get {n : Nat} {p q : List Int} : ∀ k, k ≤ n → ∀ v, v < k → (boL n p q k)[v]? = some (q.getD (pv p v) 0)
  | 0, _, v, hv => by omega
  | k + 1, hk, v, hv => by
    rw [boL, List.getElem?_set, boL_len]
    by_cases he : k = v
    · subst he
      rw [if_pos rfl, if_pos (by omega)]
    · rw [if_neg he]
      exact boL_get k (by omega) v (by omega)
theorem permN_of {n : Nat} {l : List Int} (hl : l.length = n) (h : ∀ t, t < n → ∃ u : Nat, u < n ∧ l[t]? = some (u : Int)) (inj : ∀ s t, s < n → t < n → l[s]? = l[t]? → s = t) : PermN n l := by
  refine ⟨hl, fun x hx => ?_, ?_⟩
  · obtain ⟨t, ht⟩ := List.getElem?_of_mem hx
    have htl := lt_get ht
    obtain ⟨u, hu, he⟩ := h t (by omega)
    rw [ht] at he
    injection he with he
    omega
  · rw [List.nodup_iff_pairwise_ne, List.pairwise_iff_getElem]
    intro i j hi hj hij he
    have := inj i j (by omega) (by omega) (by rw [List.getElem?_eq_getElem hi, List.getElem?_eq_getElem hj, he])
    omega
theorem PermN.get {n : Nat} {p : List Int} (h : PermN n p) {v : Nat} (hv : v < n) : p[v]? = some (pv p v : Int) := by
  have hg : p[v]? = some p[v]! := by
    rw [List.getElem?_eq_getElem (by rw [h.len]; exact hv)]
    simp [List.getElem!_eq_getElem?_getD, List.getElem?_eq_getElem (show v < p.length by rw [h.len]; exact hv)]
  rw [hg, pv_get hg]
  have := h.perm.1 _ (List.mem_of_getElem? hg)
  congr 1
  omega
theorem bkL_perm {n : Nat} {p : List Int} (h : PermN n p) : PermN n (bkL n p n) := by
  refine permN_of (bkL_len _ _ _) (fun t ht => ?_) fun s t hs ht he => ?_
  · obtain ⟨v, hv, rfl⟩ := h.onto ht
    exact ⟨v, hv, bkL_get h n (Nat.le_refl _) v hv⟩
  · obtain ⟨u, hu, rfl⟩ := h.onto hs
    obtain ⟨v, hv, rfl⟩ := h.onto ht
    rw [bkL_get h n (Nat.le_refl _) u hu, bkL_get h n (Nat.le_refl _) v hv] at he
    injection he with he
    have : u = v := by omega
    rw [this]
theorem boL_perm {n : Nat} {p q : List Int} (h : PermN n p) (hq : PermN n q) : PermN n (boL n p q n) := by
  have hg : ∀ v, v < n → (boL n p q n)[v]? = some (pv q (pv p v) : Int) := fun v hv => by
    rw [boL_get n (Nat.le_refl _) v hv, List.getD_eq_getElem?_getD, hq.get (h.lt hv)]
    rfl
  refine permN_of (boL_len _ _ _ _) (fun t ht => ⟨_, hq.lt (h.lt ht), hg t ht⟩) fun s t hs ht he => ?_
  rw [hg s hs, hg t ht] at he
  injection he with he
  exact h.inj hs ht (hq.inj (h.lt hs) (h.lt ht) (by omega))
theorem tau_bit {n : Nat} {p : List Int} (i v : Nat) : (tau n p i).testBit v = (decide (v < n) && i.testBit (pv p v)) := bsum_bit _ _ _
theorem tau_lt {n : Nat} {p : List Int} (i : Nat) : tau n p i < 2 ^ n := bsum_lt _ _
theorem pv_bk {n : Nat} {p : List Int} (h : PermN n p) {v : Nat} (hv : v < n) : pv (bkL n p n) (pv p v) = v := by
  rw [pv_get (bkL_get h n (Nat.le_refl _) v hv)]
  simp
theorem pv_bo {n : Nat} {p q : List Int} (h : PermN n p) (hq : PermN n q) {v : Nat} (hv : v < n) : pv (boL n p q n) v = pv q (pv p v) := by
  rw [pv_get (boL_get n (Nat.le_refl _) v hv), List.getD_eq_getElem?_getD, hq.get (h.lt hv)]
  simp
theorem high_bit {n i t : Nat} (hi : i < 2 ^ n) (ht : ¬ t < n) : i.testBit t = false := Nat.testBit_lt_two_pow (Nat.lt_of_lt_of_le hi (Nat.pow_le_pow_right (by omega) (by omega)))
theorem ren_back {n : Nat} {p : List Int} {ws : List Nat} (hf : FormN n ws) (hb : ∀ x ∈ ws, x < 18446744073709551616) (h : PermN n p) : tab n (renF n (bkL n p n) (tab n (renF n p ws))) = ws := by
  refine Eq.trans (tab_congr fun i hi => ?_) (tab_vb hf hb)
  unfold renF
  rw [vb_tab (tau_lt i)]
  congr 1
  apply Nat.eq_of_testBit_eq
  intro v
  rw [tau_bit]
  by_cases hv : v < n
  · rw [tau_bit, pv_bk h hv]
    simp [hv, h.lt hv]
  · rw [high_bit hi hv]
    simp [hv]
theorem ren_both {n : Nat} {p q : List Int} {ws : List Nat} (h : PermN n p) (hq : PermN n q) : tab n (renF n q (tab n (renF n p ws))) = tab n (renF n (boL n p q n) ws) := by
  refine tab_congr fun i hi => ?_
  unfold renF
  rw [vb_tab (tau_lt i)]
  congr 1
  apply Nat.eq_of_testBit_eq
  intro v
  rw [tau_bit, tau_bit]
  by_cases hv : v < n
  · rw [tau_bit, pv_bo h hq hv]
    simp [h.lt hv, hv]
  · simp [hv, tau_bit]
theorem tau_inj {n : Nat} {p : List Int} (h : PermN n p) {i j : Nat} (hi : i < 2 ^ n) (hj : j < 2 ^ n) (he : tau n p i = tau n p j) : i = j := by rw [← sg_tau h hi, he, sg_tau h hj]
theorem ren_cnt {n : Nat} {p : List Int} {ws : List Nat} (h : PermN n p) : cntB (vb (tab n (renF n p ws))) (2 ^ n) = cntB (vb ws) (2 ^ n) := by
  rw [cntB_congr (G := fun i => vb ws (tau n p i)) fun j hj => by rw [vb_tab hj]; rfl]
  exact cntB_perm (fun i _ => tau_lt i) fun i j hi hj he => tau_inj h hi hj he
theorem tau_wth {n : Nat} {p : List Int} (h : PermN n p) {v : Nat} (hv : v < n) (i : Nat) (b : Bool) : tau n p (wth i (pv p v) b) = wth (tau n p i) v b := by
  refine wth_of fun j => ?_
  rw [tau_bit, tau_bit, wth_bit]
  by_cases hj : j = v
  · subst hj; simp [hv]
  · rw [if_neg hj]
    by_cases hjn : j < n
    · rw [if_neg (fun he => hj (h.inj hjn hv he))]
    · simp [hjn]
end Go.Tk
namespace Go.Proofs.Ytakepdkokjecoaa
open Go.RowKit Go.Tk

theorem ren_dep {n : Nat} {p : List Int} {ws : List Nat} (h : PermN n p) {v : Nat} (hv : v < n) : depB n (tab n (renF n p ws)) (pv p v) = depB n ws v := by
  have key : ∀ i, i < 2 ^ n → ∀ b, hfF (pv p v) b (tab n (renF n p ws)) i = hfF v b ws (tau n p i) := fun i hi b => by
    unfold hfF
    rw [vb_tab (wth_lt hi (h.lt hv))]
    unfold renF
    rw [tau_wth h hv]
  cases hd : depB n ws v with
  | false =>
    refine depB_false fun i hi => ?_
    rw [key i hi, key i hi]
    exact depB_eq hd (tau_lt i)
  | true =>
    by_cases hall : ∀ i, i < 2 ^ n → hfF v false ws i = hfF v true ws i
    · rw [depB_false hall] at hd; cases hd
    · obtain ⟨i, hi⟩ := Classical.not_forall.1 hall
      obtain ⟨hin, hne⟩ := Classical.not_imp.1 hi
      have hsl := sg_lt h i n (Nat.le_refl _)
      refine depB_true hsl ?_
      rw [key _ hsl, key _ hsl, tau_sg h hin]
      exact hne
theorem ren_sup {n : Nat} {p : List Int} {ws : List Nat} (h : PermN n p) : bsum (depB n (tab n (renF n p ws))) n = sg p (bsum (depB n ws) n) n := by
  obtain ⟨h1, h2⟩ := sg_bits h (bsum (depB n ws) n) n (Nat.le_refl _)
  apply Nat.eq_of_testBit_eq
  intro t
  rw [bsum_bit]
  by_cases ht : t < n
  · obtain ⟨v, hv, rfl⟩ := h.onto ht
    rw [h1 v hv, bsum_bit, ren_dep h hv]
    simp [hv, ht]
  · rw [h2 t fun v hv he => ht (by rw [← he]; exact h.lt hv)]
    simp [ht]
theorem step_u {k u s m t : Nat} (hs : s < 18446744073709551616) (hu : u < 16) (hm : m < 65536) (ht : m ||| (s / 2 ^ k % 2) * 2 ^ u = t) :
    ∃ q b c : Nat, (s : Int) / 2 ^ k = (q : Int) ∧ bits .and .u64 (q : Int) 1 = (b : Int) ∧ IntKind.u64.wrap ((b : Int) * 2 ^ u) = (c : Int) ∧ bits .or .u64 (m : Int) (c : Int) = (t : Int) ∧ b < 2 ∧ q < 18446744073709551616 ∧ c < 18446744073709551616 := by
  have hqk : s / 2 ^ k ≤ s := Nat.div_le_self _ _
  have hd2 := u64_and_nat (s / 2 ^ k) 1 (by omega) (by omega)
  rw [nat_mask1] at hd2
  have hb2 : s / 2 ^ k % 2 < 2 := Nat.mod_lt _ (by omega)
  have hc := mul_le16 hb2 hu
  refine ⟨s / 2 ^ k, s / 2 ^ k % 2, (s / 2 ^ k % 2) * 2 ^ u, by rw [pow_int]; exact (Int.natCast_ediv _ _).symm, hd2, ?_, ?_, hb2, by omega, by omega⟩
  · rw [pow_int, ← Int.natCast_mul]
    generalize (s / 2 ^ k % 2) * 2 ^ u = c at hc
    exact IntWalk.u64_in _ (by omega)
  · rw [← ht]
    generalize (s / 2 ^ k % 2) * 2 ^ u = c at hc
    exact u64_or_nat m c (by omega) (by omega)
end Go.Proofs.Ytakepdkokjecoaa


/- Shape: variables by other numbers (plain). -/
namespace Go.Proofs.Ytakepdkokjecoaa
open Go.RowKit Go.Tk Go.Maps

/-- the renamed table -/
def rnT (nn : Nat) (p : List Int) (x : List Nat) : List Nat := tab nn (renF nn p x)
theorem pv_lt {nn : Nat} {p : List Int} (h : PermN nn p) {v : Nat} (hv : v < nn) : pv p v < nn := h.lt hv
theorem rnT_hT {nn v : Nat} {p : List Int} (h : PermN nn p) (hv : v < nn) (b : Bool) (x : List Nat) : hT nn (pv p v) b (rnT nn p x) = rnT nn p (hT nn v b x) := by
  unfold hT rnT
  refine tab_congr fun i hi => ?_
  show vb (tab nn (renF nn p x)) (wth i (pv p v) b) = vb (tab nn (hfF v b x)) (tau nn p i)
  rw [vb_tab (wth_lt hi (pv_lt h hv)), vb_tab (tau_lt i)]
  show vb x (tau nn p (wth i (pv p v) b)) = vb x (wth (tau nn p i) v b)
  rw [tau_wth h hv]
theorem rnT_inj {nn : Nat} {p : List Int} (h : PermN nn p) {x y : List Nat} (hx : FormN nn x) (hy : FormN nn y) (sx : Small x) (sy : Small y) (he : rnT nn p x = rnT nn p y) : x = y := by
  rw [← ren_back hx sx h, ← ren_back hy sy h]
  unfold rnT at he
  rw [he]
/-- the renamed set's members -/
def RnEq (nn : Nat) (p : List Int) (L K : List (List Nat)) : Prop := ∀ y, y ∈ K ↔ ∃ x ∈ L, y = rnT nn p x
theorem rn_step {nn v : Nat} {p : List Int} (h : PermN nn p) (hv : v < nn) {L K : List (List Nat)} (hLK : RnEq nn p L K) : RnEq nn p (stepS nn v L) (stepS nn (pv p v) K) := fun y => by
  rw [stepS_hT]
  constructor
  · rintro ⟨z, hz, b, rfl⟩
    obtain ⟨x, hx, rfl⟩ := (hLK z).1 hz
    exact ⟨hT nn v b x, stepS_hT.2 ⟨x, hx, b, rfl⟩, rnT_hT h hv b x⟩
  · rintro ⟨z, hz, rfl⟩
    obtain ⟨x, hx, b, rfl⟩ := stepS_hT.1 hz
    exact ⟨rnT nn p x, (hLK _).2 ⟨x, hx, rfl⟩, b, (rnT_hT h hv b x).symm⟩
theorem rn_set {nn : Nat} {p : List Int} (h : PermN nn p) : ∀ (vs : List Nat) {L K : List (List Nat)}, (∀ v ∈ vs, v < nn) → RnEq nn p L K → RnEq nn p (setAt nn L vs) (setAt nn K (vs.map (pv p)))
  | [], _, _, _, hLK => hLK
  | v :: vs, L, K, hv, hLK => by
    rw [List.map_cons, setAt_cons, setAt_cons]
    exact rn_set h vs (fun w hw => hv w (List.mem_cons_of_mem _ hw)) (rn_step h (hv v List.mem_cons_self) hLK)
theorem rn_cnt {nn v : Nat} {p : List Int} (h : PermN nn p) (hv : v < nn) {L K : List (List Nat)} (hL : L.Nodup) (hK : K.Nodup) (hf : ∀ x ∈ L, FormN nn x) (hs : ∀ x ∈ L, Small x) (h16 : nn ≤ 16) (hLK : RnEq nn p L K) : cntL nn (pv p v) K = cntL nn v L := by
  have hd : ∀ x ∈ L, (loT nn (pv p v) (rnT nn p x) ≠ hiT nn (pv p v) (rnT nn p x)) ↔ loT nn v x ≠ hiT nn v x := fun x hx => by
    have e1 : loT nn (pv p v) (rnT nn p x) = rnT nn p (loT nn v x) := rnT_hT h hv false x
    have e2 : hiT nn (pv p v) (rnT nn p x) = rnT nn p (hiT nn v x) := rnT_hT h hv true x
    rw [e1, e2]
    constructor
    · intro hn he
      exact hn (by rw [he])
    · intro hn he
      exact hn (rnT_inj h (tab_form h16) (tab_form h16) (fun z hz => tab_lt z hz) (fun z hz => tab_lt z hz) he)
  unfold cntL
  have hp : (K.filter fun x => decide (loT nn (pv p v) x ≠ hiT nn (pv p v) x)).Perm ((L.filter fun x => decide (loT nn v x ≠ hiT nn v x)).map (rnT nn p)) := by
    refine (List.perm_ext_iff_of_nodup (hK.filter _) (map_nodup (hL.filter _) fun x hx y hy he => ?_)).2 fun y => ?_
    · have h1 := (List.mem_filter.1 hx).1
      have h2 := (List.mem_filter.1 hy).1
      exact rnT_inj h (hf x h1) (hf y h2) (hs x h1) (hs y h2) he
    · rw [List.mem_filter, decide_eq_true_eq, List.mem_map]
      constructor
      · rintro ⟨h1, h2⟩
        obtain ⟨x, hx, rfl⟩ := (hLK y).1 h1
        exact ⟨x, List.mem_filter.2 ⟨hx, decide_eq_true ((hd x hx).1 h2)⟩, rfl⟩
      · rintro ⟨x, hx, rfl⟩
        obtain ⟨h1, h2⟩ := List.mem_filter.1 hx
        exact ⟨(hLK _).2 ⟨x, h1, rfl⟩, (hd x h1).2 (of_decide_eq_true h2)⟩
  rw [hp.length_eq, List.length_map]
end Go.Proofs.Ytakepdkokjecoaa


/- Shape: the renamed tables' Profile (plain). -/
namespace Go.Proofs.Ytakepdkokjecoaa
open Go.RowKit Go.Tk Go.Maps

def nmL (ns os : List Int) : List Int := os.map fun v => ns.getD v.toNat 0
theorem nm_at {ns os : List Int} {nn : Nat} (h : PermN nn ns) {k v : Nat} (hv : os[k]? = some (v : Int)) : (nmL ns os)[k]? = some ((pv ns v : Nat) : Int) ∨ nn ≤ v := by
  rcases Nat.lt_or_ge v nn with hl | hl
  · refine .inl ?_
    obtain ⟨x, hx⟩ : ∃ x, ns[v]? = some x := ⟨_, List.getElem?_eq_getElem (by rw [h.len]; exact hl)⟩
    have := h.perm.1 x (List.mem_of_getElem? hx)
    unfold nmL
    rw [List.getElem?_map, hv, Option.map_some, Int.toNat_natCast, List.getD_eq_getElem?_getD, hx, Option.getD_some, pv_get hx]
    congr 1
    omega
  · exact .inr hl
theorem nm_perm {ns os : List Int} (h : PermN os.length ns) (ho : IsPerm os) : IsPerm (nmL ns os) := by
  have hl : (nmL ns os).length = os.length := by simp [nmL]
  refine isPerm_of_all fun v hv => ?_
  rw [hl] at hv
  obtain ⟨i, hi⟩ := List.getElem?_of_mem (h.perm.mem (v := v) (by rw [h.len]; exact hv))
  have hil : i < os.length := by have := lt_of_get hi; rw [h.len] at this; exact this
  refine List.mem_map.2 ⟨(i : Int), ho.mem hil, ?_⟩
  rw [Int.toNat_natCast, List.getD_eq_getElem?_getD, hi]
  rfl
/-- the renamed list -/
def RnT (nn : Nat) (ns : List Int) (xs ts : List Tb) : Prop := ts.length = xs.length ∧ ∀ (i : Nat) (x t : Tb), xs[i]? = some x → ts[i]? = some t → t.N = (nn : Int) ∧ t.ws = rnT nn ns x.ws
theorem names_law {xs ts : List Tb} {os ns : List Int} (hok : ∀ t ∈ xs, Small t.ws) (he : prE xs os = 0) (h : PermN os.length ns) (hts : RnT os.length ns xs ts) : prE ts (nmL ns os) = 0 ∧ prL ts (nmL ns os) = prL xs os := by
  obtain ⟨h16, hper⟩ := prE_16 he
  obtain ⟨hfm, hN⟩ := fm_of_ok he
  have hl : (nmL ns os).length = os.length := by simp [nmL]
  have hx : ∀ i t, ts[i]? = some t → ∃ x, xs[i]? = some x := fun i t ht => ⟨_, List.getElem?_eq_getElem (by have := lt_of_get ht; rw [hts.1] at this; exact this)⟩
  have ht0 : ts ≠ [] → tN0 ts = (os.length : Int) := fun hne => by
    obtain ⟨t, ht⟩ : ∃ t, ts[0]? = some t := ⟨_, List.getElem?_eq_getElem (List.length_pos_iff.2 hne)⟩
    obtain ⟨x, hx0⟩ := hx 0 t ht
    have := (hts.2 0 x t hx0 ht).1
    unfold tN0
    rw [List.getD_eq_getElem?_getD, ht]
    exact this
  have hfm2 : fm ts = true := by
    refine List.all_eq_true.2 fun t ht => ?_
    obtain ⟨i, hi⟩ := List.getElem?_of_mem ht
    obtain ⟨x, hx0⟩ := hx i t hi
    obtain ⟨e1, e2⟩ := hts.2 i x t hx0 hi
    have e3 := ht0 (by rintro rfl; cases ht)
    have e4 : frm t.N t.ws = true := by rw [e1, e2]; exact frm_nat.2 (tab_form h16)
    have e5 : t.N = (ts.getD 0 ⟨0, none, 0, []⟩).N := e1.trans e3.symm
    simp only [Bool.and_eq_true, beq_iff_eq]
    exact ⟨e4, e5⟩
  have hE : prE ts (nmL ns os) = 0 := by
    unfold prE
    rw [hfm2, if_pos rfl, if_neg, hl, if_neg (by omega)]
    rintro (⟨h1, h2⟩ | h1)
    · rw [hl] at h2
      exact h2 (ht0 (List.length_pos_iff.1 h1)).symm
    · unfold chk at h1
      rw [if_pos (nm_perm h hper)] at h1
      split at h1 <;> cases h1
  refine ⟨hE, ?_⟩
  have hEq : RnEq os.length ns (tSet xs) (tSet ts) := fun y => by
    unfold tSet
    constructor
    · intro hy
      obtain ⟨t, ht, rfl⟩ := List.mem_map.1 (mem_uniq.1 hy)
      obtain ⟨i, hi⟩ := List.getElem?_of_mem ht
      obtain ⟨x, hx0⟩ := hx i t hi
      exact ⟨x.ws, mem_uniq.2 (List.mem_map.2 ⟨x, List.mem_of_getElem? hx0, rfl⟩), (hts.2 i x t hx0 hi).2⟩
    · rintro ⟨z, hz, rfl⟩
      obtain ⟨x, hx1, rfl⟩ := List.mem_map.1 (mem_uniq.1 hz)
      obtain ⟨i, hi⟩ := List.getElem?_of_mem hx1
      obtain ⟨t, ht⟩ : ∃ t, ts[i]? = some t := ⟨_, List.getElem?_eq_getElem (by rw [hts.1]; exact lt_of_get hi)⟩
      exact mem_uniq.2 (List.mem_map.2 ⟨t, List.mem_of_getElem? ht, (hts.2 i x t hi ht).2⟩)
  have hFN : ∀ ws ∈ tSet xs, FormN os.length ws := tSet_form hfm hN
  have hSM : ∀ ws ∈ tSet xs, Small ws := fun ws hw => by
    obtain ⟨t, ht, rfl⟩ := List.mem_map.1 (mem_uniq.1 hw)
    exact hok t ht
  apply List.ext_getElem?
  intro k
  rcases Nat.lt_or_ge k os.length with hk | hk
  · obtain ⟨v, hv, hvn⟩ := IsPerm.at hper hk
    have hv2 : (nmL ns os)[k]? = some ((pv ns v : Nat) : Int) := by
      rcases nm_at h hv with h1 | h1
      · exact h1
      · omega
    have htk : ((nmL ns os).map Int.toNat).take k = ((os.map Int.toNat).take k).map (pv ns) := by
      rw [← List.map_take, ← List.map_take]
      unfold nmL
      rw [← List.map_take, List.map_map, List.map_map]
      exact List.map_congr_left fun z hz => rfl
    have hset := rn_set h ((os.map Int.toNat).take k) (nats_lt hper) hEq
    obtain ⟨S1, hS1⟩ : ∃ z, z = setAt os.length (tSet xs) ((os.map Int.toNat).take k) := ⟨_, rfl⟩
    obtain ⟨S2, hS2⟩ : ∃ z, z = setAt os.length (tSet ts) (((os.map Int.toNat).take k).map (pv ns)) := ⟨_, rfl⟩
    have f1 : S1.Nodup := by rw [hS1]; exact setAt_nodup _ (uniq_nodup _)
    have f2 : S2.Nodup := by rw [hS2]; exact setAt_nodup _ (uniq_nodup _)
    have f3 : ∀ x ∈ S1, FormN os.length x := by rw [hS1]; exact setAt_form h16 _ hFN
    have f4 : ∀ x ∈ S1, Small x := by rw [hS1]; exact setAt_small _ hSM
    rw [← hS1, ← hS2] at hset
    have hc := rn_cnt h hvn f1 f2 f3 f4 h16 hset
    rw [prl_at he hv, prl_at hE hv2, hl, htk, ← hS1, ← hS2, hc]
  · have e1 : (prL ts (nmL ns os)).length ≤ k := by have := prL_len ts (nmL ns os); omega
    have e2 : (prL xs os).length ≤ k := by have := prL_len xs os; omega
    rw [List.getElem?_eq_none e1, List.getElem?_eq_none e2]
end Go.Proofs.Ytakepdkokjecoaa


/- Shape: the document's Permutation. -/
namespace Go.Proofs.Ytakepdkokjecoaa
open Go.RowKit Go.Tk

set_option maxHeartbeats 4000000 in
theorem spermutation_any (A : Option Addr) (L C n : Nat) (p : List Int) (w : World) (h : IL w A L p) (hn : n ≤ 16) (hL : L ≤ 1000000000000000000) :
    Calls Try.prog 14 #[.slice A L C, .int .i64 n] w fun e w' => e = .returned (.bool (prmB n p)) ∧ w = w' := by
  have hl := h.len
  obtain ⟨r, hr⟩ : ∃ r, prmB n p = r := ⟨_, rfl⟩
  rw [hr]
  have H := Lib.hid h
  by_cases hln : L = n
  · have HR := Lib.hid hr
    have HL := Lib.hid hl
    subst hln
    clear hr hl h
    go_enter Try.func14, Try.ntmps14
    go_wp2
    go_loopw [5] (fun i wr => ∃ v : Nat, v ≤ L ∧ i = .int .i64 v ∧ (∀ u : Nat, u < v → p.count (u : Int) = 1) ∧ w = wr) (fun i _ => L - (intOf i).toNat)
    case atStart => exact ⟨0, by omega, rfl, fun u hu => by omega, rfl⟩
    case round =>
      obtain ⟨v, hv, rfl, hall, rfl⟩ := hrel
      have HALL := Lib.hid hall
      clear hall
      by_cases hlt : v < L
      · have hv1 : (v : Int) < L := by omega
        go_wp2
        go_loopw [6, 20] (fun s i wr => ∃ k : Nat, k ≤ L ∧ i = .int .i64 k ∧ s = .int .i64 ((p.take k).count (v : Int) : Nat) ∧ w = wr) (fun _ i _ => L - (intOf i).toNat)
        case atStart => exact ⟨0, by omega, rfl, by simp, rfl⟩
        case round =>
          obtain ⟨k, hk, rfl, rfl, rfl⟩ := hrel
          have hcl : (p.take k).count (v : Int) ≤ k := Nat.le_trans List.count_le_length (by rw [List.length_take]; omega)
          by_cases hlk : k < L
          · obtain ⟨x, hx⟩ : ∃ x, p[k]? = some x := ⟨_, List.getElem?_eq_getElem (by rw [← HL.out]; exact hlk)⟩
            obtain ⟨b, o, hA, hb, hc⟩ := H.out.at1 hx
            subst hA
            have hk0 : (0 : Int) ≤ k := by omega
            have hk1 : (k : Int) < L := by omega
            have hst : (p.take (k + 1)).count (v : Int) = (p.take k).count (v : Int) + (if x = (v : Int) then 1 else 0) := by
              rw [take_add1 hx, List.count_append, List.count_singleton]
              congr 1
              by_cases hxv : x = v <;> simp [hxv]
            have HST := Lib.hid hst
            clear hst hx
            generalize (p.take k).count (v : Int) = cc at *
            by_cases hxv : x = (v : Int)
            · rw [if_pos hxv] at HST
              subst hxv
              go_wp2
              go_roundw
              case rel => exact ⟨k + 1, by omega, by go_num, by rw [HST.out]; go_num, trivial⟩
              case measure => simp [intOf] <;> omega
            · rw [if_neg hxv] at HST
              go_wp2
              go_roundw
              case rel => exact ⟨k + 1, by omega, by go_num, by rw [HST.out]; rfl, trivial⟩
              case measure => simp [intOf] <;> omega
          · obtain rfl : k = L := by omega
            rw [show (p.take k).count (v : Int) = p.count (v : Int) by rw [List.take_of_length_le (by rw [← HL.out]; exact Nat.le_refl _)]]
            by_cases h1 : p.count (v : Int) = 1
            · have H1 := Lib.hid h1
              rw [h1]
              clear h1
              go_wp2
              go_roundw
              case rel => exact ⟨v + 1, by omega, by go_num, fun u hu => by
                by_cases huv : u < v
                · exact HALL.out u huv
                · obtain rfl : u = v := by omega
                  exact H1.out, trivial⟩
              case measure => simp [intOf] <;> omega
            · have hf : r = false := by
                rw [← HR.out]
                cases hp : prmB k p with
                | false => rfl
                | true => exact absurd ((prmB_true.1 hp).count hlt) h1
              subst hf
              have h2 : ((p.count (v : Int) : Nat) : Int) ≠ 1 := by omega
              have h3 : ¬ p.count (v : Int) = 1 := h1
              generalize p.count (v : Int) = cc at *
              go_wp2
              go_ret
              exact ⟨rfl, rfl⟩
      · obtain rfl : v = L := by omega
        have hf : r = true := by rw [← HR.out]; exact prmB_true.2 (prm_of_count HL.out.symm HALL.out)
        subst hf
        go_wp2
        go_ret
        exact ⟨rfl, rfl⟩
  · have hf : r = false := by
      rw [← hr]
      cases hp : prmB n p with
      | false => rfl
      | true => exact absurd ((hl.trans (prmB_true.1 hp).len)) hln
    subst hf
    have h3 : (L : Int) ≠ n := by omega
    clear hr hl h
    go_enter Try.func14, Try.ntmps14
    go_wp2
    go_ret
    exact ⟨rfl, rfl⟩
end Go.Proofs.Ytakepdkokjecoaa


/- Shape: ShapeNames: the walk. -/
namespace Go.Proofs.Ytakepdkokjecoaa
open Go.RowKit Go.Tk Go.Maps

theorem info_tb : (Try.prog.info? 37).map (fun i => (i.zero, i.size, i.bytes)) = some (some (.agg #[.int .i64 0, .slice none 0 0]), 2, 32) := by kernel_rfl
theorem own_rw {w : World} {e : TypeId} {m : Nat} {α : Type} {f : α → List Value} {A : Option Addr} {N C : Nat} {xs : List α} (h : Own w e m f A N C xs) : ∀ b, rowOf A b → b < w.heap.size := by
  rintro b ⟨a, ha, rfl⟩
  exact h.block a ha
/-- the renamed so far: a list of new tables -/
structure NL (w0 w : World) (nn : Nat) (ns : List Int) (xs : List Tb) (k : Nat) (A : Option Addr) (D : Nat) (ts : List Tb) : Prop where
  same : Same w0 w
  own : Own w 37 2 Tb.cells A k D ts
  fresh : Fresh w0.heap.size A
  rows : ∀ (i : Nat) (t : Tb), ts[i]? = some t → OwnW w t.A t.ws.length t.C t.ws ∧ ∃ x, xs[i]? = some x ∧ t.N = (nn : Int) ∧ t.ws = rnT nn ns x.ws
theorem NL.next {w0 w w' : World} {nn : Nat} {ns : List Int} {xs : List Tb} {k : Nat} {A : Option Addr} {D : Nat} {ts : List Tb} (h : NL w0 w nn ns xs k A D ts) (hs : Same w w') : NL w0 w' nn ns xs k A D ts :=
  ⟨h.same.trans hs (fun _ _ h => h), Own.frm h.own hs (fun _ _ => id), h.fresh, fun i t hi => ⟨Own.frm (h.rows i t hi).1 hs (fun _ _ => id), (h.rows i t hi).2⟩⟩
theorem NL.step {w0 w wa wb : World} {nn : Nat} {ns : List Int} {xs : List Tb} {k : Nat} {A : Option Addr} {D : Nat} {ts : List Tb} (h : NL w0 w nn ns xs k A D ts) (hs : Same w wa) {t x : Tb} (hx : xs[k]? = some x) (ht : OwnW wa t.A t.ws.length t.C t.ws) (hN : t.N = (nn : Int)) (hw : t.ws = rnT nn ns x.ws) {g D' : Nat}
    (hg : wa.grownBy wb (Value.slice A k D).ownBlock) (ho : Own wb 37 2 Tb.cells (some ⟨g, 0, none⟩) (k + 1) D' (ts ++ [t])) (hat : (A = some ⟨g, 0, none⟩ ∧ D' = D) ∨ (g = wa.heap.size ∧ wa.grownBy wb none)) : NL w0 wb nn ns xs (k + 1) (some ⟨g, 0, none⟩) D' (ts ++ [t]) := by
  have h1 := h.next hs
  have hsz := h1.same.size
  have kp : ∀ {B : Option Addr} {N C : Nat} {ys : List Nat}, OwnW wa B N C ys → OwnW wb B N C ys := fun ho => Own.keptBy ho hg (fun b hb hA => Own.ne_own ho h1.own (by decide) b hA (ownBlock_row.1 hb))
  refine ⟨h1.same.grown hg (fun g hg => .inr (h.fresh g (ownBlock_row.1 hg))), ho, ?_, fun i s hi => ?_⟩
  · rcases hat with ⟨h2, _⟩ | ⟨h2, _⟩
    · rw [← h2]; exact h.fresh
    · exact fresh_some (by omega)
  · rcases Nat.lt_or_ge i ts.length with hl | hl
    · rw [List.getElem?_append_left hl] at hi
      exact ⟨kp (h1.rows i s hi).1, (h1.rows i s hi).2⟩
    · rw [List.getElem?_append_right hl] at hi
      have h3 := lt_of_get hi
      simp at h3
      have h4 : i - ts.length = 0 := by omega
      rw [h4] at hi
      obtain rfl := Option.some.inj hi
      have hk : i = k := by have := h.own.len; omega
      subst hk
      exact ⟨kp ht, x, hx, hN, hw⟩
theorem ren_ok {nn : Nat} {p : List Int} (hp : PermN nn p) (A : Option Addr) (C : Nat) (ws : List Nat) (Ap : Option Addr) (Lp Cp : Nat) (w : World) (h : TbOk w ⟨(nn : Int), A, C, ws⟩) (hf : FormN nn ws) (hi : IL w Ap Lp p) (hLp : Lp ≤ 1000000000000000000) : Calls Try.prog 15 #[.agg #[.int .i64 nn, .slice A ws.length C], .slice Ap Lp Cp] w (RetTE w nn (rnT nn p ws) 0) := by
  have h1 := Renamed_any (nn : Int) A C ws Ap Lp Cp p w h hi hLp
  have h2 : rnE (nn : Int) p ws = 0 := by
    unfold rnE
    rw [if_pos (frm_nat.2 hf), Int.toNat_natCast, if_pos (prmB_true.2 hp)]
  rw [h2] at h1
  exact h1
set_option maxRecDepth 100000 in
set_option maxHeartbeats 16000000 in
theorem names_walk (AL : Option Addr) (n C : Nat) (xs : List Tb) (Ao : Option Addr) (Lo Co : Nat) (os : List Int) (An : Option Addr) (Ln Cn : Nat) (ns : List Int) (w : World) (h : Sl w 2 Tb.cells AL n xs) (hok : ∀ t ∈ xs, TbOk w t) (hn : n ≤ 4398046511104) (ho : IL w Ao Lo os) (hLo : Lo * 8 ≤ 140737488351232) (hm : IL w An Ln ns) (hLn : Ln * 8 ≤ 140737488351232) :
    Calls Try.prog 5 #[.slice AL n C, .slice Ao Lo Co, .slice An Ln Cn] w fun e w' => e = .returned (.bool true) ∧ Below w.heap.size w w' := by
  obtain rfl := ho.len
  have H := Lib.hid h
  have HXL := Lib.hid h.len
  have HOK := Lib.hid hok
  have HO := Lib.hid ho
  have HM := Lib.hid hm
  have HP := Lib.hid (fun w' (hs : Same w w') => profile_any AL n C xs Ao os.length Co os w' (Sl.same h hs) (fun t ht => (hok t ht).same hs) (by omega) (Sl.same ho hs) hLo)
  have HSM := Lib.hid (fun t (ht : t ∈ xs) => (hok t ht).small)
  clear h hok ho hm
  by_cases he : prE xs os = 0
  · obtain ⟨h16, hper⟩ := prE_16 he
    obtain ⟨hfm, htN⟩ := fm_of_ok he
    obtain ⟨ys, hys⟩ : ∃ z, z = prL xs os := ⟨_, rfl⟩
    have hyl : ys.length = os.length := by rw [hys]; unfold prL; rw [if_pos he, proL_len]
    have hlaw := Lib.hid (fun (ts : List Tb) (h : PermN os.length ns) (hts : RnT os.length ns xs ts) => show prE ts (nmL ns os) = 0 ∧ prL ts (nmL ns os) = ys by rw [hys]; exact names_law HSM.out he h hts)
    rw [he, ← hys] at HP
    have hP2 : ∀ w', Same w w' → Calls Try.prog 11 #[.slice AL n C, .slice Ao os.length Co] w' (fun e w2 => ∃ A C, e = .returned (.tuple #[.slice A os.length C, .int .i64 0]) ∧ IL w2 A os.length ys ∧ Same w' w2) := fun w' hs => (HP.out w' hs).mono fun e w2 ⟨A, C, h1, h2⟩ => by
      have h3 := Own.il h2.1
      rw [hyl] at h1 h3
      exact ⟨A, C, h1, h3, h2.2.2⟩
    have HP2 := Lib.hid hP2
    have HPER := Lib.hid hper
    have HFM := Lib.hid hfm
    have HTN := Lib.hid htN
    have HYL := Lib.hid hyl
    clear hP2 HP hper hfm htN hyl hys he
    go_enter Try.func5, Try.ntmps5
    go_wp2_with (fail)
    refine (sawake_any w).mono ?_
    rintro e w1 ⟨rfl, hs⟩
    have HS := Lib.hid hs
    clear hs
    go_wp2_with (fail)
    refine (HP2.out w1 HS.out).mono ?_
    rintro e w2 ⟨Ap, Cp, rfl, hil, hs⟩
    have HIL := Lib.hid hil
    replace HS := Lib.hid (HS.out.trans hs (fun _ _ h => h))
    clear hs hil HP2
    go_wp2_with (fail)
    refine (spermutation_any An Ln Cn os.length ns w2 (Sl.same HM.out HS.out) h16 (by omega)).mono ?_
    rintro e w3 ⟨rfl, hw3⟩
    subst hw3
    obtain ⟨pb, hpb⟩ : ∃ z, z = prmB os.length ns := ⟨_, rfl⟩
    rw [← hpb]
    cases pb with
    | false =>
      have HFIN := Lib.hid (HS.out.to_below (Nat.le_refl _) (fun _ _ => id))
      clear hpb
      go_wp2
      go_ret
      exact ⟨rfl, HFIN.out⟩
    | true =>
      have HPN := Lib.hid (prmB_true.1 hpb.symm)
      have hln : Ln = os.length := by rw [HM.out.len]; exact HPN.out.len
      subst hln
      clear hpb
      have HNL := Lib.hid (show NL w2 w2 os.length ns xs 0 none 0 [] from ⟨Frm.refl _ _, Own.nil _ _ _ _, fresh_none _, fun i t hi => by simp at hi⟩)
      go_wp2
      go_loopw [9, 38] (fun l i wi => ∃ (k : Nat) (A : Option Addr) (D : Nat) (ts : List Tb), k ≤ n ∧ i = .int .i64 k ∧ l = .slice A k D ∧ NL w2 wi os.length ns xs k A D ts) (fun _ i _ => n - (intOf i).toNat)
      case atStart => exact ⟨0, none, 0, [], by omega, rfl, rfl, HNL.out⟩
      case round =>
        clear HNL
        obtain ⟨k, A, D, ts, hk, rfl, rfl, hnl⟩ := hrel
        by_cases hlt : k < n
        · obtain ⟨x, hx⟩ : ∃ t, xs[k]? = some t := ⟨_, List.getElem?_eq_getElem (by rw [← HXL.out]; exact hlt)⟩
          obtain ⟨bl, o, hA, hbl, hc⟩ := (Sl.same H.out (HS.out.trans hnl.same (fun _ _ h => h))).get k x hx
          have hxN := fm_all HFM.out x (List.mem_of_getElem? hx)
          have hxn : x.N = (os.length : Int) := hxN.2.trans (HTN.out (by rintro rfl; cases hx))
          have hfx : FormN os.length x.ws := by have := hxN.1; rw [hxn] at this; exact frm_nat.1 this
          have c0 : wr.cell? ⟨bl, o + k * 2, none⟩ = some (.int .i64 x.N) := hc 0 (by omega)
          have c1 : wr.cell? ⟨bl, o + k * 2 + 1, none⟩ = some (.slice x.A x.ws.length x.C) := hc 1 (by omega)
          subst hA
          have HX := Lib.hid hx
          have HTO := Lib.hid ((HOK.out x (List.mem_of_getElem? hx)).same (HS.out.trans hnl.same (fun _ _ h => h)))
          have HFX := Lib.hid hfx
          have HNL := Lib.hid hnl
          have hk0 : (0 : Int) ≤ k := by omega
          have hk1 : (k : Int) < n := by omega
          rw [hxn] at c0
          clear hc hx hxN hfx hnl
          obtain ⟨xN, xA, xC, xw⟩ := x
          simp only at c0 c1 hxn HFX
          subst hxn
          go_upto_region 10 with fail
          refine wp_world fun wa hw => ?_
          have hsa : Same wr wa := by rw [hw]; exact (Frm.refl _ _).alloc _
          have hBX : Blk wa wr.heap.size 37 #[.int .i64 os.length, .slice xA xw.length xC] := by rw [hw]; exact Blk.new _ _ _
          obtain ⟨X, hX⟩ : ∃ z, z = wr.heap.size := ⟨_, rfl⟩
          rw [← hX] at hBX ⊢
          have cX0 : wa.cell? ⟨X, 0, none⟩ = some (.int .i64 os.length) := hBX.cell 0
          have cX1 : wa.cell? ⟨X, 1, none⟩ = some (.slice xA xw.length xC) := hBX.cell 1
          have lX := hBX.lt
          replace HNL := Lib.hid (HNL.out.next hsa)
          replace HTO := Lib.hid (HTO.out.same hsa)
          clear hw hX hBX hsa c0 c1 hbl
          go_wp2_with (fail)
          refine (ren_ok HPN.out xA xC xw An os.length Cn wa HTO.out HFX.out (Sl.same HM.out (HS.out.trans HNL.out.same (fun _ _ h => h))) (by omega)).mono ?_
          rintro e wb ⟨At, Ct, rfl, hNT⟩
          obtain ⟨tw, htw⟩ : ∃ z, z = rnT os.length ns xw := ⟨_, rfl⟩
          rw [← htw] at hNT ⊢
          have HTW := Lib.hid htw
          replace HNL := Lib.hid (HNL.out.next hNT.2.2)
          have HOT := Lib.hid hNT.1
          clear hNT htw cX0 cX1 lX HTO
          go_upto_region 13 with fail
          refine wp_world fun wc hw => ?_
          have hsc : Same wb wc := by rw [hw]; exact (Frm.refl _ _).alloc _
          have hBY : Blk wc wb.heap.size 37 #[.int .i64 os.length, .slice At tw.length Ct] := by rw [hw]; exact Blk.new _ _ _
          obtain ⟨Y, hY⟩ : ∃ z, z = wb.heap.size := ⟨_, rfl⟩
          rw [← hY] at hBY ⊢
          have cY0 : wc.cell? ⟨Y, 0, none⟩ = some (.int .i64 os.length) := hBY.cell 0
          have cY1 : wc.cell? ⟨Y, 1, none⟩ = some (.slice At tw.length Ct) := hBY.cell 1
          have lY := hBY.lt
          replace HNL := Lib.hid (HNL.out.next hsc)
          replace HOT := Lib.hid (Own.frm HOT.out hsc (fun _ _ => id))
          clear hw hY hBY hsc
          refine wp_region_lit ?_
          refine wpList_read 2 ?_
          simp only [List.take_succ_cons, List.take_zero, List.drop_succ_cons, List.drop_zero]
          repeat (any_goals (first | go_big_quiet_step (fail) | quiet_step (fail)))
          refine wpQuiet_nil ?_
          refine wpList_plain rfl fun K hK => ?_
          go_simp
          refine hK _ _ ?_
          clear hK K cY0 cY1 lY
          refine list_world fun wd hwd => ?_
          have hsd : Same wc wd := by rw [hwd]; exact (Frm.refl _ _).alloc _
          have hNc := Blk.new wc 37 #[.int .i64 os.length, .slice At tw.length Ct]
          rw [← hwd] at hNc
          clear hwd
          refine wpList_plain rfl fun K hK => ?_
          refine Own.grow (f := Tb.cells) (.tmp 50) (.tmp 52) _ rfl Try.underlying22 info_tb rfl rfl (Own.frm HNL.out.own hsd (fun _ _ => id)) (fun _ => rfl) [⟨(os.length : Int), At, Ct, tw⟩] (by simp) ⟨wc.heap.size, 0, none⟩ 1 rfl (fun j u hj => news_of_blk hNc j u hj) (by simp [Tb.cells, Value.oneCell']) (by simp [maxLen] <;> omega) (by simp <;> omega) ?_
          intro g D' we hOd _ hgr hat
          refine hK _ _ ?_
          clear hK K
          have hst := HNL.out.step hsd HX.out (t := ⟨(os.length : Int), At, Ct, tw⟩) (Own.frm HOT.out hsd (fun _ _ => id)) rfl HTW.out hgr hOd hat
          have HN2 := Lib.hid hst
          clear hgr hOd hat hNc hsd hst HNL HOT
          go_wp2
          go_roundw
          case rel => exact ⟨k + 1, some ⟨g, 0, none⟩, D', _, by omega, by go_num, rfl, HN2.out⟩
          case measure => simp [intOf] <;> omega
        · obtain rfl : k = n := by omega
          have hts : RnT os.length ns xs ts := ⟨by rw [← HXL.out]; exact hnl.own.len.symm, fun i x t hx ht => by
            obtain ⟨_, x', h1, h2, h3⟩ := hnl.rows i t ht
            rw [hx] at h1
            obtain rfl := Option.some.inj h1
            exact ⟨h2, h3⟩⟩
          obtain ⟨q0, q1⟩ := hlaw.out ts HPN.out hts
          have HTB := Lib.hid (show ∀ w', Same wr w' → ∀ t ∈ ts, TbOk w' t from fun w' hs t ht => by
            obtain ⟨i, hi⟩ := List.getElem?_of_mem ht
            obtain ⟨ho, x', _, _, h3⟩ := hnl.rows i t hi
            exact ⟨Sl.same (ho.sl ucell_len) hs, by rw [h3]; exact fun z hz => tab_lt z hz⟩)
          have HTL := Lib.hid (Own.sl (m := 2) (f := Tb.cells) (fun _ => rfl) hnl.own)
          have HQ0 := Lib.hid q0
          have HQ1 := Lib.hid q1
          replace HS := Lib.hid (HS.out.trans hnl.same (fun _ _ h => h))
          replace HIL := Lib.hid (Sl.same HIL.out hnl.same)
          clear hts q0 q1 hnl
          obtain ⟨w5, rfl⟩ : ∃ z, z = wr := ⟨_, rfl⟩
          have hnl : (nmL ns os).length = os.length := by simp [nmL]
          have HNM := Lib.hid hnl
          clear hnl
          go_wp2
          go_loopw [14, 57] (fun l i wi => ∃ (k : Nat) (A : Option Addr) (D : Nat), k ≤ os.length ∧ i = .int .i64 k ∧ l = .slice A k D ∧ OwnI wi 3 A k D ((nmL ns os).take k) ∧ Fresh w5.heap.size A ∧ Same w5 wi) (fun _ i _ => os.length - (intOf i).toNat)
          case atStart => exact ⟨0, none, 0, by omega, rfl, rfl, Own.nil _ _ _ _, fresh_none _, Frm.refl _ _⟩
          case round =>
            obtain ⟨j, B, DB, hj, rfl, rfl, hob, hfb, hs⟩ := hrel
            by_cases hlj : j < os.length
            · obtain ⟨v, hv, hvn⟩ := IsPerm.at HPER.out hlj
              obtain ⟨bo, oo, hAo, hbo, hcu⟩ := (Sl.same HO.out (HS.out.trans hs (fun _ _ h => h))).at1 hv
              obtain ⟨x, hx⟩ : ∃ x, ns[v]? = some x := ⟨_, List.getElem?_eq_getElem (by rw [HPN.out.len]; exact hvn)⟩
              obtain ⟨bn, on, hAn, hbn, hcn⟩ := (Sl.same HM.out (HS.out.trans hs (fun _ _ h => h))).at1 hx
              subst hAo hAn
              have htk : (nmL ns os).take (j + 1) = (nmL ns os).take j ++ [x] := by
                rw [List.take_add_one]
                congr 1
                unfold nmL
                rw [List.getElem?_map, hv, Option.map_some, Int.toNat_natCast, List.getD_eq_getElem?_getD, hx]
                rfl
              have HTK := Lib.hid htk
              have HOB := Lib.hid hob
              have HFB := Lib.hid hfb
              have HSB := Lib.hid hs
              have hj0 : (0 : Int) ≤ j := by omega
              have hj1 : (j : Int) < os.length := by omega
              have hv0 : (0 : Int) ≤ v := by omega
              have hv1 : (v : Int) < os.length := by omega
              clear hv hx htk hob hfb hs
              go_upto_region 19 with fail
              refine wp_region_lit ?_
              refine wpList_read 5 ?_
              simp only [List.take_succ_cons, List.take_zero, List.drop_succ_cons, List.drop_zero]
              repeat (any_goals (first | go_big_quiet_step (fail) | quiet_step (fail)))
              refine wpQuiet_nil ?_
              refine wpList_plain rfl fun K hK => ?_
              go_simp
              refine hK _ _ ?_
              clear hK K
              refine list_world fun wc hwc => ?_
              have hsc : Same wr wc := by rw [hwc]; exact (Frm.refl _ _).alloc _
              have hNc := Blk.new wr 3 #[.int .i64 x]
              rw [← hwc] at hNc
              clear hwc
              refine wpList_plain rfl fun K hK => ?_
              refine Own.grow (f := icell) (.tmp 61) (.tmp 66) _ rfl Try.underlying23 info_int rfl rfl (Own.frm HOB.out hsc (fun _ _ => id)) icell_len [x] (by simp) ⟨wr.heap.size, 0, none⟩ 1 rfl (fun j u hj => news_of_blk hNc j u hj) (by simp [icell, Value.oneCell']) (by simp [maxLen] <;> omega) (by simp <;> omega) ?_
              intro g D' wd hOd _ hgr hat
              refine hK _ _ ?_
              clear hK K
              have hsd : Same w5 wd := (HSB.out.trans hsc (fun _ _ h => h)).grown hgr (fun b hb => .inr (HFB.out b (ownBlock_row.1 hb)))
              have hgF : Fresh w5.heap.size (some ⟨g, 0, none⟩) := by
                rcases hat with ⟨h1, _⟩ | ⟨h1, _⟩
                · rw [← h1]; exact HFB.out
                · have := HSB.out.size; have := hsc.size; exact fresh_some (by omega)
              have hod : OwnI wd 3 (some ⟨g, 0, none⟩) (j + 1) D' ((nmL ns os).take (j + 1)) := by rw [HTK.out]; exact hOd
              have HOD := Lib.hid hod
              have HSD := Lib.hid hsd
              have HGF := Lib.hid hgF
              clear hgr hOd hat hNc hsc hod hsd hgF HOB HFB HSB
              go_wp2
              go_roundw
              case rel => exact ⟨j + 1, some ⟨g, 0, none⟩, D', by omega, by go_num, rfl, HOD.out, HGF.out, HSD.out⟩
              case measure => simp [intOf] <;> omega
            · obtain rfl : j = os.length := by omega
              rw [List.take_of_length_le (by rw [HNM.out]; exact Nat.le_refl _)] at hob
              have HOB := Lib.hid (Own.il hob)
              have HPR := Lib.hid (profile_any A k D ts B os.length DB (nmL ns os) wr (Sl.same HTL.out hs) (HTB.out wr hs) (by omega) HOB.out (by omega))
              rw [HQ0.out, HQ1.out] at HPR
              replace HS := Lib.hid (HS.out.trans hs (fun _ _ h => h))
              replace HIL := Lib.hid (Sl.same HIL.out hs)
              clear hob hfb hs
              go_wp2_with (fail)
              refine HPR.out.mono ?_
              rintro e w6 ⟨Aq, Cq, rfl, hNT⟩
              replace HS := Lib.hid (HS.out.trans hNT.2.2 (fun _ _ h => h))
              replace HIL := Lib.hid (Sl.same HIL.out hNT.2.2)
              have hq := Own.il hNT.1
              rw [HYL.out] at hq ⊢
              have HQL := Lib.hid hq
              clear hNT hq HPR
              go_wp2_with (fail)
              refine (psame_any Ap Aq os.length os.length Cp Cq ys ys w6 HIL.out HQL.out (by omega) (by omega)).mono ?_
              rintro e w7 ⟨rfl, hs⟩
              rw [show decide (ys = ys) = true by simp]
              have HFIN := Lib.hid ((HS.out.trans hs (fun _ _ h => h)).to_below (Nat.le_refl _) (fun _ _ => id))
              clear hs
              go_wp2
              go_ret
              exact ⟨rfl, HFIN.out⟩
  · obtain ⟨er, her⟩ : ∃ z, z = prE xs os := ⟨_, rfl⟩
    rw [← her] at HP he
    have hne : (er != 0) = true := by simpa using he
    clear her he
    go_enter Try.func5, Try.ntmps5
    go_wp2_with (fail)
    refine (sawake_any w).mono ?_
    rintro e w1 ⟨rfl, hs⟩
    have HS := Lib.hid hs
    clear hs
    go_wp2_with (fail)
    refine (HP.out w1 HS.out).mono ?_
    rintro e w2 ⟨Ap, Cp, rfl, hNT⟩
    have HFIN := Lib.hid ((HS.out.trans hNT.2.2 (fun _ _ h => h)).to_below (Nat.le_refl _) (fun _ _ => id))
    clear hNT
    go_wp2
    go_ret
    exact ⟨rfl, HFIN.out⟩
end Go.Proofs.Ytakepdkokjecoaa


/- The walk of ShNam beside the given rows. -/
namespace Go.Proofs.Ytakepdkokjecoaa
open Go.RowKit Go.Tk
theorem sl_vals {w : World} {A : Option Addr} {n : Nat} {xs : List {t : Tb // TbIn w t}} (h : Sl w 2 (fun x : {t : Tb // TbIn w t} => x.1.cells) A n xs) : Sl w 2 Tb.cells A n (xs.map (·.1)) := by
  refine ⟨by rw [List.length_map]; exact h.len, fun i t hi => ?_⟩
  rw [List.getElem?_map] at hi
  obtain ⟨x, hx, rfl⟩ := Option.map_eq_some_iff.1 hi
  exact h.get i x hx
theorem ok_vals {w : World} {xs : List {t : Tb // TbIn w t}} : ∀ t ∈ xs.map (·.1), TbOk w t := fun t ht => by
  obtain ⟨x, _, rfl⟩ := List.mem_map.1 ht
  exact x.2.ok
end Go.Proofs.Ytakepdkokjecoaa
