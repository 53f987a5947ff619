/- PermAll: its walk. -/
import Derived.Test.YtbckhmpkgokbeaaPmLeads
namespace Go.Proofs.Ytbckhmpkgokbeaa
open Go.RowKit Go.Tk

/-- the order behind i exchanges -/
def atL (k i : Nat) : List Int := swps (rng k) ((chL k).take i)
def rkL (k i : Nat) : List Nat := (List.range i).map fun j => rkV (atL k j)
def seenR (k i n : Nat) : List Bool := (List.range n).map fun r => decide (r ∈ rkL k i)
theorem seenR_len (k i n : Nat) : (seenR k i n).length = n := by simp [seenR]
theorem seenR_get (k i : Nat) {n r : Nat} (h : r < n) : (seenR k i n)[r]? = some (decide (r ∈ rkL k i)) := by simp [seenR, h]
theorem seenR_zero (k n : Nat) : seenR k 0 n = List.replicate n false := by
  apply List.ext_getElem?
  intro j
  rcases Nat.lt_or_ge j n with h | h
  · rw [seenR_get k 0 h]; simp [rkL, h]
  · rw [List.getElem?_eq_none (by rw [seenR_len]; exact h), List.getElem?_eq_none (by simpa using h)]
theorem rkL_succ (k i : Nat) : rkL k (i + 1) = rkL k i ++ [rkV (atL k i)] := by simp [rkL, List.range_succ]
theorem seenR_set {k i n r : Nat} (hr : rkV (atL k i) = r) (h : r < n) : (seenR k i n).set r true = seenR k (i + 1) n := by
  apply List.ext_getElem?
  intro j
  rcases Nat.lt_or_ge j n with hj | hj
  · rw [List.getElem?_set, seenR_len, seenR_get k (i + 1) hj, seenR_get k i hj, rkL_succ, hr]
    split
    · rename_i he; subst he; simp
    · rename_i he
      have : ¬ j = r := fun h => he h.symm
      simp [this]
  · rw [List.getElem?_eq_none (by simp [seenR_len, hj]), List.getElem?_eq_none (by rw [seenR_len]; exact hj)]
theorem all_facts (k : Nat) (h2 : 2 ≤ k) (h4 : k ≤ 4) : (chL k).length + 1 = fact k ∧ chE k = 0 ∧ (∀ i, i < fact k → rkE (atL k i) = 0 ∧ rkV (atL k i) < fact k ∧ rkV (atL k i) ∉ rkL k i ∧ (atL k i).length = k) ∧
    (∀ i, i < (chL k).length → swE (atL k i) ((chL k).getD i 0) = 0) := by
  obtain rfl | rfl | rfl : k = 2 ∨ k = 3 ∨ k = 4 := by omega
  · decide +kernel
  · decide +kernel
  · decide +kernel
theorem atL_succ {k i : Nat} {l : Int} (h : (chL k)[i]? = some l) : swp (atL k i) l.toNat = atL k (i + 1) := by
  unfold atL
  rw [take_snoc h, swps_snoc]
theorem fact_small {k : Nat} (h : k ≤ 4) : fact k ≤ 24 := by
  have : ∀ k, k ≤ 4 → fact k ≤ 24 := by decide
  exact this k h
end Go.Proofs.Ytbckhmpkgokbeaa
