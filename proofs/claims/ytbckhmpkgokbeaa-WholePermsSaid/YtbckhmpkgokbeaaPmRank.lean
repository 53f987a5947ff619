/- Permutations: Same of the reference; Rank of the program. -/
import Derived.Test.YtbckhmpkgokbeaaPmInvs
import Derived.Test.YtbckhmpkgokbeaaPmDPath
namespace Go.Proofs.Ytbckhmpkgokbeaa
open Go.RowKit Go.Tk

/-- how many less ones follow the i-th -/
def lessC (xs : List Int) (i : Nat) : Nat := (xs.drop (i + 1)).countP (fun y => decide (y < xs.getD i 0))
def rkS (xs : List Int) : Nat → Nat
  | 0 => 0
  | k + 1 => rkS xs k * (xs.length - k) + lessC xs k
def fact : Nat → Nat
  | 0 => 1
  | n + 1 => (n + 1) * fact n
/-- n (n-1) .. (n-k+1) -/
def dsc (n : Nat) : Nat → Nat
  | 0 => 1
  | k + 1 => dsc n k * (n - k)
theorem fact_pos : ∀ n, 0 < fact n
  | 0 => by decide
  | n + 1 => by unfold fact; exact Nat.mul_pos (by omega) (fact_pos n)
theorem dsc_fact (n : Nat) : ∀ k, k ≤ n → dsc n k * fact (n - k) = fact n
  | 0, _ => by simp [dsc]
  | k + 1, h => by
    have ih := dsc_fact n k (by omega)
    rw [show n - k = (n - (k + 1)) + 1 by omega, fact] at ih
    rw [dsc, Nat.mul_assoc, show n - k = n - (k + 1) + 1 by omega]
    exact ih
theorem fact_le20 {n : Nat} (h : n ≤ 20) : fact n ≤ 2432902008176640000 := by
  have : ∀ n, n ≤ 20 → fact n ≤ 2432902008176640000 := by decide
  exact this n h
theorem dsc_le {n k : Nat} (h : n ≤ 20) (hk : k ≤ n) : dsc n k ≤ 2432902008176640000 := by
  have h1 := dsc_fact n k hk
  have h2 := Nat.le_mul_of_pos_right (dsc n k) (fact_pos (n - k))
  have h3 := fact_le20 h
  omega
theorem lessC_lt (xs : List Int) {k : Nat} (h : k < xs.length) : lessC xs k + k < xs.length := by
  unfold lessC
  have := List.countP_le_length (p := fun y => decide (y < xs.getD k 0)) (l := xs.drop (k + 1))
  rw [List.length_drop] at this
  omega
theorem rkS_lt (xs : List Int) : ∀ k, k ≤ xs.length → rkS xs k < dsc xs.length k
  | 0, _ => by simp [rkS, dsc]
  | k + 1, h => by
    have ih := rkS_lt xs k (by omega)
    have hl := lessC_lt xs (show k < xs.length by omega)
    rw [rkS, dsc]
    have h1 : (rkS xs k + 1) * (xs.length - k) ≤ dsc xs.length k * (xs.length - k) := Nat.mul_le_mul_right _ ih
    rw [Nat.add_mul, Nat.one_mul] at h1
    omega
def rkE (xs : List Int) : Int := if chk xs = 4 then 4 else if 20 < xs.length then 6 else 0
def rkV (xs : List Int) : Nat := if rkE xs = 0 then rkS xs xs.length else 0
end Go.Proofs.Ytbckhmpkgokbeaa
