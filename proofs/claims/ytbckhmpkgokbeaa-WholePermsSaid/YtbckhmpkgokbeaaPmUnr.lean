/- Unrank: what both compute. Plain, and the program's digits. -/
import Derived.Test.YtbckhmpkgokbeaaPmDelete
import Derived.Test.YtbckhmpkgokbeaaPmFact
namespace Go.Proofs.Ytbckhmpkgokbeaa
open Go.RowKit Go.Tk

def rq (r : Nat) : Nat → Nat
  | 0 => r
  | i + 1 => rq r i / (i + 1)
theorem rq_div (r : Nat) : ∀ i, rq r i = r / fact i
  | 0 => by simp [rq, fact]
  | i + 1 => by rw [rq, rq_div r i, Nat.div_div_eq_div_mul, fact, Nat.mul_comm]
def dg (r i : Nat) : Nat := rq r i % (i + 1)
theorem dg_lt (r i : Nat) : dg r i ≤ i := by
  unfold dg
  have := Nat.mod_lt (rq r i) (show 0 < i + 1 by omega)
  omega
theorem dg_doc (r m : Nat) : (r % fact (m + 1)) / fact m = dg r m := by
  unfold dg
  rw [rq_div, fact, Nat.mul_comm, Nat.mod_mul_right_div_self]
theorem rq_le (r : Nat) : ∀ i, rq r i ≤ r
  | 0 => Nat.le_refl _
  | i + 1 => Nat.le_trans (Nat.div_le_self _ _) (rq_le r i)
/-- the things taken, and those left, behind k digits -/
def dcd (f : Nat → Nat) (n : Nat) : Nat → List Int × List Int
  | 0 => ([], rng n)
  | k + 1 => ((dcd f n k).1 ++ [(dcd f n k).2.getD (f k) 0], (dcd f n k).2.take (f k) ++ (dcd f n k).2.drop (f k + 1))
def dgs (n r : Nat) (k : Nat) : Nat := dg r (n - 1 - k)
theorem dcd_len {f : Nat → Nat} {n : Nat} (hf : ∀ k, k < n → f k + k < n) : ∀ k, k ≤ n → (dcd f n k).1.length = k ∧ (dcd f n k).2.length = n - k
  | 0, _ => by simp [dcd, rng_len]
  | k + 1, h => by
    have ih := dcd_len hf k (by omega)
    have := hf k (by omega)
    simp only [dcd, List.length_append, List.length_singleton, List.length_take, List.length_drop]
    omega
theorem dgs_ok {n r : Nat} : ∀ k, k < n → dgs n r k + k < n := fun k hk => by
  unfold dgs
  have := dg_lt r (n - 1 - k)
  omega
def unL (n r : Nat) : List Int := (dcd (dgs n r) n n).1
/-- the error: too many, or no such place -/
def unE (n : Int) (r : Nat) : Int := if n < 0 ∨ 20 < n then 1 else if fact n.toNat ≤ r then 1 else 0
def unR (n : Int) (r : Nat) : List Int := if unE n r = 0 then unL n.toNat r else []
/-- the digits from the end on -/
def dgL (n r i : Nat) : List Int := (List.range n).map fun j : Nat => if n - i ≤ j then (dg r (n - 1 - j) : Int) else 0
theorem dgL_len (n r i : Nat) : (dgL n r i).length = n := by simp [dgL]
theorem dgL_zero (n r : Nat) : dgL n r 0 = List.replicate n 0 := by
  apply List.ext_getElem?
  intro j
  rcases Nat.lt_or_ge j n with h | h
  · simp [dgL, h]
    omega
  · rw [List.getElem?_eq_none (by rw [dgL_len]; exact h), List.getElem?_eq_none (by simpa using h)]
theorem dgL_set {n r i : Nat} (h : i < n) : (dgL n r i).set (n - 1 - i) (dg r i : Int) = dgL n r (i + 1) := by
  apply List.ext_getElem?
  intro j
  rcases Nat.lt_or_ge j n with hj | hj
  · rw [List.getElem?_set, dgL_len]
    simp only [dgL, List.getElem?_map, List.getElem?_range hj, Option.map_some]
    split
    · rename_i he
      subst he
      rw [if_pos (by omega), if_pos (by omega), show n - 1 - (n - 1 - i) = i by omega]
    · rename_i he
      congr 1
      by_cases h1 : n - i ≤ j
      · rw [if_pos h1, if_pos (by omega)]
      · rw [if_neg h1, if_neg (by omega)]
  · rw [List.getElem?_eq_none (by simp [dgL_len, hj]), List.getElem?_eq_none (by rw [dgL_len]; exact hj)]
theorem dgL_get {n r j : Nat} (h : j < n) : (dgL n r n)[j]? = some (dgs n r j : Int) := by
  simp [dgL, h, dgs]
theorem un_zero {n r : Nat} : rq r n = 0 ↔ r < fact n := by
  rw [rq_div]
  exact Nat.div_eq_zero_iff_lt (fact_pos n)
end Go.Proofs.Ytbckhmpkgokbeaa
