/- Permutations: the reference's Factorial and DocRank. -/
import Derived.Test.YtbckhmpkgokbeaaPmRank2
namespace Go.Proofs.Ytbckhmpkgokbeaa
open Go.RowKit Go.Tk

theorem fact_mono {a b : Nat} (h : a ≤ b) : fact a ≤ fact b := by
  induction b with
  | zero => rw [show a = 0 by omega]; exact Nat.le_refl _
  | succ b ih =>
    rcases Nat.lt_or_ge a (b + 1) with h1 | h1
    · have := ih (by omega)
      rw [show fact (b + 1) = (b + 1) * fact b from rfl]
      have h2 := Nat.le_mul_of_pos_left (fact b) (show 0 < b + 1 by omega)
      omega
    · rw [show a = b + 1 by omega]; exact Nat.le_refl _
/-- the document's sum -/
def rdS (xs : List Int) : Nat → Nat
  | 0 => 0
  | k + 1 => rdS xs k + lessC xs k * fact (xs.length - 1 - k)
theorem rdS_eq (xs : List Int) : ∀ k, k ≤ xs.length → rkS xs k * fact (xs.length - k) = rdS xs k
  | 0, _ => by simp [rkS, rdS]
  | k + 1, h => by
    have ih := rdS_eq xs k (by omega)
    rw [rkS, rdS, ← ih, Nat.add_mul, Nat.mul_assoc, show xs.length - (k + 1) = xs.length - 1 - k by omega]
    congr 1
    rw [show xs.length - k = (xs.length - 1 - k) + 1 by omega]
    rfl
theorem rdS_full (xs : List Int) : rdS xs xs.length = rkS xs xs.length := by
  rw [← rdS_eq xs xs.length (Nat.le_refl _), Nat.sub_self]
  simp [fact]
theorem rdS_lt {xs : List Int} (h : xs.length ≤ 20) {k : Nat} (hk : k ≤ xs.length) : rdS xs k < 2432902008176640000 := by
  rw [← rdS_eq xs k hk]
  have h1 := rkS_lt xs k hk
  have h2 := dsc_fact xs.length k hk
  have h3 := fact_le20 h
  have h4 : (rkS xs k + 1) * fact (xs.length - k) ≤ dsc xs.length k * fact (xs.length - k) := Nat.mul_le_mul_right _ h1
  have h5 := fact_pos (xs.length - k)
  rw [Nat.add_mul, Nat.one_mul] at h4
  omega

end Go.Proofs.Ytbckhmpkgokbeaa
