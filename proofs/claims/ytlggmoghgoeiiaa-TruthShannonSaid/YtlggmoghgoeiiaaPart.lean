/- The cells of a part of a row, and a row's capacity: general. -/
import Derived.Test.YtlggmoghgoeiiaaApp
namespace Go.Tk
open Go.RowKit

theorem Own.cap {w : World} {e : TypeId} {m : Nat} {α : Type} {f : α → List Value} {A : Option Addr} {N C : Nat} {xs : List α} (h : Own w e m f A N C xs) : N ≤ C := by
  rcases h.own.2 with ⟨h1, h2⟩ | ⟨g, cap, cur, h1, _, _, hnc, _⟩
  · cases h1; omega
  · cases h1; exact hnc
theorem part_cells {w : World} {sb m : Nat} {α : Type} {f : α → List Value} (hf : ∀ x, (f x).length = m) (hm : 0 < m) {xs : List α} (hc : ∀ (i : Nat) (x : α), xs[i]? = some x → ∀ j, j < m → w.cell? ⟨sb, i * m + j, none⟩ = (f x)[j]?) (o : Nat) (ys : List α) (hy : ∀ i x, ys[i]? = some x → xs[o + i]? = some x) :
    ∀ j u, (ys.flatMap f)[j]? = some u → w.cell? ((⟨sb, o * m, none⟩ : Addr).add j) = some u := by
  intro j u hj
  have hj' := hj
  rw [show j = j / m * m + j % m from by rw [Nat.mul_comm]; exact (Nat.div_add_mod j m).symm, flat_get f m hf _ _ _ (Nat.mod_lt _ hm)] at hj'
  cases hx : ys[j / m]? with
  | none => rw [hx] at hj'; cases hj'
  | some x =>
    rw [hx] at hj'
    have h2 := hc (o + j / m) x (hy _ _ hx) (j % m) (Nat.mod_lt _ hm)
    have hadd : (⟨sb, o * m, none⟩ : Addr).add j = ⟨sb, (o + j / m) * m + j % m, none⟩ := by
      have : (o + j / m) * m + j % m = o * m + j := by
        have := Nat.div_add_mod j m
        rw [Nat.add_mul, Nat.mul_comm (j / m)]; omega
      rw [this]
      unfold Addr.add; split <;> simp_all
    rw [hadd, h2]
    exact hj'
end Go.Tk
