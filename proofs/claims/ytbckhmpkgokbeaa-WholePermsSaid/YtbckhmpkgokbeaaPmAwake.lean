/- Permutations: the first look of the laws. -/
import Derived.Test.YtbckhmpkgokbeaaPmRank2
namespace Go.Proofs.Ytbckhmpkgokbeaa
open Go.RowKit Go.Tk

theorem NewL.il {w w' : World} {ys : List Int} {A : Option Addr} {C : Nat} (h : NewL w ys A C w') : IL w' A ys.length ys := Own.il h.1
theorem lit_il {w w' : World} (ys : List Int) (hm : ys.length ≤ 1000) {cs : Array Value} (hcs : cs = (ys.flatMap icell).toArray) (hw : w' = w.alloc (.cells cs 3)) : IL w' (some ⟨w.heap.size, 0, none⟩) ys.length ys := by
  rw [hw]
  exact (lit_new w ys hm hcs).il
end Go.Proofs.Ytbckhmpkgokbeaa
