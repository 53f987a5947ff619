/- PermUndoes: its walk. -/
import Derived.Test.YtbckhmpkgokbeaaPmTwos
import Derived.Test.YtbckhmpkgokbeaaPermPure3
namespace Go.Proofs.Ytbckhmpkgokbeaa
open Go.RowKit Go.Tk

theorem both_of {xs ys : List Int} (hp : IsPerm xs) (hq : IsPerm ys) (hl : xs.length = ys.length) (h64 : xs.length ≤ 64) : both xs ys = 0 := by
  have h1 := chk_ok.2 ⟨hp, h64⟩
  have h2 := chk_ok.2 ⟨hq, by omega⟩
  unfold both
  rw [h1, h2, if_neg (by simp [hl])]
  rfl
end Go.Proofs.Ytbckhmpkgokbeaa
