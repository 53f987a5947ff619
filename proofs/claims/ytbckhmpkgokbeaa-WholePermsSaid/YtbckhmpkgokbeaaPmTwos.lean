/- PermTwos: its walk. -/
import Derived.Test.YtbckhmpkgokbeaaPmAwake
namespace Go.Proofs.Ytbckhmpkgokbeaa
open Go.RowKit Go.Tk

theorem coL_le (p q : List Int) : (coL p q).length ≤ q.length := by unfold coL; split <;> simp [compL]
theorem paL_le (p q : List Int) : (paL p q).length ≤ 4096 := by
  unfold paL
  split
  · rename_i h
    obtain ⟨_, _, h1, h2⟩ := both_ok h
    exact pst_path64 h2 (by omega)
  · simp
abbrev intKs : List Leaf := [.int .i64]
theorem icell_of {w : World} (l : List Value) (h : CellsOk w intKs l) : ∃ x : Int, l = icell x := by
  simp only [CellsOk, CellOk] at h
  obtain ⟨v0, l0, rfl, ⟨n0, rfl, _⟩, rfl⟩ := h
  exact ⟨n0, rfl⟩
end Go.Proofs.Ytbckhmpkgokbeaa
