/- Permutations: the reference's DocPath. -/
import Derived.Test.YtbckhmpkgokbeaaPmPath
namespace Go.Tk
theorem Sl.frm {w w' : World} {S : Nat → Prop} {m : Nat} {α : Type} {f : α → List Value} {A : Option Addr} {n : Nat} {xs : List α} (h : Sl w m f A n xs) (hf : Frm S w w') (hs : 0 < xs.length → ∀ b, rowOf A b → ¬ S b) : Sl w' m f A n xs :=
  ⟨h.len, fun i x hi => by
    obtain ⟨b, off, h1, h2, h3⟩ := h.get i x hi
    have hl := lt_of_get hi
    exact ⟨b, off, h1, Nat.lt_of_lt_of_le h2 hf.size, fun j hj => by rw [← h3 j hj]; exact hf.cell (p := ⟨b, _, none⟩) h2 (hs (by omega) b ⟨_, h1, rfl⟩)⟩⟩
theorem Sl.row {w : World} {m : Nat} {α : Type} {f : α → List Value} {A : Option Addr} {n : Nat} {xs : List α} (h : Sl w m f A n xs) (h0 : 0 < xs.length) : ∀ b, rowOf A b → b < w.heap.size := by
  rintro b ⟨a, ha, rfl⟩
  obtain ⟨b, off, h1, h2, h3⟩ := h.get 0 _ (List.getElem?_eq_getElem h0)
  rw [h1] at ha
  injection ha with ha
  subst ha
  exact h2
end Go.Tk
namespace Go.Proofs.Ytbckhmpkgokbeaa
open Go.RowKit Go.Tk

end Go.Proofs.Ytbckhmpkgokbeaa
