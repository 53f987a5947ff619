/- Tools of the walks of this seat: lists of integers, read and made. No condition. -/
import Derived.Test.YtlggmoghgoeiiaaMix
namespace Go.Tk
open Go.RowKit Go.ChangeShapes Go.WideShapes Go.Deep

def icell (x : Int) : List Value := [.int .i64 x]
theorem icell_len (x : Int) : (icell x).length = 1 := rfl
/-- a slice of ints, wherever it lies -/
abbrev IL (w : World) (A : Option Addr) (n : Nat) (xs : List Int) : Prop := Sl w 1 icell A n xs
/-- a row of one-cell things of the call's own -/
abbrev Row1 (w : World) (e : TypeId) {α : Type} (c : α → Value) (A : Option Addr) (N C : Nat) (xs : List α) : Prop := Own w e 1 (fun x => [c x]) A N C xs
abbrev OwnI (w : World) (e : TypeId) (A : Option Addr) (N C : Nat) (xs : List Int) : Prop := Own w e 1 icell A N C xs

section
variable {w w' : World} {e : TypeId} {α : Type} {c : α → Value} {A : Option Addr} {N C n : Nat} {xs : List α}
theorem Sl.at1 {xs : List Int} (h : IL w A n xs) {i : Nat} {x : Int} (hi : xs[i]? = some x) : ∃ b off, A = some ⟨b, off, none⟩ ∧ b < w.heap.size ∧ w.cell? ⟨b, off + i, none⟩ = some (.int .i64 x) := by
  obtain ⟨b, off, h1, h2, h3⟩ := h.get i x hi
  refine ⟨b, off, h1, h2, ?_⟩
  have := h3 0 (by omega)
  simpa [icell] using this
theorem Sl.same {m : Nat} {f : α → List Value} (h : Sl w m f A n xs) (hs : Same w w') : Sl w' m f A n xs := h.later (hs.to_below (Nat.le_refl _) (fun _ _ => id))
theorem Own.sl {m : Nat} {f : α → List Value} (hf : ∀ x, (f x).length = m) (h : Own w e m f A N C xs) : Sl w m f A N xs :=
  ⟨h.len, fun i x hi => by
    obtain ⟨sb, rfl, h1, h2⟩ := h.get hf hi
    exact ⟨sb, 0, rfl, h1, fun j hj => by rw [Nat.zero_add]; exact h2 j hj⟩⟩
theorem Own.il {xs : List Int} (h : OwnI w e A N C xs) : IL w A N xs := h.sl icell_len
theorem Own.at1 (h : Row1 w e c A N C xs) {i : Nat} {x : α} (hi : xs[i]? = some x) : ∃ sb, A = some ⟨sb, 0, none⟩ ∧ sb < w.heap.size ∧ w.cell? ⟨sb, i, none⟩ = some (c x) := by
  obtain ⟨sb, h1, h2, h3⟩ := Own.get (m := 1) (f := fun x => [c x]) (fun _ => rfl) h hi
  refine ⟨sb, h1, h2, ?_⟩
  have := h3 0 (by omega)
  simpa using this
theorem Own.put1 {sb : Nat} (h : Row1 w e c (some ⟨sb, 0, none⟩) N C xs) {i : Nat} (hi : i < xs.length) (x' : α) : Row1 (w.setCell ⟨sb, i, none⟩ (c x')) e c (some ⟨sb, 0, none⟩) N C (xs.set i x') := by
  have := Own.store (m := 1) (f := fun x => [c x]) (fun _ => rfl) h i 0 (xs[i]) x' (c x') (List.getElem?_eq_getElem hi) (by omega) rfl
  simpa using this
theorem Own.form1 (h : Row1 w e c A N C xs) (hN : 0 < xs.length) : ∃ sb, A = some ⟨sb, 0, none⟩ ∧ sb < w.heap.size := h.form (by have := h.len; omega)
theorem Own.ofMade (w : World) (e : TypeId) {m : Nat} (f : α → List Value) (hf : ∀ x, (f x).length = m) (hm : 0 < m) (x : α) (n : Nat) (hmax : n ≤ maxLen) {cs : Array Value} (hcs : cs = madeCells (f x).toArray (n * m)) :
    Own (w.alloc (.cells cs e)) e m f (some ⟨w.heap.size, 0, none⟩) n n (List.replicate n x) := by
  subst hcs
  rw [made_flat f m hf hm]
  refine ⟨by simp, by rw [flat_length f m hf]; simp, .inr ⟨w.heap.size, n, _, rfl, Nat.zero_le _, heap_alloc_new w _, Nat.le_refl _, hmax, ?_, ?_⟩⟩
  · rw [List.size_toArray, flat_length f m hf, List.length_replicate]
  · rw [List.toList_toArray]
    apply List.take_of_length_le
    rw [flat_length f m hf, List.length_replicate]
    exact Nat.le_refl _
theorem Own.lit (w : World) (e : TypeId) {m : Nat} (f : α → List Value) (hf : ∀ x, (f x).length = m) (xs : List α) (hmax : xs.length ≤ maxLen) {cs : Array Value} (hcs : cs = (xs.flatMap f).toArray) :
    Own (w.alloc (.cells cs e)) e m f (some ⟨w.heap.size, 0, none⟩) xs.length xs.length xs := by
  subst hcs
  refine ⟨rfl, flat_length f m hf xs, .inr ⟨w.heap.size, xs.length, _, rfl, Nat.zero_le _, heap_alloc_new w _, Nat.le_refl _, hmax, ?_, ?_⟩⟩
  · rw [List.size_toArray, flat_length f m hf]
  · rw [List.toList_toArray]
    apply List.take_of_length_le
    rw [flat_length f m hf]
    exact Nat.le_refl _
/-- the row lies in new memory -/
def Fresh (B : Nat) (A : Option Addr) : Prop := ∀ b, rowOf A b → B ≤ b
theorem fresh_none (B : Nat) : Fresh B none := by rintro b ⟨a, h, _⟩; cases h
theorem fresh_some {B b off : Nat} (h : B ≤ b) : Fresh B (some ⟨b, off, none⟩) := by rintro b' ⟨a, ha, rfl⟩; injection ha with ha; subst ha; exact h
end
theorem Own.pop {w : World} {e : TypeId} {m : Nat} {α : Type} {f : α → List Value} {A : Option Addr} {N C : Nat} {xs : List α} {x : α} (hf : ∀ x, (f x).length = m) (h : Own w e m f A N C (xs ++ [x])) : Own w e m f A xs.length C xs := by
  have hl := h.len
  simp at hl
  refine ⟨rfl, flat_length f m hf xs, ?_⟩
  rcases h.own.2 with ⟨_, h0⟩ | ⟨g, cap, cur, h1, h0, h2, h3, h4, h5, h6⟩
  · omega
  · injection h1 with hA _ hC
    subst hA hC
    refine .inr ⟨g, _, cur, rfl, h0, h2, by omega, h4, h5, ?_⟩
    have h7 := congrArg (List.take (xs.length * m)) h6
    rw [List.take_take, hl, Nat.min_eq_left (Nat.mul_le_mul_right m (by omega)), List.flatMap_append, List.take_append_of_le_length (by rw [flat_length f m hf]; exact Nat.le_refl _)] at h7
    rw [h7]
    exact List.take_of_length_le (by rw [flat_length f m hf]; exact Nat.le_refl _)
theorem Own.pop1 {w : World} {e : TypeId} {α : Type} {c : α → Value} {A : Option Addr} {N C : Nat} {xs : List α} {x : α} (h : Row1 w e c A N C (xs ++ [x])) : Row1 w e c A xs.length C xs :=
  Own.pop (m := 1) (f := fun x => [c x]) (fun _ => rfl) h
theorem Own.ne_own {w : World} {e e' : TypeId} {m m' : Nat} {α β : Type} {f : α → List Value} {f' : β → List Value} {A A' : Option Addr} {N C N' C' : Nat} {xs : List α} {ys : List β} (h : Own w e m f A N C xs) (h' : Own w e' m' f' A' N' C' ys) (hne : e ≠ e') :
    ∀ b, rowOf A b → ¬ rowOf A' b := by
  rintro b ⟨a, ha, hb⟩ ⟨a', ha', hb'⟩
  subst ha ha'
  rcases h.own.2 with ⟨h0, _⟩ | ⟨g, cap, cur, h1, _, h2, _⟩
  · cases h0
  · rcases h'.own.2 with ⟨h0, _⟩ | ⟨g', cap', cur', h1', _, h2', _⟩
    · cases h0
    · injection h1 with hA _ _
      injection hA with hA
      injection h1' with hA' _ _
      injection hA' with hA'
      subst hA hA'
      simp only at hb hb'
      subst hb hb'
      exact hne (Blk.inj (show Blk w g' e cur from h2) (show Blk w g' e' cur' from h2')).1
theorem grow_fresh {w w' : World} {A : Option Addr} {N C B : Nat} {S : Nat → Prop} (h : w.grownBy w' (Value.slice A N C).ownBlock) (hs : Frm S w w) (hA : Fresh B A) (hB : B ≤ w.heap.size) : Below B w w' := by
  have := hs
  exact Frm.to_below (S := fun b => rowOf A b) ((Frm.refl _ _).grown h (fun g hg => .inl (ownBlock_row.1 hg))) hB (fun i hi hr => by have := hA i hr; omega)
end Go.Tk
