/- A region that does not draw its order, walked by hand: its reading operations first, then one operation at a time. General. -/
import Derived.Test.YtlggmoghgoeiiaaPart
import Derived.Deep.DeepCutAuto
namespace Go.Tk
open Go.RowKit

section
variable {P : Program} {ops : Array Oper} {C : World → Prop} {Q : Exit → Act → World → Prop}
theorem wpList_head : ∀ (l rest : List Oper) (a : Act) (w : World), C w → wpQuiet P ops C (fun a' => ∀ w', C w' → wpList P ops Q rest a' w') l a → wpList P ops Q (l ++ rest) a w
  | [], _, _, w, hC, h => h w hC
  | o :: l, rest, a, w, hC, h => by
    simp only [wpQuiet] at h
    simp only [List.cons_append, wpList]
    split
    · rename_i hw
      rw [if_pos hw] at h
      obtain ⟨v, hv, hK⟩ := h
      left
      have h3 := hv w hC
      unfold Oper.quietAt at h3
      unfold Oper.wp
      generalize (execOp a.eval o).run P w = res at h3 ⊢
      cases res with
      | ok nx w' =>
        cases nx <;> simp only [Oper.quietUpon] at h3 <;> simp only [Oper.upon]
        case value u =>
          obtain ⟨rfl, rfl⟩ := h3
          exact wpList_head l rest _ _ hC hK
        case skip =>
          obtain ⟨rfl, rfl⟩ := h3
          exact wpList_head l rest _ _ hC hK
        case enter f args =>
          obtain ⟨rfl, h4⟩ := h3
          refine h4.mono fun e w'' he => ?_
          obtain ⟨rfl, hC'⟩ := he
          exact wpList_head l rest _ _ hC' hK
      | halt x w' => simp only [Oper.quietUpon] at h3
    · rename_i hw
      rw [if_neg hw] at h
      exact wpList_head l rest _ _ hC h
end
theorem more_self (w : World) : ∃ p, w = more w p := more_of_same (Frm.refl _ _)
/-- the first n operations of a region that does not draw -/
theorem wp_head {P : Program} {Q : Exit → Act → World → Prop} {id : Nat} {l : List Oper} {a : Act} {w : World} (n : Nat)
    (h : wpQuiet P l.toArray (fun w' => ∃ p, w' = more w p) (fun a' => ∀ w', (∃ p, w' = more w p) → wpList P l.toArray Q (l.drop n) a' w') (l.take n) a) : (Code.region id l.toArray false).wp P Q a w := by
  have := wpList_head (C := fun w' => ∃ p, w' = more w p) (l.take n) (l.drop n) a w (more_self w) h
  rw [List.take_append_drop] at this
  exact wp_region_lit this
/-- reading operations within a list -/
theorem list_head {P : Program} {ops : Array Oper} {Q : Exit → Act → World → Prop} {l : List Oper} {a : Act} {w : World} (n : Nat)
    (h : wpQuiet P ops (fun w' => ∃ p, w' = more w p) (fun a' => ∀ w', (∃ p, w' = more w p) → wpList P ops Q (l.drop n) a' w') (l.take n) a) : wpList P ops Q l a w := by
  have := wpList_head (C := fun w' => ∃ p, w' = more w p) (l.take n) (l.drop n) a w (more_self w) h
  rwa [List.take_append_drop] at this
/-- reading operations alone: the world stays -/
theorem wpList_read {P : Program} {ops : Array Oper} {Q : Exit → Act → World → Prop} {l : List Oper} {a : Act} {w : World} (n : Nat)
    (h : wpQuiet P ops (fun w' => w' = w) (fun a' => wpList P ops Q (l.drop n) a' w) (l.take n) a) : wpList P ops Q l a w := by
  have := wpList_head (C := fun w' => w' = w) (Q := Q) (P := P) (ops := ops) (l.take n) (l.drop n) a w rfl (by
    have mono : ∀ (l : List Oper) (a : Act) (K K' : Act → Prop), (∀ a, K a → K' a) → wpQuiet P ops (fun w' => w' = w) K l a → wpQuiet P ops (fun w' => w' = w) K' l a := by
      intro l
      induction l with
      | nil => intro a K K' hk h; exact hk _ h
      | cons o l ih =>
        intro a K K' hk h
        simp only [wpQuiet] at h ⊢
        split
        · rename_i hw
          rw [if_pos hw] at h
          exact Oper.quiet_mono (fun a h => ih a K K' hk h) h
        · rename_i hw
          rw [if_neg hw] at h
          exact ih _ K K' hk h
    exact mono _ _ _ _ (fun a h w' hw' => hw' ▸ h) h)
  rwa [List.take_append_drop] at this
theorem wp_read {P : Program} {Q : Exit → Act → World → Prop} {id : Nat} {l : List Oper} {a : Act} {w : World} (n : Nat)
    (h : wpQuiet P l.toArray (fun w' => w' = w) (fun a' => wpList P l.toArray Q (l.drop n) a' w) (l.take n) a) : (Code.region id l.toArray false).wp P Q a w :=
  wp_region_lit (wpList_read n h)
end Go.Tk
