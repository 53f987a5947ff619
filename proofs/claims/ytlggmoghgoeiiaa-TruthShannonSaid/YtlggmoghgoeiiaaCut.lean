/- A thing taken out of a row in place. General. -/
import Derived.Test.YtlggmoghgoeiiaaStep
import Derived.Test.YtlggmoghgoeiiaaInts
import Derived.Deep.RegionLaw
namespace Go.Tk
open Go.RowKit

theorem put_setCells (b : Nat) : ∀ (vs : List Value) (o : Nat) (w : World), w.setCells b o vs = put w b o vs
  | [], _, _ => rfl
  | v :: vs, o, w => by rw [World.setCells, put_setCells b vs]; rfl
theorem setL_mid : ∀ (vs l : List Value) (o : Nat), o + vs.length ≤ l.length → setL l o vs = l.take o ++ vs ++ l.drop (o + vs.length)
  | [], l, o, _ => by simp [setL]
  | v :: vs, l, o, h => by
    simp only [List.length_cons] at h
    rw [setL, setL_mid vs (l.set o v) (o + 1) (by simp; omega)]
    have h1 : (l.set o v).take (o + 1) = l.take o ++ [v] := by
      rw [List.take_succ_eq_append_getElem (by simp; omega)]
      simp [List.take_set_of_le]
    have h2 : (l.set o v).drop (o + 1 + vs.length) = l.drop (o + (v :: vs).length) := by
      rw [List.drop_set_of_lt (by omega), List.length_cons]
      congr 1
      omega
    rw [h1, h2]
    simp
theorem flat1 {α : Type} (c : α → Value) (xs : List α) : xs.flatMap (fun x => [c x]) = xs.map c := by
  induction xs with
  | nil => rfl
  | cons x xs ih => rw [List.flatMap_cons, ih]; rfl
/-- what stands behind i moved down by one; the last stays as it was -/
theorem Own.down {w : World} {e : TypeId} {α : Type} {c : α → Value} {sb N C i : Nat} {xs : List α} (h : Row1 w e c (some ⟨sb, 0, none⟩) N C xs) (hi : i < N) :
    Row1 (w.setCells sb i ((xs.drop (i + 1)).map c)) e c (some ⟨sb, 0, none⟩) N C (xs.take i ++ xs.drop (i + 1) ++ xs.drop (N - 1)) := by
  have hl := h.len
  have h1 := own_put ((xs.drop (i + 1)).map c) i h.own
  rw [← put_setCells, flat1, setL_mid _ _ _ (by simp; omega)] at h1
  refine ⟨by simp; omega, ?_⟩
  rw [flat1]
  have he : (xs.map c).take i ++ (xs.drop (i + 1)).map c ++ (xs.map c).drop (i + ((xs.drop (i + 1)).map c).length) = (xs.take i ++ xs.drop (i + 1) ++ xs.drop (N - 1)).map c := by
    rw [List.length_map, List.length_drop, List.map_append, List.map_append, List.map_take, List.map_drop, List.map_drop]
    congr 2
    omega
  rw [he] at h1
  exact h1
theorem Own.trunc1 {w : World} {e : TypeId} {α : Type} {c : α → Value} {A : Option Addr} {N C : Nat} {ys : List α} {z : α} (h : Row1 w e c A N C (ys ++ [z])) : Row1 w e c A ys.length C ys := Own.pop1 h
theorem wp_append_room {P : Program} {o : Oper} {a : Act} {w : World} {K : Act → World → Prop} {Q : Exit → Act → World → Prop}
    (hg : o.guard = none) (s x : Operand) (t : TypeId) (hop : o.op = Op.call { callee := Callee.builtin Builtin.append, args := #[s, x], argTypes := #[t, t] })
    (e : TypeId) (i : TypeInfo) (size : Nat) (h1 : P.underlying t = some (.slice e)) (h2 : P.info? e = some i) (h4 : i.size = size)
    (b off n cap : Nat) (hs : a.eval s = .slice (some ⟨b, off, none⟩) n cap)
    (ad : Addr) (m c : Nat) (news : List Value) (hx : a.eval x = .slice (some ad) m c) (hn : news.length = m * size) (hc : ∀ j u, news[j]? = some u → w.cell? (ad.add j) = some u) (h1c : ∀ u ∈ news, u.oneCell' = true)
    (hroom : n + m ≤ cap) (hspare : ∀ j, j < news.length → (w.cell? ⟨b, off + n * size + j, none⟩).isSome = true ∧ w.frozen? ⟨b, off + n * size + j, none⟩ = false)
    (hK : K (a.put o.dst (.slice (some ⟨b, off, none⟩) (n + m) cap)) (w.setCells b (off + n * size) news)) : o.wp P a w K Q := by
  have := step_append_room (ops := #[]) (E := True) (Q := Q) hg s x t hop e i size h1 h2 h4 b off n cap hs ad m c news hx hn hc h1c hroom hspare hK
  rwa [if_pos (by simp [Region.wanted, hg])] at this
end Go.Tk
