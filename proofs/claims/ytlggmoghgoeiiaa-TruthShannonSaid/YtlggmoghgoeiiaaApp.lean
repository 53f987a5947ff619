/- Append of a whole slice of records to a row: general. -/
import Derived.Test.YtlggmoghgoeiiaaMix
namespace Go.Tk
open Go.RowKit

theorem run_append_zero {P : Program} {w : World} {t ty e : TypeId} {m : Nat} {α : Type} {f : α → List Value} {A : Option Addr} {N C : Nat} {xs : List α} (ht : P.underlying t = some (.slice e))
    {z : Value} {bytes : Nat} (hinfo : (P.info? e).map (fun i => (i.zero, i.size, i.bytes)) = some (some z, m, bytes)) (h : Own w e m f A N C xs) (ao : Option Addr) (c : Nat) :
    (Builtin.append_ #[t, t] ty #[.slice A N C, .slice ao 0 c]).run P w = .ok (.slice A N C) w := by
  obtain ⟨i, hi, hz, hsz, hby⟩ := info_parts hinfo
  obtain rfl := h.len
  rcases h.own.2 with ⟨h1, h2⟩ | ⟨g, cap, cur, h1, _, _, hnc, _⟩
  · simp only [Value.slice.injEq] at h1
    obtain ⟨rfl, h0, rfl⟩ := h1
    rw [h0]
    cases ao <;> simp [Builtin.append_, run_underlying ht, sizeOf, typeInfo, hi, Builtin.lenOf, Builtin.firstCells, loadCells, loadCellsFrom]
  · cases h1
    cases ao <;> simp [Builtin.append_, run_underlying ht, sizeOf, typeInfo, hi, Builtin.lenOf, Builtin.firstCells, hnc, storeCells, loadCells, loadCellsFrom]
theorem Own.append_many {P : Program} {o : Oper} {a : Act} {w : World} {K : Act → World → Prop} {Q : Exit → Act → World → Prop} {e : TypeId} {m : Nat} {α : Type} {f : α → List Value} {A : Option Addr} {N C : Nat} {xs : List α}
    (s x : Operand) (t : TypeId) (ho : o.op = .call { callee := .builtin .append, args := #[s, x], argTypes := #[t, t] }) (ht : P.underlying t = some (.slice e))
    {z : Value} {bytes : Nat} (hinfo : (P.info? e).map (fun i => (i.zero, i.size, i.bytes)) = some (some z, m, bytes)) (hzs : z.cells.size = m) (hm : 0 < m)
    (hs : a.eval s = .slice A N C) (h : Own w e m f A N C xs) (hf : ∀ x, (f x).length = m) (ys : List α) (ao : Option Addr) (cx : Nat) (hx : a.eval x = .slice ao ys.length cx)
    (hne : ys ≠ [] → ∃ ad, ao = some ad ∧ ∀ j u, (ys.flatMap f)[j]? = some u → w.cell? (ad.add j) = some u)
    (h1 : ∀ y ∈ ys, ∀ u ∈ f y, u.oneCell' = true) (h63 : xs.length + ys.length ≤ maxLen) (hb : (xs.length + ys.length) * bytes ≤ 140737488355328)
    (hK : ∀ A' C' w', Own w' e m f A' (xs ++ ys).length C' (xs ++ ys) → w.grownBy w' (Value.slice A N C).ownBlock → (∀ b, rowOf A' b → rowOf A b ∨ b = w.heap.size) → K (a.put o.dst (.slice A' (xs ++ ys).length C')) w') :
    o.wp P a w K Q := by
  obtain ⟨i, hi, hz, hsz, hby⟩ := info_parts hinfo
  obtain rfl := h.len
  cases ys with
  | nil =>
    have hr := run_append_zero (P := P) (ty := o.type) ht hinfo h ao cx
    have hx' : a.eval x = .slice ao 0 cx := hx
    unfold Oper.wp execOp
    simp only [ho, resolve, invoke, builtin, Sem.run_bind, Sem.run_pure, Result.andThen_ok, List.map_toArray, List.map_cons, List.map_nil, hs, hx', hr]
    have hk : K (a.put o.dst (.slice A xs.length C)) w := by simpa using hK A C w (by simpa using h) (World.grownBy.refl _ _) (fun b hb => .inl hb)
    exact hk
  | cons y ys =>
    obtain ⟨ad, rfl, hc⟩ := hne (by simp)
    refine wp_append_lies w s x t ho 0 e i z m bytes ht hi hz hsz hby hzs hm _ _ _ hs h.own ad (y :: ys).length cx ((y :: ys).flatMap f) hx (flat_length f m hf _) hc (fun u hu => ?_) (by simp) h63 hb (Nat.zero_le _) w.heap.size rfl ?_
    · obtain ⟨y', hy', hu'⟩ := List.mem_flatMap.1 hu
      exact h1 y' hy' u hu'
    · intro g cap w' hown hg hat _
      rw [← List.length_append] at hown ⊢
      refine hK _ _ w' ⟨rfl, ?_⟩ hg ?_
      · simpa using hown
      · rintro b ⟨a', ha, rfl⟩
        injection ha with ha
        subst ha
        rcases hat with h | h
        · exact .inl (ownBlock_row.1 h)
        · exact .inr h
end Go.Tk
