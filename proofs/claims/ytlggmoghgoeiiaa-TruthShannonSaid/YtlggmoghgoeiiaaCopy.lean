/- copy into a row of the call's own. General. -/
import Derived.Test.YtlggmoghgoeiiaaCut
import Derived.Lib.SlBuf
namespace Go.Tk
open Go.RowKit

section
variable {w w' : World} {e : TypeId} {α : Type} {c : α → Value} {sb N C : Nat}
theorem Own.setRun : ∀ (ys zs pre : List α) (w : World), ys.length ≤ zs.length → Row1 w e c (some ⟨sb, 0, none⟩) N C (pre ++ zs) →
    Row1 (w.setCells sb pre.length (ys.map c)) e c (some ⟨sb, 0, none⟩) N C (pre ++ ys ++ zs.drop ys.length)
  | [], zs, pre, w, _, h => by simpa [World.setCells] using h
  | y :: ys, [], pre, w, hl, _ => by simp at hl
  | y :: ys, z :: zs, pre, w, hl, h => by
    have h1 := Own.put1 h (i := pre.length) (by simp) y
    rw [show (pre ++ z :: zs).set pre.length y = (pre ++ [y]) ++ zs by simp] at h1
    have h2 := Own.setRun ys zs (pre ++ [y]) _ (by simpa using hl) h1
    rw [List.length_append, List.length_singleton] at h2
    simpa [World.setCells] using h2
theorem Same.setRun {b : Nat} : ∀ (vs : List Value) (o : Nat) {w w' : World}, Same w w' → w.heap.size ≤ b → Same w (w'.setCells b o vs)
  | [], _, _, _, h, _ => h
  | v :: vs, o, _, _, h, hb => Same.setRun vs (o + 1) (h.setNew o v hb) hb
end
/-- copy(d, s) of the whole of a list of ints into a row as long -/
theorem Own.copied {P : Program} {w : World} {e : TypeId} {sb N C : Nat} {zs xs : List Int} (dT sT ty : TypeId) (hu : P.underlying dT = some (.slice e)) (hs : (P.info? e).map (·.size) = some 1)
    (h : OwnI w e (some ⟨sb, 0, none⟩) N C zs) {A : Option Addr} {D : Nat} (hx : IL w A xs.length xs) (hl : xs.length ≤ N) :
    ∃ w', (Builtin.copy_ #[dT, sT] ty #[.slice (some ⟨sb, 0, none⟩) N C, .slice A xs.length D]).run P w = .ok (.int .i64 (xs.length : Int)) w' ∧ OwnI w' e (some ⟨sb, 0, none⟩) N C (xs ++ zs.drop xs.length) ∧ w' = w.setCells sb 0 (xs.map (Value.int .i64)) := by
  have hz := h.len
  have hset := Own.setRun (c := Value.int .i64) xs zs [] w (by omega) h
  simp only [List.length_nil, List.nil_append] at hset
  by_cases he : xs = []
  · subst he
    refine ⟨w, run_copy_none (P := P) w dT sT ty e _ A N C 0 D hu hs (by simp), by simpa using h, rfl⟩
  · obtain ⟨x, hx0⟩ : ∃ x, xs[0]? = some x := ⟨_, List.getElem?_eq_getElem (List.length_pos_iff.2 he)⟩
    obtain ⟨b, off, rfl, _, _⟩ := hx.at1 hx0
    have hr := run_copy_cells (P := P) w dT sT ty e sb 0 N C ⟨b, off, none⟩ xs.length D (xs.map (Value.int .i64)) hu hs (by rw [List.length_map]; exact (Nat.min_eq_left hl).symm)
      (fun j u hj => by
        rw [List.getElem?_map] at hj
        obtain ⟨x, hx', rfl⟩ := Option.map_eq_some_iff.1 hj
        obtain ⟨b2, off2, hA, _, hc⟩ := hx.at1 hx'
        injection hA with hA
        injection hA with h1 h2
        subst h1 h2
        by_cases hj0 : j = 0
        · subst hj0; simpa [Addr.add] using hc
        · simpa [Addr.add, hj0] using hc)
      (fun j hj => by
        rw [List.length_map] at hj
        obtain ⟨z, hzj⟩ : ∃ z, zs[j]? = some z := ⟨_, List.getElem?_eq_getElem (by omega)⟩
        obtain ⟨b2, hA, _, hc⟩ := Own.at1 (c := Value.int .i64) h hzj
        injection hA with hA
        injection hA with hA
        subst hA
        rw [Nat.zero_add, hc]
        rfl)
      (fun j hj => Own.free h _)
      (fun u hu' => by obtain ⟨x, _, rfl⟩ := List.mem_map.1 hu'; rfl)
    rw [List.length_map] at hr
    exact ⟨_, hr, hset, rfl⟩
end Go.Tk
