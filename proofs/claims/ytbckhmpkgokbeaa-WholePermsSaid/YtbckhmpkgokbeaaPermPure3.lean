/- Permutations: inverses undo; paths lead. Plain laws, no program in sight. -/
import Derived.Test.YtbckhmpkgokbeaaPermPure2
namespace Go.Tk

theorem plc_mem {p : List Int} {x : Int} (h : x ∈ p) : ∃ i : Nat, plc p x = i ∧ p[i]? = some x := by
  have hl := List.idxOf_lt_length_iff.2 h
  refine ⟨p.idxOf x, by unfold plc; rw [if_pos hl], ?_⟩
  rw [List.getElem?_eq_getElem hl]
  simp
theorem lt_of_some {α : Type} {p : List α} {i : Nat} {x : α} (h : p[i]? = some x) : i < p.length := by
  rcases Nat.lt_or_ge i p.length with h' | h'
  · exact h'
  · rw [List.getElem?_eq_none h'] at h; cases h
theorem IsPerm.plc {p : List Int} (h : IsPerm p) {v : Nat} (hv : v < p.length) : ∃ i : Nat, Go.Tk.plc p v = i ∧ p[i]? = some (v : Int) ∧ i < p.length := by
  obtain ⟨i, h1, h2⟩ := plc_mem (h.mem hv)
  exact ⟨i, h1, h2, lt_of_some h2⟩
theorem invL_at (p : List Int) {j : Nat} (h : j < p.length) : (invL p)[j]? = some (plc p j) := by simp [invL, rng_get h]
theorem getD_some {p : List Int} {i : Nat} {x : Int} (h : p[i]? = some x) : p.getD i 0 = x := by simp [List.getD_eq_getElem?_getD, h]
theorem IsPerm.at {p : List Int} (h : IsPerm p) {i : Nat} (hi : i < p.length) : ∃ v : Nat, p[i]? = some (v : Int) ∧ v < p.length := by
  have hx := List.getElem?_eq_getElem hi
  have := h.1 _ (List.mem_of_getElem? hx)
  refine ⟨(p[i]).toNat, ?_, by omega⟩
  rw [hx]
  congr 1
  omega
theorem isPerm_of_get {p : List Int} (f : Nat → Nat) (hf : ∀ v, v < p.length → p[f v]? = some (v : Int)) : IsPerm p :=
  isPerm_of_all fun v hv => List.mem_of_getElem? (hf v hv)
theorem IsPerm.inv {p : List Int} (h : IsPerm p) : IsPerm (invL p) := by
  refine isPerm_of_get (fun v => (p.getD v 0).toNat) fun v hv => ?_
  rw [invL_len] at hv
  obtain ⟨u, h1, h2⟩ := h.at hv
  rw [getD_some h1, show ((u : Nat) : Int).toNat = u from rfl, invL_at p h2, plc_get h.2 h1]
theorem compL_at (p q : List Int) {j : Nat} {x : Int} (h : q[j]? = some x) : (compL p q)[j]? = some (p.getD x.toNat 0) := by simp [compL, h]
theorem compL_length (p q : List Int) : (compL p q).length = q.length := by simp [compL]
theorem eq_rng {l : List Int} {n : Nat} (hl : l.length = n) (h : ∀ j : Nat, j < n → l[j]? = some (j : Int)) : l = rng n := by
  apply List.ext_getElem?
  intro j
  rcases Nat.lt_or_ge j n with hj | hj
  · rw [h j hj, rng_get hj]
  · rw [List.getElem?_eq_none (by omega), List.getElem?_eq_none (by rw [rng_len]; exact hj)]
theorem comp_inv {p : List Int} (h : IsPerm p) : compL p (invL p) = rng p.length := by
  refine eq_rng (by rw [compL_length, invL_len]) fun j hj => ?_
  obtain ⟨i, h1, h2, _⟩ := h.plc hj
  rw [compL_at p _ (invL_at p hj), h1, show ((i : Nat) : Int).toNat = i from rfl, getD_some h2]
theorem inv_comp {p : List Int} (h : IsPerm p) : compL (invL p) p = rng p.length := by
  refine eq_rng (by rw [compL_length]) fun j hj => ?_
  obtain ⟨v, h1, h2⟩ := h.at hj
  rw [compL_at _ p h1, show ((v : Nat) : Int).toNat = v from rfl, getD_some (invL_at p h2), plc_get h.2 h1]
theorem IsPerm.comp {p q : List Int} (hp : IsPerm p) (hq : IsPerm q) (hl : p.length = q.length) : IsPerm (compL p q) := by
  refine isPerm_of_get (fun v => (Go.Tk.plc q (Go.Tk.plc p v)).toNat) fun v hv => ?_
  rw [compL_length, ← hl] at hv
  obtain ⟨i, h1, h2, h3⟩ := hp.plc hv
  obtain ⟨j, h4, h5, h6⟩ := hq.plc (v := i) (by omega)
  simp only [h1, h4]
  rw [show ((j : Nat) : Int).toNat = j from rfl, compL_at p q h5, show ((i : Nat) : Int).toNat = i from rfl, getD_some h2]
theorem inv_of_comp {p q : List Int} (hp : IsPerm p) (hq : IsPerm q) (hl : p.length = q.length) : invL (compL p q) = compL (invL q) (invL p) := by
  apply List.ext_getElem?
  intro v
  rcases Nat.lt_or_ge v p.length with hv | hv
  · obtain ⟨i, h1, h2, h3⟩ := hp.plc hv
    obtain ⟨j, h4, h5, h6⟩ := hq.plc (v := i) (by omega)
    rw [invL_at _ (by rw [compL_length]; omega), compL_at _ _ (invL_at p hv), h1, show ((i : Nat) : Int).toNat = i from rfl, getD_some (invL_at q (by omega)), h4]
    congr 1
    refine plc_get (hp.comp hq hl).2 ?_
    rw [compL_at p q h5, show ((i : Nat) : Int).toNat = i from rfl, getD_some h2]
  · rw [List.getElem?_eq_none (by rw [invL_len, compL_length]; omega), List.getElem?_eq_none (by rw [compL_length, invL_len]; exact hv)]

/-! exchanges -/
theorem swp_at {p : List Int} {l : Nat} (h : l + 1 < p.length) (j : Nat) : (swp p l)[j]? = if j = l then p[l + 1]? else if j = l + 1 then p[l]? else p[j]? := by
  unfold swp
  rw [List.getElem?_set, List.length_set]
  have h1 : p.getD l 0 = p[l] := by simp [List.getD_eq_getElem?_getD, show l < p.length by omega]
  have h2 : p.getD (l + 1) 0 = p[l + 1] := by simp [List.getD_eq_getElem?_getD, h]
  by_cases e1 : l + 1 = j
  · subst e1
    rw [if_pos rfl, if_pos h, if_neg (by omega), if_pos rfl, h1, List.getElem?_eq_getElem (by omega)]
  · rw [if_neg e1, List.getElem?_set]
    by_cases e2 : l = j
    · subst e2
      rw [if_pos rfl, if_pos (by omega), if_pos rfl, h2, List.getElem?_eq_getElem h]
    · rw [if_neg e2, if_neg (fun h => e2 h.symm), if_neg (fun h => e1 h.symm)]
theorem IsPerm.swp {p : List Int} (hp : IsPerm p) {l : Nat} (h : l + 1 < p.length) : IsPerm (Go.Tk.swp p l) := by
  refine isPerm_of_all fun v hv => ?_
  rw [swp_len] at hv
  obtain ⟨i, _, h2, h3⟩ := hp.plc hv
  by_cases e1 : i = l
  · subst e1
    exact List.mem_of_getElem? (i := i + 1) (by rw [swp_at h, if_neg (by omega), if_pos rfl]; exact h2)
  · by_cases e2 : i = l + 1
    · subst e2
      exact List.mem_of_getElem? (i := l) (by rw [swp_at h, if_pos rfl]; exact h2)
    · exact List.mem_of_getElem? (i := i) (by rw [swp_at h, if_neg e1, if_neg e2]; exact h2)
/-- the exchanges, one behind the other -/
def swps (p : List Int) : List Int → List Int
  | [] => p
  | l :: ls => swps (swp p l.toNat) ls
theorem swps_snoc (l : Int) : ∀ (ls p : List Int), swps p (ls ++ [l]) = swp (swps p ls) l.toNat
  | [], p => rfl
  | m :: ls, p => by simp only [List.cons_append, swps]; exact swps_snoc l ls _
theorem bub_swps (i : Nat) (p : List Int) : ∀ (d : Nat) (a b : List Int), swps p b = a → swps p (bub a b i d).2 = (bub a b i d).1
  | 0, a, b, h => h
  | d + 1, a, b, h => by
    rw [bub]
    refine bub_swps i p d _ _ ?_
    rw [swps_snoc, h]
    rfl
theorem pst_swps (p q : List Int) : ∀ k, swps p (pst p q k).2 = (pst p q k).1
  | 0 => rfl
  | k + 1 => by rw [pst]; exact bub_swps k p _ _ _ (pst_swps p q k)
/-- what bub leaves -/
theorem bub_at (i : Nat) : ∀ (d : Nat) (a b : List Int), IsPerm a → i + d < a.length → IsPerm (bub a b i d).1 ∧ (∀ j, j < i → (bub a b i d).1[j]? = a[j]?) ∧ (bub a b i d).1[i]? = a[i + d]?
  | 0, a, b, hp, _ => ⟨hp, fun _ _ => rfl, rfl⟩
  | d + 1, a, b, hp, h => by
    rw [bub]
    obtain ⟨h1, h2, h3⟩ := bub_at i d (swp a (i + d)) (b ++ [((i + d : Nat) : Int)]) (hp.swp (by omega)) (by rw [swp_len]; omega)
    refine ⟨h1, fun j hj => ?_, ?_⟩
    · rw [h2 j hj, swp_at (by omega), if_neg (by omega), if_neg (by omega)]
    · rw [h3, swp_at (by omega), if_pos rfl]; rfl
theorem plc_late {a q : List Int} {k : Nat} {x : Int} (hq : q.Nodup) (hx : q[k]? = some x) (hm : x ∈ a) (hj : ∀ j, j < k → a[j]? = q[j]?) : ∃ j : Nat, plc a x = j ∧ k ≤ j ∧ a[j]? = some x := by
  obtain ⟨j, h1, h2⟩ := plc_mem hm
  refine ⟨j, h1, ?_, h2⟩
  rcases Nat.lt_or_ge j k with h | h
  · exfalso
    rw [hj j h] at h2
    have e1 := plc_get hq h2
    have e2 := plc_get hq hx
    omega
  · exact h
theorem pst_at {p q : List Int} (hp : IsPerm p) (hq : IsPerm q) (hl : p.length = q.length) : ∀ k, k ≤ q.length → IsPerm (pst p q k).1 ∧ ∀ j, j < k → (pst p q k).1[j]? = q[j]?
  | 0, _ => ⟨hp, fun j hj => by omega⟩
  | k + 1, hk => by
    obtain ⟨h1, h2⟩ := pst_at hp hq hl k (by omega)
    have hx : q[k]? = some q[k] := List.getElem?_eq_getElem (by omega)
    have hlen := pst_len p q k
    have hm : q[k] ∈ (pst p q k).1 := by
      obtain ⟨v, e1, e2⟩ := hq.at (i := k) (by omega)
      rw [hx] at e1
      injection e1 with e1
      rw [e1]
      exact h1.mem (by omega)
    obtain ⟨j, e1, e2, e3⟩ := plc_late hq.2 hx hm h2
    have hjl := lt_of_some e3
    rw [pst, getD_some hx, e1]
    have ht : ((j : Int) - (k : Int)).toNat = j - k := by omega
    rw [ht]
    obtain ⟨g1, g2, g3⟩ := bub_at k (j - k) (pst p q k).1 (pst p q k).2 h1 (by omega)
    refine ⟨g1, fun i hi => ?_⟩
    rcases Nat.lt_or_ge i k with h | h
    · rw [g2 i h]; exact h2 i h
    · obtain rfl : i = k := by omega
      rw [g3, show i + (j - i) = j by omega, e3, hx]
theorem path_leads {p q : List Int} (hp : IsPerm p) (hq : IsPerm q) (hl : p.length = q.length) : swps p (pathL p q) = q := by
  unfold pathL
  rw [pst_swps]
  obtain ⟨h1, h2⟩ := pst_at hp hq hl q.length (Nat.le_refl _)
  apply List.ext_getElem?
  intro j
  rcases Nat.lt_or_ge j q.length with h | h
  · exact h2 j h
  · rw [List.getElem?_eq_none (by rw [pst_len]; omega), List.getElem?_eq_none h]
/-- the exchanges of a path lie within, the lists between are permutations -/
theorem bub_in {p : List Int} (i : Nat) : ∀ (d : Nat) (a b : List Int), IsPerm a → i + d < a.length → (∀ l, l ∈ b → 0 ≤ l ∧ l.toNat + 1 < a.length) → ∀ l, l ∈ (bub a b i d).2 → 0 ≤ l ∧ l.toNat + 1 < a.length
  | 0, _, _, _, _, h => h
  | d + 1, a, b, hp, hd, h => by
    rw [bub]
    have := bub_in (p := p) i d (swp a (i + d)) (b ++ [((i + d : Nat) : Int)]) (hp.swp (by omega)) (by rw [swp_len]; omega) (fun l hl => by
      rw [swp_len]
      rcases List.mem_append.1 hl with hl | hl
      · exact h l hl
      · simp at hl; subst hl; omega)
    rwa [swp_len] at this
theorem swps_perm : ∀ (ls p : List Int), IsPerm p → (∀ l, l ∈ ls → 0 ≤ l ∧ l.toNat + 1 < p.length) → IsPerm (swps p ls) ∧ (swps p ls).length = p.length
  | [], p, hp, _ => ⟨hp, rfl⟩
  | l :: ls, p, hp, h => by
    have hl := h l (by simp)
    have := swps_perm ls (swp p l.toNat) (hp.swp hl.2) (fun m hm => by rw [swp_len]; exact h m (by simp [hm]))
    rw [swp_len] at this
    exact this
end Go.Tk
