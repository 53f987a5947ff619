/- Permutations: a path has as many exchanges as pairs stand the wrong way round. Plain. -/
import Derived.Test.YtbckhmpkgokbeaaPermPure3
namespace Go.Tk

theorem invC_prefix (A : List Int) {M M' : List Int} (h : M.Perm M') : invC (A ++ M) + invC M' = invC (A ++ M') + invC M := by
  induction A with
  | nil => simp; omega
  | cons x A ih =>
    simp only [List.cons_append, invC]
    have := (h.append_left A).countP_eq (fun y => decide (x > y))
    omega
theorem invC_swap {A B : List Int} {a b : Int} (h : b < a) : invC (A ++ b :: a :: B) + 1 = invC (A ++ a :: b :: B) := by
  have h1 := invC_prefix A (List.Perm.swap b a B)
  have h2 : invC (a :: b :: B) = invC (b :: a :: B) + 1 := by
    simp only [invC, List.countP_cons]
    have e1 : decide (a > b) = true := by simpa using h
    have e2 : decide (b > a) = false := by simp; omega
    rw [e1, e2]
    simp
    omega
  omega
theorem split_two {p : List Int} {l : Nat} {a b : Int} (ha : p[l]? = some a) (hb : p[l + 1]? = some b) : p = p.take l ++ a :: b :: p.drop (l + 2) := by
  have hl := lt_of_some ha
  have hl2 := lt_of_some hb
  rw [List.getElem?_eq_getElem hl] at ha
  rw [List.getElem?_eq_getElem hl2] at hb
  injection ha with ha
  injection hb with hb
  have h1 : p.drop l = a :: p.drop (l + 1) := by rw [List.drop_eq_getElem_cons hl, ha]
  have h2 : p.drop (l + 1) = b :: p.drop (l + 2) := by rw [List.drop_eq_getElem_cons hl2, hb]
  rw [← h2, ← h1, List.take_append_drop]
theorem swp_split {p : List Int} {l : Nat} {a b : Int} (ha : p[l]? = some a) (hb : p[l + 1]? = some b) : swp p l = p.take l ++ b :: a :: p.drop (l + 2) := by
  have hl2 := lt_of_some hb
  apply List.ext_getElem?
  intro j
  rw [swp_at hl2, List.getElem?_append, List.length_take, Nat.min_eq_left (by omega)]
  by_cases h1 : j < l
  · rw [if_pos h1, if_neg (by omega), if_neg (by omega), List.getElem?_take, if_pos h1]
  · rw [if_neg h1]
    by_cases h2 : j = l
    · subst h2
      rw [if_pos rfl, hb]
      simp
    · rw [if_neg h2]
      by_cases h3 : j = l + 1
      · subst h3
        rw [if_pos rfl, ha, show l + 1 - l = 1 by omega]
        simp
      · rw [if_neg h3, show j - l = (j - (l + 2)) + 2 by omega, List.getElem?_cons_succ, List.getElem?_cons_succ, List.getElem?_drop]
        congr 1
        omega
theorem invC_swp {p : List Int} {l : Nat} {a b : Int} (ha : p[l]? = some a) (hb : p[l + 1]? = some b) (h : b < a) : invC (swp p l) + 1 = invC p := by
  rw [swp_split ha hb]
  conv => rhs; rw [split_two ha hb]
  exact invC_swap h
/-- the places in q of p's things -/
def plcs (q p : List Int) : List Int := p.map (plc q)
theorem plcs_at (q p : List Int) (j : Nat) : (plcs q p)[j]? = (p[j]?).map (plc q) := by simp [plcs]
theorem plcs_len (q p : List Int) : (plcs q p).length = p.length := by simp [plcs]
theorem plcs_swp (q : List Int) {p : List Int} {l : Nat} (h : l + 1 < p.length) : plcs q (swp p l) = swp (plcs q p) l := by
  apply List.ext_getElem?
  intro j
  rw [plcs_at, swp_at h, swp_at (by rw [plcs_len]; exact h)]
  split
  · rw [plcs_at]
  · split <;> rw [plcs_at]
theorem comp_plcs {p q : List Int} (hp : IsPerm p) (hl : p.length = q.length) : compL (invL q) p = plcs q p := by
  apply List.ext_getElem?
  intro j
  rw [plcs_at]
  rcases Nat.lt_or_ge j p.length with h | h
  · obtain ⟨v, h1, h2⟩ := hp.at h
    rw [compL_at _ p h1, h1, show ((v : Nat) : Int).toNat = v from rfl, getD_some (invL_at q (by omega))]
    rfl
  · rw [List.getElem?_eq_none (by rw [compL_length]; exact h), List.getElem?_eq_none h]
    rfl
theorem bub_count {q : List Int} (hq : IsPerm q) (i : Nat) : ∀ (d : Nat) (a b : List Int), IsPerm a → a.length = q.length → i + d < a.length → (∀ j, j < i → a[j]? = q[j]?) → a[i + d]? = q[i]? →
    invC (plcs q (bub a b i d).1) + d = invC (plcs q a)
  | 0, _, _, _, _, _, _, _ => rfl
  | d + 1, a, b, ha, hl, hd, hj, hx => by
    rw [bub]
    have hlt : i + d + 1 < a.length := by omega
    have ih := bub_count hq i d (swp a (i + d)) (b ++ [((i + d : Nat) : Int)]) (ha.swp hlt) (by rw [swp_len]; exact hl) (by rw [swp_len]; omega)
      (fun j hj' => by rw [swp_at hlt, if_neg (by omega), if_neg (by omega)]; exact hj j hj') (by rw [swp_at hlt, if_pos rfl]; exact hx)
    have hu : a[i + d]? = some a[i + d] := List.getElem?_eq_getElem (by omega)
    have hv : a[i + d + 1]? = some a[i + d + 1] := List.getElem?_eq_getElem hlt
    -- the place in q of what is brought down is i; of what it passes, more
    have hqi : q[i]? = some a[i + d + 1] := by rw [← hx]; exact hv
    have e1 : plc q a[i + d + 1] = i := plc_get hq.2 hqi
    have hm : a[i + d] ∈ q := by
      obtain ⟨v, g1, g2⟩ := ha.at (i := i + d) (by omega)
      rw [hu] at g1
      injection g1 with g1
      rw [g1]
      exact hq.mem (by omega)
    obtain ⟨k, e2, e3⟩ := plc_mem hm
    have hk : i < k := by
      rcases Nat.lt_trichotomy k i with h | h | h
      · exfalso
        rw [← hj k h] at e3
        have f1 := plc_get ha.2 e3
        have f2 := plc_get ha.2 hu
        omega
      · exfalso
        subst h
        rw [hqi] at e3
        injection e3 with e3
        rw [e3] at hv
        have f1 := plc_get ha.2 hv
        have f2 := plc_get ha.2 hu
        omega
      · exact h
    have hs := invC_swp (p := plcs q a) (l := i + d) (a := plc q a[i + d]) (b := plc q a[i + d + 1]) (by rw [plcs_at, hu]; rfl) (by rw [plcs_at, hv]; rfl) (by omega)
    rw [plcs_swp q hlt] at ih
    omega
theorem pst_count {p q : List Int} (hp : IsPerm p) (hq : IsPerm q) (hl : p.length = q.length) : ∀ k, k ≤ q.length → invC (plcs q (pst p q k).1) + (pst p q k).2.length = invC (plcs q p)
  | 0, _ => rfl
  | k + 1, hk => by
    have ih := pst_count hp hq hl k (by omega)
    obtain ⟨h1, h2⟩ := pst_at hp hq hl k (by omega)
    have hx : q[k]? = some q[k] := List.getElem?_eq_getElem (by omega)
    have hlen := pst_len p q k
    have hm : q[k] ∈ (pst p q k).1 := by
      obtain ⟨v, e1, e2⟩ := hq.at (i := k) (by omega)
      rw [hx] at e1
      injection e1 with e1
      rw [e1]
      exact h1.mem (by omega)
    obtain ⟨j, e1, e2, e3⟩ := plc_late hq.2 hx hm h2
    have hjl := lt_of_some e3
    rw [pst, getD_some hx, e1, show ((j : Int) - (k : Int)).toNat = j - k by omega, bub_path]
    have := bub_count hq k (j - k) (pst p q k).1 (pst p q k).2 h1 (by omega) (by omega) h2 (by rw [show k + (j - k) = j by omega, e3, hx])
    omega
theorem invC_rng (n : Nat) : invC (rng n) = 0 := by
  have key : ∀ l : List Int, l.Pairwise (· < ·) → invC l = 0 := by
    intro l
    induction l with
    | nil => intro _; rfl
    | cons x l ih =>
      intro h
      rw [List.pairwise_cons] at h
      rw [invC, ih h.2, List.countP_eq_zero.2 (fun y hy => by have := h.1 y hy; simp; omega)]
  refine key _ ?_
  unfold rng
  rw [List.pairwise_map]
  exact List.pairwise_lt_range.imp (fun h => by omega)
theorem path_count {p q : List Int} (hp : IsPerm p) (hq : IsPerm q) (hl : p.length = q.length) : invC (compL (invL q) p) = (pathL p q).length := by
  rw [comp_plcs hp hl]
  have h := pst_count hp hq hl q.length (Nat.le_refl _)
  have he : (pst p q q.length).1 = q := by
    rw [← pst_swps]
    exact path_leads hp hq hl
  rw [he] at h
  have h0 : plcs q q = rng q.length := by
    refine eq_rng (plcs_len q q) fun j hj => ?_
    rw [plcs_at, List.getElem?_eq_getElem hj]
    simp only [Option.map_some]
    rw [plc_get hq.2 (List.getElem?_eq_getElem hj)]
  rw [h0, invC_rng] at h
  unfold pathL
  omega
/-- every exchange of the path lies within -/
theorem path_in {p q : List Int} (hp : IsPerm p) (hq : IsPerm q) (hl : p.length = q.length) : ∀ k, k ≤ q.length → ∀ l, l ∈ (pst p q k).2 → 0 ≤ l ∧ l.toNat + 1 < p.length
  | 0, _ => by simp [pst]
  | k + 1, hk => by
    have ih := path_in hp hq hl k (by omega)
    obtain ⟨h1, h2⟩ := pst_at hp hq hl k (by omega)
    have hlen := pst_len p q k
    have hpl : plc (pst p q k).1 (q.getD k 0) < p.length := by
      unfold plc
      split <;> omega
    rw [pst]
    by_cases hd : (plc (pst p q k).1 (q.getD k 0) - (k : Int)).toNat = 0
    · rw [hd]; exact ih
    · have := bub_in (p := p) k (plc (pst p q k).1 (q.getD k 0) - (k : Int)).toNat (pst p q k).1 (pst p q k).2 h1 (by omega) (fun l hl' => by rw [hlen]; exact ih l hl')
      rwa [hlen] at this
end Go.Tk
