/- Permutations: inverse, inversions, exchanges, paths, ranks as functions on lists. Plain laws, no program in sight. -/
import Derived.Test.YtbckhmpkgokbeaaPermPure
namespace Go.Tk

theorem plc_get {p : List Int} (hn : p.Nodup) {i : Nat} {x : Int} (h : p[i]? = some x) : plc p x = i := by
  have hl : i < p.length := by
    rcases Nat.lt_or_ge i p.length with h' | h'
    · exact h'
    · rw [List.getElem?_eq_none h'] at h; cases h
  rw [List.getElem?_eq_getElem hl] at h
  injection h with h
  subst h
  have := hn.idxOf_getElem i hl
  unfold plc
  rw [this, if_pos hl]

theorem plc_first {p : List Int} {k : Nat} {x : Int} (h : p[k]? = some x) (hn : x ∉ p.take k) : plc p x = k := by
  have hl : k < p.length := by
    rcases Nat.lt_or_ge k p.length with h' | h'
    · exact h'
    · rw [List.getElem?_eq_none h'] at h; cases h
  have hi : p.idxOf x = k := by
    have h1 : p = p.take k ++ p.drop k := (List.take_append_drop k p).symm
    have h2 : p.drop k = x :: p.drop (k + 1) := by
      rw [List.getElem?_eq_getElem hl] at h
      injection h with h
      rw [List.drop_eq_getElem_cons hl, h]
    rw [h1, h2, List.idxOf_append, if_neg hn]
    simp
    omega
  unfold plc
  rw [hi, if_pos hl]
theorem plc_none {p : List Int} {x : Int} (h : x ∉ p) : plc p x = -1 := by
  unfold plc
  rw [if_neg]
  exact fun h' => h (List.idxOf_lt_length_iff.1 h')
/-- the inverse -/
def invL (p : List Int) : List Int := (rng p.length).map (plc p)
theorem invL_len (p : List Int) : (invL p).length = p.length := by simp [invL, rng_len]
/-- p behind q -/
def compL (p q : List Int) : List Int := q.map (fun i => p.getD i.toNat 0)

/-- pairs the wrong way round -/
def invC : List Int → Nat
  | [] => 0
  | x :: xs => xs.countP (fun y => decide (x > y)) + invC xs
theorem invC_snoc (p : List Int) (y : Int) : invC (p ++ [y]) = invC p + p.countP (fun x => decide (x > y)) := by
  induction p with
  | nil => simp [invC]
  | cons x p ih =>
    simp only [List.cons_append, invC, ih, List.countP_append, List.countP_cons, List.countP_nil]
    omega

/-- the places l and l+1 exchanged -/
def swp (p : List Int) (l : Nat) : List Int := (p.set l (p.getD (l + 1) 0)).set (l + 1) (p.getD l 0)
theorem swp_len (p : List Int) (l : Nat) : (swp p l).length = p.length := by simp [swp]

/-- what stands at i + d is brought down to i -/
def bub (at' path : List Int) (i : Nat) : Nat → List Int × List Int
  | 0 => (at', path)
  | d + 1 => bub (swp at' (i + d)) (path ++ [((i + d : Nat) : Int)]) i d
/-- the way to q, up to its place k -/
def pst (p q : List Int) : Nat → List Int × List Int
  | 0 => (p, [])
  | k + 1 => bub (pst p q k).1 (pst p q k).2 k (plc (pst p q k).1 (q.getD k 0) - k).toNat
def pathL (p q : List Int) : List Int := (pst p q q.length).2
theorem bub_len (i : Nat) : ∀ (d : Nat) (a b : List Int), (bub a b i d).1.length = a.length
  | 0, _, _ => rfl
  | d + 1, a, b => by rw [bub, bub_len i d, swp_len]
theorem pst_len (p q : List Int) : ∀ k, (pst p q k).1.length = p.length
  | 0 => rfl
  | k + 1 => by rw [pst, bub_len, pst_len p q k]
theorem bub_path (i : Nat) : ∀ (d : Nat) (a b : List Int), (bub a b i d).2.length = b.length + d
  | 0, _, _ => rfl
  | d + 1, a, b => by rw [bub, bub_path i d]; simp; omega

/-- both lists' error -/
def both (p q : List Int) : Int := if chk p = 4 ∨ chk q = 4 ∨ p.length ≠ q.length then 4 else max (chk p) (chk q)
theorem both_ok {p q : List Int} (h : both p q = 0) : IsPerm p ∧ IsPerm q ∧ p.length = q.length ∧ p.length ≤ 64 := by
  unfold both at h
  split at h
  · cases h
  · rename_i h1
    have h2 : chk p ≠ 4 ∧ chk q ≠ 4 ∧ p.length = q.length := by
      refine ⟨fun h => h1 (.inl h), fun h => h1 (.inr (.inl h)), ?_⟩
      rcases Nat.decEq p.length q.length with h | h
      · exact absurd (.inr (.inr h)) h1
      · exact h
    have hp := chk_cases p
    have hq := chk_cases q
    have h3 : chk p = 0 := by omega
    have h4 : chk q = 0 := by omega
    have := chk_ok.1 h3
    have := chk_ok.1 h4
    exact ⟨by simp_all, by simp_all, h2.2.2, by simp_all⟩
end Go.Tk
