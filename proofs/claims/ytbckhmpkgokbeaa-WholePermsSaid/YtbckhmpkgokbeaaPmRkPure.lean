/- Ranks of permutations: there and back, and in order. Plain. -/
import Derived.Test.YtbckhmpkgokbeaaPmUnr
namespace Go.Proofs.Ytbckhmpkgokbeaa
open Go.RowKit Go.Tk

/-- the rank by recursion on the list -/
def rk : List Int → Nat
  | [] => 0
  | x :: xs => xs.countP (fun y => decide (y < x)) * fact xs.length + rk xs
theorem lessC_cons (x : Int) (xs : List Int) (k : Nat) : lessC (x :: xs) (k + 1) = lessC xs k := rfl
theorem rdS_cons (x : Int) (xs : List Int) : ∀ k, k ≤ xs.length → rdS (x :: xs) (k + 1) = xs.countP (fun y => decide (y < x)) * fact xs.length + rdS xs k
  | 0, _ => by simp [rdS, lessC]
  | k + 1, h => by
    rw [rdS, rdS_cons x xs k (by omega), lessC_cons, rdS, Nat.add_assoc]
    congr 3
    simp only [List.length_cons]
    congr 1
    omega
theorem rdS_rk : ∀ xs : List Int, rdS xs xs.length = rk xs
  | [] => rfl
  | x :: xs => by rw [List.length_cons, rdS_cons x xs _ (Nat.le_refl _), rdS_rk xs, rk]
theorem rkS_rk (xs : List Int) : rkS xs xs.length = rk xs := by rw [← rdS_full, rdS_rk]
theorem rk_lt : ∀ xs : List Int, rk xs < fact xs.length
  | [] => by decide
  | x :: xs => by
    have ih := rk_lt xs
    have h1 := List.countP_le_length (p := fun y => decide (y < x)) (l := xs)
    have h2 := Nat.mul_le_mul_right (fact xs.length) h1
    rw [rk, List.length_cons, fact, Nat.add_mul, Nat.one_mul]
    omega
theorem rk_order {x y : Int} {p q : List Int} (hp : (x :: p).Perm (y :: q)) (h : x < y) : rk (x :: p) < rk (y :: q) := by
  have hl : p.length = q.length := by simpa using hp.length_eq
  have h1 : p.countP (fun z => decide (z < x)) + 1 ≤ q.countP (fun z => decide (z < y)) := by
    have e2 : q.countP (fun z => decide (z < y)) = (y :: q).countP (fun z => decide (z < y)) := by simp
    rw [e2, ← hp.countP_eq]
    rw [List.countP_cons_of_pos (by simpa using h)]
    have := List.countP_mono_left (l := p) (p := fun z => decide (z < x)) (q := fun z => decide (z < y)) (fun a _ ha => by simp at ha ⊢; omega)
    omega
  have h2 := rk_lt p
  have h3 := Nat.mul_le_mul_right (fact q.length) h1
  rw [rk, rk, hl]
  rw [hl] at h2
  rw [Nat.add_mul, Nat.one_mul] at h3
  omega
theorem rk_prefix : ∀ (c : List Int) {p q : List Int} (_ : p.Perm q), rk (c ++ p) < rk (c ++ q) ↔ rk p < rk q
  | [], _, _, _ => Iff.rfl
  | a :: c, p, q, h => by
    have ih := rk_prefix c h
    simp only [List.cons_append, rk, List.countP_append, h.countP_eq, List.length_append, h.length_eq]
    omega
/-- the first difference decides -/
theorem rk_first {p q : List Int} {k : Nat} {x y : Int} (hp : p.Perm q) (hk : p.take k = q.take k) (hx : p[k]? = some x) (hy : q[k]? = some y) (h : x < y) : rk p < rk q := by
  have hlp := lt_of_get hx
  have hlq := lt_of_get hy
  rw [List.getElem?_eq_getElem hlp] at hx
  rw [List.getElem?_eq_getElem hlq] at hy
  injection hx with hx
  injection hy with hy
  have e1 : p = p.take k ++ x :: p.drop (k + 1) := by rw [← hx, ← List.drop_eq_getElem_cons hlp, List.take_append_drop]
  have e2 : q = p.take k ++ y :: q.drop (k + 1) := by rw [hk, ← hy, ← List.drop_eq_getElem_cons hlq, List.take_append_drop]
  have hpp : (x :: p.drop (k + 1)).Perm (y :: q.drop (k + 1)) := by
    rw [e1, e2] at hp
    exact (List.perm_append_left_iff _).1 (by simpa [List.take_append_of_le_length, Nat.le_of_lt hlp] using hp)
  rw [e1, e2, rk_prefix _ hpp]
  exact rk_order hpp h
theorem first_diff : ∀ {p q : List Int}, p.length = q.length → p ≠ q → ∃ (k : Nat) (x y : Int), p.take k = q.take k ∧ p[k]? = some x ∧ q[k]? = some y ∧ x ≠ y
  | [], [], _, h => absurd rfl h
  | a :: p, b :: q, hl, h => by
    by_cases hab : a = b
    · subst hab
      obtain ⟨k, x, y, h1, h2, h3, h4⟩ := first_diff (p := p) (q := q) (by simpa using hl) (fun e => h (by rw [e]))
      exact ⟨k + 1, x, y, by simp [h1], by simpa using h2, by simpa using h3, h4⟩
    · exact ⟨0, a, b, rfl, rfl, rfl, hab⟩
theorem rk_inj {p q : List Int} (hp : p.Perm q) (h : rk p = rk q) : p = q := by
  by_cases hpq : p = q
  · exact hpq
  · obtain ⟨k, x, y, h1, h2, h3, h4⟩ := first_diff hp.length_eq hpq
    rcases Int.lt_or_gt_of_ne h4 with h5 | h5
    · have := rk_first hp h1 h2 h3 h5; omega
    · have := rk_first hp.symm h1.symm h3 h2 h5; omega

/-- what digits take out of a list -/
def pk : List Nat → List Int → List Int
  | [], _ => []
  | d :: ds, L => L.getD d 0 :: pk ds (L.eraseIdx d)
def okD : List Nat → Prop
  | [] => True
  | d :: ds => d ≤ ds.length ∧ okD ds
def val : List Nat → Nat
  | [] => 0
  | d :: ds => d * fact ds.length + val ds
def DL : Nat → Nat → List Nat
  | 0, _ => []
  | n + 1, r => dg r n :: DL n r
theorem DL_len (r : Nat) : ∀ n, (DL n r).length = n
  | 0 => rfl
  | n + 1 => by simp [DL, DL_len r n]
theorem DL_ok (r : Nat) : ∀ n, okD (DL n r)
  | 0 => trivial
  | n + 1 => ⟨by rw [DL_len]; exact dg_lt r n, DL_ok r n⟩
theorem DL_val (r : Nat) : ∀ n, val (DL n r) = r % fact n
  | 0 => by simp [DL, val, fact, Nat.mod_one]
  | n + 1 => by
    rw [DL, val, DL_val r n, DL_len, dg, rq_div, fact, Nat.mul_comm (n + 1), Nat.mod_mul, Nat.mul_comm (fact n), Nat.add_comm]
theorem DL_get (r : Nat) : ∀ (n k : Nat), k < n → (DL n r)[k]? = some (dgs n r k)
  | n + 1, 0, _ => by simp [DL, dgs]
  | n + 1, k + 1, h => by
    rw [DL, List.getElem?_cons_succ, DL_get r n k (by omega)]
    simp only [dgs]
    congr 2
    omega
theorem pk_perm : ∀ (ds : List Nat) (L : List Int), okD ds → L.length = ds.length → (pk ds L).Perm L
  | [], L, _, h => by rw [List.eq_nil_of_length_eq_zero h]; exact .refl _
  | d :: ds, L, hd, h => by
    have hdl : d < L.length := by rw [h, List.length_cons]; have := hd.1; omega
    have ih := pk_perm ds (L.eraseIdx d) hd.2 (by rw [List.length_eraseIdx_of_lt hdl, h]; simp)
    rw [pk]
    have e1 : L.getD d 0 = L[d] := by simp [List.getD_eq_getElem?_getD, hdl]
    rw [e1]
    refine (List.Perm.cons _ ih).trans ?_
    have e2 : L = L.take d ++ L[d] :: L.drop (d + 1) := by rw [← List.drop_eq_getElem_cons hdl, List.take_append_drop]
    rw [List.eraseIdx_eq_take_drop_succ]
    exact List.perm_middle.symm.trans (.of_eq e2.symm)
theorem countP_sorted : ∀ (L : List Int) (d : Nat) (hd : d < L.length), L.Pairwise (· < ·) → (L.eraseIdx d).countP (fun y => decide (y < L[d])) = d
  | x :: L, 0, _, h => by
    rw [List.pairwise_cons] at h
    simp only [List.eraseIdx_cons_zero, List.getElem_cons_zero]
    rw [List.countP_eq_zero]
    intro a ha
    have := h.1 a ha
    simp
    omega
  | x :: L, d + 1, hd, h => by
    rw [List.pairwise_cons] at h
    have hd' : d < L.length := by simpa using hd
    have ih := countP_sorted L d hd' h.2
    simp only [List.eraseIdx_cons_succ, List.getElem_cons_succ]
    rw [List.countP_cons_of_pos (by simpa using h.1 _ (List.getElem_mem hd')), ih]
theorem rk_pk : ∀ (ds : List Nat) (L : List Int), okD ds → L.length = ds.length → L.Pairwise (· < ·) → rk (pk ds L) = val ds
  | [], _, _, _, _ => rfl
  | d :: ds, L, hd, h, hs => by
    have hdl : d < L.length := by rw [h, List.length_cons]; have := hd.1; omega
    have hl : (L.eraseIdx d).length = ds.length := by rw [List.length_eraseIdx_of_lt hdl, h]; simp
    have ih := rk_pk ds (L.eraseIdx d) hd.2 hl (hs.sublist (List.eraseIdx_sublist L d))
    have hp := pk_perm ds (L.eraseIdx d) hd.2 hl
    have e1 : L.getD d 0 = L[d] := by simp [List.getD_eq_getElem?_getD, hdl]
    rw [pk, rk, ih, e1, hp.countP_eq, countP_sorted L d hdl hs, hp.length_eq, hl, val]
theorem dcd_pk {n r : Nat} : ∀ k, k ≤ n → (dcd (dgs n r) n k).1 ++ pk ((DL n r).drop k) (dcd (dgs n r) n k).2 = pk (DL n r) (rng n)
  | 0, _ => by simp [dcd]
  | k + 1, h => by
    rw [← dcd_pk (n := n) (r := r) k (by omega)]
    have hl : k < (DL n r).length := by rw [DL_len]; omega
    have hg := DL_get r n k (by omega)
    rw [List.getElem?_eq_getElem hl] at hg
    injection hg with hg
    rw [List.drop_eq_getElem_cons hl, hg, pk, dcd, List.append_assoc, List.eraseIdx_eq_take_drop_succ]
    rfl
theorem unL_pk (n r : Nat) : unL n r = pk (DL n r) (rng n) := by
  have := dcd_pk (n := n) (r := r) n (Nat.le_refl _)
  rw [List.drop_of_length_le (by rw [DL_len]; exact Nat.le_refl _), pk, List.append_nil] at this
  exact this
theorem rng_sorted (n : Nat) : (rng n).Pairwise (· < ·) := by
  unfold rng
  rw [List.pairwise_map]
  exact (List.pairwise_lt_range (n := n)).imp (fun h => by omega)
theorem unL_perm (n r : Nat) : (unL n r).Perm (rng n) := by
  rw [unL_pk]
  exact pk_perm _ _ (DL_ok r n) (by rw [rng_len, DL_len])
theorem unL_rk {n r : Nat} (h : r < fact n) : rk (unL n r) = r := by
  rw [unL_pk, rk_pk _ _ (DL_ok r n) (by rw [rng_len, DL_len]) (rng_sorted n), DL_val, Nat.mod_eq_of_lt h]
theorem unL_of {p : List Int} (h : IsPerm p) : unL p.length (rk p) = p :=
  rk_inj ((unL_perm _ _).trans h.perm.symm) (unL_rk (rk_lt p))

theorem rkE_ok {p : List Int} : rkE p = 0 ↔ IsPerm p ∧ p.length ≤ 20 := by
  unfold rkE chk
  by_cases h : IsPerm p
  · rw [if_pos h]
    by_cases h1 : 20 < p.length
    · split <;> split <;> simp <;> omega
    · rw [if_neg (by split <;> simp), if_neg h1]
      simp [h]
      omega
  · rw [if_neg h]
    simp [h]
theorem rkV_ok {p : List Int} (h : rkE p = 0) : rkV p = rk p := by unfold rkV; rw [if_pos h, rkS_rk]
theorem un_of_rank {p : List Int} (h : rkE p = 0) : unE p.length (rkV p) = 0 ∧ unR p.length (rkV p) = p := by
  obtain ⟨h1, h2⟩ := rkE_ok.1 h
  have hlt := rk_lt p
  rw [rkV_ok h]
  have he : unE p.length (rk p) = 0 := by unfold unE; rw [if_neg (by omega), if_neg (by simpa using hlt)]
  refine ⟨he, ?_⟩
  unfold unR
  rw [if_pos he]
  exact unL_of h1
theorem rank_of_un {n : Nat} {r : Nat} (h : unE n r = 0) : (unR n r).length = n ∧ rkE (unR n r) = 0 ∧ rkV (unR n r) = r := by
  have hr : unR n r = unL n r := by unfold unR; rw [if_pos h]; rfl
  have hb : n ≤ 20 ∧ r < fact n := by
    unfold unE at h
    split at h
    · cases h
    · split at h
      · cases h
      · rename_i h1 h2
        simp at h2
        exact ⟨by omega, h2⟩
  have hl : (unL n r).length = n := by rw [(unL_perm n r).length_eq, rng_len]
  have he : rkE (unL n r) = 0 := rkE_ok.2 ⟨.of_perm (unL_perm n r), by omega⟩
  rw [hr]
  exact ⟨hl, he, by rw [rkV_ok he, unL_rk hb.2]⟩
theorem perm_perm {p q : List Int} (hp : rkE p = 0) (hq : rkE q = 0) (hl : p.length = q.length) : p.Perm q := by
  have h1 := (rkE_ok.1 hp).1.perm
  have h2 := (rkE_ok.1 hq).1.perm
  rw [hl] at h1
  exact h1.trans h2.symm
end Go.Proofs.Ytbckhmpkgokbeaa
