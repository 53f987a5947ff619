/- Contracts and plain laws, put together in one file. No condition. -/
import Derived.Test.YtjgndclfbcijmaaJWholeShape4
import Derived.Test.YtjgndclfbcijmaaRows


/- PermTwos: its walk. -/
namespace Go.Proofs.Ytjgndclfbcijmaa
open Go.RowKit Go.Tk

theorem coL_le (p q : List Int) : (coL p q).length ≤ q.length := by unfold coL; split <;> simp [compL]
theorem paL_le (p q : List Int) : (paL p q).length ≤ 4096 := by
  unfold paL
  split
  · rename_i h
    obtain ⟨_, _, h1, h2⟩ := both_ok h
    exact pst_path64 h2 (by omega)
  · simp
abbrev intKs : List Leaf := [.int .i64]
theorem icell_of {w : World} (l : List Value) (h : CellsOk w intKs l) : ∃ x : Int, l = icell x := by
  simp only [CellsOk, CellOk] at h
  obtain ⟨v0, l0, rfl, ⟨n0, rfl, _⟩, rfl⟩ := h
  exact ⟨n0, rfl⟩
end Go.Proofs.Ytjgndclfbcijmaa


/- PermUndoes: its walk. -/
namespace Go.Proofs.Ytjgndclfbcijmaa
open Go.RowKit Go.Tk

theorem both_of {xs ys : List Int} (hp : IsPerm xs) (hq : IsPerm ys) (hl : xs.length = ys.length) (h64 : xs.length ≤ 64) : both xs ys = 0 := by
  have h1 := chk_ok.2 ⟨hp, h64⟩
  have h2 := chk_ok.2 ⟨hq, by omega⟩
  unfold both
  rw [h1, h2, if_neg (by simp [hl])]
  rfl
end Go.Proofs.Ytjgndclfbcijmaa


/- PermLeads: its walk. -/
namespace Go.Proofs.Ytjgndclfbcijmaa
open Go.RowKit Go.Tk

end Go.Proofs.Ytjgndclfbcijmaa


/- PermAll: its walk. -/
namespace Go.Proofs.Ytjgndclfbcijmaa
open Go.RowKit Go.Tk

/-- the order behind i exchanges -/
def atL (k i : Nat) : List Int := swps (rng k) ((chL k).take i)
def rkL (k i : Nat) : List Nat := (List.range i).map fun j => rkV (atL k j)
def seenR (k i n : Nat) : List Bool := (List.range n).map fun r => decide (r ∈ rkL k i)
theorem seenR_len (k i n : Nat) : (seenR k i n).length = n := by simp [seenR]
theorem seenR_get (k i : Nat) {n r : Nat} (h : r < n) : (seenR k i n)[r]? = some (decide (r ∈ rkL k i)) := by simp [seenR, h]
theorem seenR_zero (k n : Nat) : seenR k 0 n = List.replicate n false := by
  apply List.ext_getElem?
  intro j
  rcases Nat.lt_or_ge j n with h | h
  · rw [seenR_get k 0 h]; simp [rkL, h]
  · rw [List.getElem?_eq_none (by rw [seenR_len]; exact h), List.getElem?_eq_none (by simpa using h)]
theorem rkL_succ (k i : Nat) : rkL k (i + 1) = rkL k i ++ [rkV (atL k i)] := by simp [rkL, List.range_succ]
theorem seenR_set {k i n r : Nat} (hr : rkV (atL k i) = r) (h : r < n) : (seenR k i n).set r true = seenR k (i + 1) n := by
  apply List.ext_getElem?
  intro j
  rcases Nat.lt_or_ge j n with hj | hj
  · rw [List.getElem?_set, seenR_len, seenR_get k (i + 1) hj, seenR_get k i hj, rkL_succ, hr]
    split
    · rename_i he; subst he; simp
    · rename_i he
      have : ¬ j = r := fun h => he h.symm
      simp [this]
  · rw [List.getElem?_eq_none (by simp [seenR_len, hj]), List.getElem?_eq_none (by rw [seenR_len]; exact hj)]
theorem all_facts (k : Nat) (h2 : 2 ≤ k) (h4 : k ≤ 4) : (chL k).length + 1 = fact k ∧ chE k = 0 ∧ (∀ i, i < fact k → rkE (atL k i) = 0 ∧ rkV (atL k i) < fact k ∧ rkV (atL k i) ∉ rkL k i ∧ (atL k i).length = k) ∧
    (∀ i, i < (chL k).length → swE (atL k i) ((chL k).getD i 0) = 0) := by
  obtain rfl | rfl | rfl : k = 2 ∨ k = 3 ∨ k = 4 := by omega
  · decide +kernel
  · decide +kernel
  · decide +kernel
theorem atL_succ {k i : Nat} {l : Int} (h : (chL k)[i]? = some l) : swp (atL k i) l.toNat = atL k (i + 1) := by
  unfold atL
  rw [take_snoc h, swps_snoc]
theorem fact_small {k : Nat} (h : k ≤ 4) : fact k ≤ 24 := by
  have : ∀ k, k ≤ 4 → fact k ≤ 24 := by decide
  exact this k h
end Go.Proofs.Ytjgndclfbcijmaa


/- slices.Delete of one thing, in place. -/
namespace Go.Proofs.Ytjgndclfbcijmaa
open Go.RowKit Go.Tk

theorem run_clear_one (w : World) (ty : TypeId) (sb o c : Nat) (h : ∃ v, w.cell? ⟨sb, o, none⟩ = some v) (hf : w.frozen? ⟨sb, o, none⟩ = false) :
    (Builtin.clear_ #[26] ty #[.slice (some ⟨sb, o, none⟩) 1 c]).run Try.prog w = .ok (.tuple #[]) (w.setCell ⟨sb, o, none⟩ (.int .i64 0)) := by
  obtain ⟨v, hv⟩ := h
  obtain ⟨i, hi, hz, hs, hb⟩ := info_parts info_int
  simp [Builtin.clear_, run_underlying Try.underlying26, zeroValue, typeInfo, hi, hz, Builtin.zeroCells, storeCells, hv, hf, go_sem]
end Go.Proofs.Ytjgndclfbcijmaa


/- Permutations: the reference's Factorial and DocRank. -/
namespace Go.Proofs.Ytjgndclfbcijmaa
open Go.RowKit Go.Tk

theorem fact_mono {a b : Nat} (h : a ≤ b) : fact a ≤ fact b := by
  induction b with
  | zero => rw [show a = 0 by omega]; exact Nat.le_refl _
  | succ b ih =>
    rcases Nat.lt_or_ge a (b + 1) with h1 | h1
    · have := ih (by omega)
      rw [show fact (b + 1) = (b + 1) * fact b from rfl]
      have h2 := Nat.le_mul_of_pos_left (fact b) (show 0 < b + 1 by omega)
      omega
    · rw [show a = b + 1 by omega]; exact Nat.le_refl _
/-- the document's sum -/
def rdS (xs : List Int) : Nat → Nat
  | 0 => 0
  | k + 1 => rdS xs k + lessC xs k * fact (xs.length - 1 - k)
theorem rdS_eq (xs : List Int) : ∀ k, k ≤ xs.length → rkS xs k * fact (xs.length - k) = rdS xs k
  | 0, _ => by simp [rkS, rdS]
  | k + 1, h => by
    have ih := rdS_eq xs k (by omega)
    rw [rkS, rdS, ← ih, Nat.add_mul, Nat.mul_assoc, show xs.length - (k + 1) = xs.length - 1 - k by omega]
    congr 1
    rw [show xs.length - k = (xs.length - 1 - k) + 1 by omega]
    rfl
theorem rdS_full (xs : List Int) : rdS xs xs.length = rkS xs xs.length := by
  rw [← rdS_eq xs xs.length (Nat.le_refl _), Nat.sub_self]
  simp [fact]
theorem rdS_lt {xs : List Int} (h : xs.length ≤ 20) {k : Nat} (hk : k ≤ xs.length) : rdS xs k < 2432902008176640000 := by
  rw [← rdS_eq xs k hk]
  have h1 := rkS_lt xs k hk
  have h2 := dsc_fact xs.length k hk
  have h3 := fact_le20 h
  have h4 : (rkS xs k + 1) * fact (xs.length - k) ≤ dsc xs.length k * fact (xs.length - k) := Nat.mul_le_mul_right _ h1
  have h5 := fact_pos (xs.length - k)
  rw [Nat.add_mul, Nat.one_mul] at h4
  omega

end Go.Proofs.Ytjgndclfbcijmaa


/- Unrank: what both compute. Plain, and the program's digits. -/
namespace Go.Proofs.Ytjgndclfbcijmaa
open Go.RowKit Go.Tk

def rq (r : Nat) : Nat → Nat
  | 0 => r
  | i + 1 => rq r i / (i + 1)
theorem rq_div (r : Nat) : ∀ i, rq r i = r / fact i
  | 0 => by simp [rq, fact]
  | i + 1 => by rw [rq, rq_div r i, Nat.div_div_eq_div_mul, fact, Nat.mul_comm]
def dg (r i : Nat) : Nat := rq r i % (i + 1)
theorem dg_lt (r i : Nat) : dg r i ≤ i := by
  unfold dg
  have := Nat.mod_lt (rq r i) (show 0 < i + 1 by omega)
  omega
theorem dg_doc (r m : Nat) : (r % fact (m + 1)) / fact m = dg r m := by
  unfold dg
  rw [rq_div, fact, Nat.mul_comm, Nat.mod_mul_right_div_self]
theorem rq_le (r : Nat) : ∀ i, rq r i ≤ r
  | 0 => Nat.le_refl _
  | i + 1 => Nat.le_trans (Nat.div_le_self _ _) (rq_le r i)
/-- the things taken, and those left, behind k digits -/
def dcd (f : Nat → Nat) (n : Nat) : Nat → List Int × List Int
  | 0 => ([], rng n)
  | k + 1 => ((dcd f n k).1 ++ [(dcd f n k).2.getD (f k) 0], (dcd f n k).2.take (f k) ++ (dcd f n k).2.drop (f k + 1))
def dgs (n r : Nat) (k : Nat) : Nat := dg r (n - 1 - k)
theorem dcd_len {f : Nat → Nat} {n : Nat} (hf : ∀ k, k < n → f k + k < n) : ∀ k, k ≤ n → (dcd f n k).1.length = k ∧ (dcd f n k).2.length = n - k
  | 0, _ => by simp [dcd, rng_len]
  | k + 1, h => by
    have ih := dcd_len hf k (by omega)
    have := hf k (by omega)
    simp only [dcd, List.length_append, List.length_singleton, List.length_take, List.length_drop]
    omega
theorem dgs_ok {n r : Nat} : ∀ k, k < n → dgs n r k + k < n := fun k hk => by
  unfold dgs
  have := dg_lt r (n - 1 - k)
  omega
def unL (n r : Nat) : List Int := (dcd (dgs n r) n n).1
/-- the error: too many, or no such place -/
def unE (n : Int) (r : Nat) : Int := if n < 0 ∨ 20 < n then 1 else if fact n.toNat ≤ r then 1 else 0
def unR (n : Int) (r : Nat) : List Int := if unE n r = 0 then unL n.toNat r else []
/-- the digits from the end on -/
def dgL (n r i : Nat) : List Int := (List.range n).map fun j : Nat => if n - i ≤ j then (dg r (n - 1 - j) : Int) else 0
theorem dgL_len (n r i : Nat) : (dgL n r i).length = n := by simp [dgL]
theorem dgL_zero (n r : Nat) : dgL n r 0 = List.replicate n 0 := by
  apply List.ext_getElem?
  intro j
  rcases Nat.lt_or_ge j n with h | h
  · simp [dgL, h]
    omega
  · rw [List.getElem?_eq_none (by rw [dgL_len]; exact h), List.getElem?_eq_none (by simpa using h)]
theorem dgL_set {n r i : Nat} (h : i < n) : (dgL n r i).set (n - 1 - i) (dg r i : Int) = dgL n r (i + 1) := by
  apply List.ext_getElem?
  intro j
  rcases Nat.lt_or_ge j n with hj | hj
  · rw [List.getElem?_set, dgL_len]
    simp only [dgL, List.getElem?_map, List.getElem?_range hj, Option.map_some]
    split
    · rename_i he
      subst he
      rw [if_pos (by omega), if_pos (by omega), show n - 1 - (n - 1 - i) = i by omega]
    · rename_i he
      congr 1
      by_cases h1 : n - i ≤ j
      · rw [if_pos h1, if_pos (by omega)]
      · rw [if_neg h1, if_neg (by omega)]
  · rw [List.getElem?_eq_none (by simp [dgL_len, hj]), List.getElem?_eq_none (by rw [dgL_len]; exact hj)]
theorem dgL_get {n r j : Nat} (h : j < n) : (dgL n r n)[j]? = some (dgs n r j : Int) := by
  simp [dgL, h, dgs]
theorem un_zero {n r : Nat} : rq r n = 0 ↔ r < fact n := by
  rw [rq_div]
  exact Nat.div_eq_zero_iff_lt (fact_pos n)
end Go.Proofs.Ytjgndclfbcijmaa


/- Ranks of permutations: there and back, and in order. Plain. -/
namespace Go.Proofs.Ytjgndclfbcijmaa
open Go.RowKit Go.Tk

/-- the rank by recursion on the list -/
def rk : List Int → Nat
  | [] => 0
  | x :: xs => xs.countP (fun y => decide (y < x)) * fact xs.length + rk xs
theorem lessC_cons (x : Int) (xs : List Int) (k : Nat) : lessC (x :: xs) (k + 1) = lessC xs k := rfl
theorem rdS_cons (x : Int) (xs : List Int) : ∀ k, k ≤ xs.length → rdS (x :: xs) (k + 1) = xs.countP (fun y => decide (y < x)) * fact xs.length + rdS xs k
  | 0, _ => by simp [rdS, lessC]
  | k + 1, h => by
    rw [rdS, rdS_cons x xs k (by omega), lessC_cons, rdS, Nat.add_assoc]
    congr 3
    simp only [List.length_cons]
    congr 1
    omega
theorem rdS_rk : ∀ xs : List Int, rdS xs xs.length = rk xs
  | [] => rfl
  | x :: xs => by rw [List.length_cons, rdS_cons x xs _ (Nat.le_refl _), rdS_rk xs, rk]
theorem rkS_rk (xs : List Int) : rkS xs xs.length = rk xs := by rw [← rdS_full, rdS_rk]
theorem rk_lt : ∀ xs : List Int, rk xs < fact xs.length
  | [] => by decide
  | x :: xs => by
    have ih := rk_lt xs
    have h1 := List.countP_le_length (p := fun y => decide (y < x)) (l := xs)
    have h2 := Nat.mul_le_mul_right (fact xs.length) h1
    rw [rk, List.length_cons, fact, Nat.add_mul, Nat.one_mul]
    omega
theorem rk_order {x y : Int} {p q : List Int} (hp : (x :: p).Perm (y :: q)) (h : x < y) : rk (x :: p) < rk (y :: q) := by
  have hl : p.length = q.length := by simpa using hp.length_eq
  have h1 : p.countP (fun z => decide (z < x)) + 1 ≤ q.countP (fun z => decide (z < y)) := by
    have e2 : q.countP (fun z => decide (z < y)) = (y :: q).countP (fun z => decide (z < y)) := by simp
    rw [e2, ← hp.countP_eq]
    rw [List.countP_cons_of_pos (by simpa using h)]
    have := List.countP_mono_left (l := p) (p := fun z => decide (z < x)) (q := fun z => decide (z < y)) (fun a _ ha => by simp at ha ⊢; omega)
    omega
  have h2 := rk_lt p
  have h3 := Nat.mul_le_mul_right (fact q.length) h1
  rw [rk, rk, hl]
  rw [hl] at h2
  rw [Nat.add_mul, Nat.one_mul] at h3
  omega
theorem rk_prefix : ∀ (c : List Int) {p q : List Int} (_ : p.Perm q), rk (c ++ p) < rk (c ++ q) ↔ rk p < rk q
  | [], _, _, _ => Iff.rfl
  | a :: c, p, q, h => by
    have ih := rk_prefix c h
    simp only [List.cons_append, rk, List.countP_append, h.countP_eq, List.length_append, h.length_eq]
    omega
/-- the first difference decides -/
theorem rk_first {p q : List Int} {k : Nat} {x y : Int} (hp : p.Perm q) (hk : p.take k = q.take k) (hx : p[k]? = some x) (hy : q[k]? = some y) (h : x < y) : rk p < rk q := by
  have hlp := lt_of_get hx
  have hlq := lt_of_get hy
  rw [List.getElem?_eq_getElem hlp] at hx
  rw [List.getElem?_eq_getElem hlq] at hy
  injection hx with hx
  injection hy with hy
  have e1 : p = p.take k ++ x :: p.drop (k + 1) := by rw [← hx, ← List.drop_eq_getElem_cons hlp, List.take_append_drop]
  have e2 : q = p.take k ++ y :: q.drop (k + 1) := by rw [hk, ← hy, ← List.drop_eq_getElem_cons hlq, List.take_append_drop]
  have hpp : (x :: p.drop (k + 1)).Perm (y :: q.drop (k + 1)) := by
    rw [e1, e2] at hp
    exact (List.perm_append_left_iff _).1 (by simpa [List.take_append_of_le_length, Nat.le_of_lt hlp] using hp)
  rw [e1, e2, rk_prefix _ hpp]
  exact rk_order hpp h
theorem first_diff : ∀ {p q : List Int}, p.length = q.length → p ≠ q → ∃ (k : Nat) (x y : Int), p.take k = q.take k ∧ p[k]? = some x ∧ q[k]? = some y ∧ x ≠ y
  | [], [], _, h => absurd rfl h
  | a :: p, b :: q, hl, h => by
    by_cases hab : a = b
    · subst hab
      obtain ⟨k, x, y, h1, h2, h3, h4⟩ := first_diff (p := p) (q := q) (by simpa using hl) (fun e => h (by rw [e]))
      exact ⟨k + 1, x, y, by simp [h1], by simpa using h2, by simpa using h3, h4⟩
    · exact ⟨0, a, b, rfl, rfl, rfl, hab⟩
theorem rk_inj {p q : List Int} (hp : p.Perm q) (h : rk p = rk q) : p = q := by
  by_cases hpq : p = q
  · exact hpq
  · obtain ⟨k, x, y, h1, h2, h3, h4⟩ := first_diff hp.length_eq hpq
    rcases Int.lt_or_gt_of_ne h4 with h5 | h5
    · have := rk_first hp h1 h2 h3 h5; omega
    · have := rk_first hp.symm h1.symm h3 h2 h5; omega

/-- what digits take out of a list -/
def pk : List Nat → List Int → List Int
  | [], _ => []
  | d :: ds, L => L.getD d 0 :: pk ds (L.eraseIdx d)
def okD : List Nat → Prop
  | [] => True
  | d :: ds => d ≤ ds.length ∧ okD ds
def val : List Nat → Nat
  | [] => 0
  | d :: ds => d * fact ds.length + val ds
def DL : Nat → Nat → List Nat
  | 0, _ => []
  | n + 1, r => dg r n :: DL n r
theorem DL_len (r : Nat) : ∀ n, (DL n r).length = n
  | 0 => rfl
  | n + 1 => by simp [DL, DL_len r n]
theorem DL_ok (r : Nat) : ∀ n, okD (DL n r)
  | 0 => trivial
  | n + 1 => ⟨by rw [DL_len]; exact dg_lt r n, DL_ok r n⟩
theorem DL_val (r : Nat) : ∀ n, val (DL n r) = r % fact n
  | 0 => by simp [DL, val, fact, Nat.mod_one]
  | n + 1 => by
    rw [DL, val, DL_val r n, DL_len, dg, rq_div, fact, Nat.mul_comm (n + 1), Nat.mod_mul, Nat.mul_comm (fact n), Nat.add_comm]
theorem DL_get (r : Nat) : ∀ (n k : Nat), k < n → (DL n r)[k]? = some (dgs n r k)
  | n + 1, 0, _ => by simp [DL, dgs]
  | n + 1, k + 1, h => by
    rw [DL, List.getElem?_cons_succ, DL_get r n k (by omega)]
    simp only [dgs]
    congr 2
    omega
theorem pk_perm : ∀ (ds : List Nat) (L : List Int), okD ds → L.length = ds.length → (pk ds L).Perm L
  | [], L, _, h => by rw [List.eq_nil_of_length_eq_zero h]; exact .refl _
  | d :: ds, L, hd, h => by
    have hdl : d < L.length := by rw [h, List.length_cons]; have := hd.1; omega
    have ih := pk_perm ds (L.eraseIdx d) hd.2 (by rw [List.length_eraseIdx_of_lt hdl, h]; simp)
    rw [pk]
    have e1 : L.getD d 0 = L[d] := by simp [List.getD_eq_getElem?_getD, hdl]
    rw [e1]
    refine (List.Perm.cons _ ih).trans ?_
    have e2 : L = L.take d ++ L[d] :: L.drop (d + 1) := by rw [← List.drop_eq_getElem_cons hdl, List.take_append_drop]
    rw [List.eraseIdx_eq_take_drop_succ]
    exact List.perm_middle.symm.trans (.of_eq e2.symm)
theorem countP_sorted : ∀ (L : List Int) (d : Nat) (hd : d < L.length), L.Pairwise (· < ·) → (L.eraseIdx d).countP (fun y => decide (y < L[d])) = d
  | x :: L, 0, _, h => by
    rw [List.pairwise_cons] at h
    simp only [List.eraseIdx_cons_zero, List.getElem_cons_zero]
    rw [List.countP_eq_zero]
    intro a ha
    have := h.1 a ha
    simp
    omega
  | x :: L, d + 1, hd, h => by
    rw [List.pairwise_cons] at h
    have hd' : d < L.length := by simpa using hd
    have ih := countP_sorted L d hd' h.2
    simp only [List.eraseIdx_cons_succ, List.getElem_cons_succ]
    rw [List.countP_cons_of_pos (by simpa using h.1 _ (List.getElem_mem hd')), ih]
theorem rk_pk : ∀ (ds : List Nat) (L : List Int), okD ds → L.length = ds.length → L.Pairwise (· < ·) → rk (pk ds L) = val ds
  | [], _, _, _, _ => rfl
  | d :: ds, L, hd, h, hs => by
    have hdl : d < L.length := by rw [h, List.length_cons]; have := hd.1; omega
    have hl : (L.eraseIdx d).length = ds.length := by rw [List.length_eraseIdx_of_lt hdl, h]; simp
    have ih := rk_pk ds (L.eraseIdx d) hd.2 hl (hs.sublist (List.eraseIdx_sublist L d))
    have hp := pk_perm ds (L.eraseIdx d) hd.2 hl
    have e1 : L.getD d 0 = L[d] := by simp [List.getD_eq_getElem?_getD, hdl]
    rw [pk, rk, ih, e1, hp.countP_eq, countP_sorted L d hdl hs, hp.length_eq, hl, val]
theorem dcd_pk {n r : Nat} : ∀ k, k ≤ n → (dcd (dgs n r) n k).1 ++ pk ((DL n r).drop k) (dcd (dgs n r) n k).2 = pk (DL n r) (rng n)
  | 0, _ => by simp [dcd]
  | k + 1, h => by
    rw [← dcd_pk (n := n) (r := r) k (by omega)]
    have hl : k < (DL n r).length := by rw [DL_len]; omega
    have hg := DL_get r n k (by omega)
    rw [List.getElem?_eq_getElem hl] at hg
    injection hg with hg
    rw [List.drop_eq_getElem_cons hl, hg, pk, dcd, List.append_assoc, List.eraseIdx_eq_take_drop_succ]
    rfl
theorem unL_pk (n r : Nat) : unL n r = pk (DL n r) (rng n) := by
  have := dcd_pk (n := n) (r := r) n (Nat.le_refl _)
  rw [List.drop_of_length_le (by rw [DL_len]; exact Nat.le_refl _), pk, List.append_nil] at this
  exact this
theorem rng_sorted (n : Nat) : (rng n).Pairwise (· < ·) := by
  unfold rng
  rw [List.pairwise_map]
  exact (List.pairwise_lt_range (n := n)).imp (fun h => by omega)
theorem unL_perm (n r : Nat) : (unL n r).Perm (rng n) := by
  rw [unL_pk]
  exact pk_perm _ _ (DL_ok r n) (by rw [rng_len, DL_len])
theorem unL_rk {n r : Nat} (h : r < fact n) : rk (unL n r) = r := by
  rw [unL_pk, rk_pk _ _ (DL_ok r n) (by rw [rng_len, DL_len]) (rng_sorted n), DL_val, Nat.mod_eq_of_lt h]
theorem unL_of {p : List Int} (h : IsPerm p) : unL p.length (rk p) = p :=
  rk_inj ((unL_perm _ _).trans h.perm.symm) (unL_rk (rk_lt p))

theorem rkE_ok {p : List Int} : rkE p = 0 ↔ IsPerm p ∧ p.length ≤ 20 := by
  unfold rkE chk
  by_cases h : IsPerm p
  · rw [if_pos h]
    by_cases h1 : 20 < p.length
    · split <;> split <;> simp <;> omega
    · rw [if_neg (by split <;> simp), if_neg h1]
      simp [h]
      omega
  · rw [if_neg h]
    simp [h]
theorem rkV_ok {p : List Int} (h : rkE p = 0) : rkV p = rk p := by unfold rkV; rw [if_pos h, rkS_rk]
theorem un_of_rank {p : List Int} (h : rkE p = 0) : unE p.length (rkV p) = 0 ∧ unR p.length (rkV p) = p := by
  obtain ⟨h1, h2⟩ := rkE_ok.1 h
  have hlt := rk_lt p
  rw [rkV_ok h]
  have he : unE p.length (rk p) = 0 := by unfold unE; rw [if_neg (by omega), if_neg (by simpa using hlt)]
  refine ⟨he, ?_⟩
  unfold unR
  rw [if_pos he]
  exact unL_of h1
theorem rank_of_un {n : Nat} {r : Nat} (h : unE n r = 0) : (unR n r).length = n ∧ rkE (unR n r) = 0 ∧ rkV (unR n r) = r := by
  have hr : unR n r = unL n r := by unfold unR; rw [if_pos h]; rfl
  have hb : n ≤ 20 ∧ r < fact n := by
    unfold unE at h
    split at h
    · cases h
    · split at h
      · cases h
      · rename_i h1 h2
        simp at h2
        exact ⟨by omega, h2⟩
  have hl : (unL n r).length = n := by rw [(unL_perm n r).length_eq, rng_len]
  have he : rkE (unL n r) = 0 := rkE_ok.2 ⟨.of_perm (unL_perm n r), by omega⟩
  rw [hr]
  exact ⟨hl, he, by rw [rkV_ok he, unL_rk hb.2]⟩
theorem perm_perm {p q : List Int} (hp : rkE p = 0) (hq : rkE q = 0) (hl : p.length = q.length) : p.Perm q := by
  have h1 := (rkE_ok.1 hp).1.perm
  have h2 := (rkE_ok.1 hq).1.perm
  rw [hl] at h1
  exact h1.trans h2.symm
end Go.Proofs.Ytjgndclfbcijmaa


/- Unrank of the program. -/
namespace Go.Proofs.Ytjgndclfbcijmaa
open Go.RowKit Go.Tk

end Go.Proofs.Ytjgndclfbcijmaa


/- Small functions of thickettop: sameList, twin, ahead, order. -/
namespace Go.Proofs.Ytjgndclfbcijmaa
open Go.RowKit Go.Tk

/-- the first difference tells -/
def lexLt : List Int → List Int → Bool
  | x :: xs, y :: ys => if x = y then lexLt xs ys else decide (x < y)
  | _, _ => false
theorem lexLt_at : ∀ {xs ys : List Int} {k : Nat} {x y : Int}, xs.take k = ys.take k → xs[k]? = some x → ys[k]? = some y → x ≠ y → lexLt xs ys = decide (x < y)
  | [], _, _, _, _, _, h, _, _ => by simp at h
  | _ :: _, [], _, _, _, _, _, h, _ => by simp at h
  | a :: xs, b :: ys, 0, x, y, _, hx, hy, hne => by
    simp only [List.getElem?_cons_zero, Option.some.injEq] at hx hy
    subst hx hy
    rw [lexLt, if_neg hne]
  | a :: xs, b :: ys, k + 1, x, y, he, hx, hy, hne => by
    simp only [List.take_succ_cons, List.cons.injEq] at he
    simp only [List.getElem?_cons_succ] at hx hy
    rw [lexLt, if_pos he.1]
    exact lexLt_at he.2 hx hy hne
theorem lexLt_same : ∀ (xs : List Int), lexLt xs xs = false
  | [] => rfl
  | x :: xs => by rw [lexLt, if_pos rfl, lexLt_same xs]
theorem lexLt_rk {p q : List Int} (hp : p.Perm q) : lexLt p q = decide (rk p < rk q) := by
  by_cases hpq : p = q
  · subst hpq; rw [lexLt_same]; simp
  · obtain ⟨k, x, y, h1, h2, h3, h4⟩ := first_diff hp.length_eq hpq
    rw [lexLt_at h1 h2 h3 h4, decide_eq_decide]
    rcases Int.lt_or_gt_of_ne h4 with h5 | h5
    · have := rk_first hp h1 h2 h3 h5; exact ⟨fun _ => this, fun _ => h5⟩
    · have := rk_first hp.symm h1.symm h3 h2 h5; exact ⟨fun h => by omega, fun h => by omega⟩
end Go.Proofs.Ytjgndclfbcijmaa


/- order of thickettop: some permutation of 0 .. n-1. -/
namespace Go.Proofs.Ytjgndclfbcijmaa
open Go.RowKit Go.Tk

/-- one taken out, the last put into its place -/
theorem take_out {M : List Int} {z y : Int} {d : Nat} (h : (M ++ [z])[d]? = some y) : (y :: M.set d z).Perm (M ++ [z]) ∧ (M ++ [z]).set d z = M.set d z ++ [z] := by
  have hd := lt_of_get h
  simp only [List.length_append, List.length_singleton] at hd
  by_cases hdm : d < M.length
  · rw [List.getElem?_append_left hdm, List.getElem?_eq_getElem hdm] at h
    injection h with h
    refine ⟨?_, List.set_append_left _ _ hdm⟩
    have e1 : M = M.take d ++ y :: M.drop (d + 1) := by rw [← h, ← List.drop_eq_getElem_cons hdm, List.take_append_drop]
    have e2 : M.set d z = M.take d ++ z :: M.drop (d + 1) := by
      rw [List.set_eq_take_append_cons_drop, if_pos hdm]
    rw [e2]
    have p1 : (y :: (M.take d ++ z :: M.drop (d + 1))).Perm (M.take d ++ y :: z :: M.drop (d + 1)) := List.perm_middle.symm
    have p2 : (M.take d ++ y :: z :: M.drop (d + 1)).Perm (M.take d ++ z :: y :: M.drop (d + 1)) := (List.Perm.swap z y _).append_left _
    have p3 : (M.take d ++ z :: y :: M.drop (d + 1)).Perm (z :: M) := by
      have := (List.perm_middle (a := z) (l₁ := M.take d) (l₂ := y :: M.drop (d + 1)))
      rwa [← e1] at this
    exact (p1.trans p2).trans (p3.trans (List.perm_append_singleton z M).symm)
  · have hdm2 : d = M.length := by omega
    subst hdm2
    simp at h
    subst h
    refine ⟨?_, by rw [List.set_append_right _ _ (Nat.le_refl _), List.set_eq_of_length_le (Nat.le_refl _)]; simp⟩
    rw [List.set_eq_of_length_le (Nat.le_refl _)]
    exact (List.perm_append_singleton z M).symm
def b8cell (x : Fin 256) : List Value := [.int .u8 (x.val : Int)]
abbrev u8Ks : List Leaf := [.int .u8]
theorem u8_of {w : World} (l : List Value) (h : CellsOk w u8Ks l) : ∃ x : Fin 256, l = b8cell x := by
  simp only [CellsOk, CellOk] at h
  obtain ⟨v0, l0, rfl, ⟨n0, rfl, hw⟩, rfl⟩ := h
  have hb : 0 ≤ n0 ∧ n0 ≤ 255 := by
    simp [Lit.wf, IntKind.min, IntKind.max, IntKind.signed, IntKind.bits] at hw
    omega
  obtain ⟨q, rfl⟩ := Int.eq_ofNat_of_zero_le hb.1
  exact ⟨⟨q, by omega⟩, rfl⟩
abbrev U8 (w : World) (A : Option Addr) (n : Nat) (xs : List (Fin 256)) : Prop := Sl w 1 b8cell A n xs
theorem U8.at1 {w : World} {A : Option Addr} {n : Nat} {xs : List (Fin 256)} (h : U8 w A n xs) {i : Nat} {x : Fin 256} (hi : xs[i]? = some x) : ∃ b off, A = some ⟨b, off, none⟩ ∧ b < w.heap.size ∧ w.cell? ⟨b, off + i, none⟩ = some (.int .u8 (x.val : Int)) := by
  obtain ⟨b, off, h1, h2, h3⟩ := h.get i x hi
  refine ⟨b, off, h1, h2, ?_⟩
  have := h3 0 (by omega)
  simpa [b8cell] using this
set_option maxHeartbeats 4000000 in
theorem order_any (N : Nat) (A : Option Addr) (m C : Nat) (bs : List (Fin 256)) (w : World) (h : U8 w A m bs) (hN : N ≤ 12) :
    Calls Try.prog 5 #[.int .i64 N, .slice A m C] w fun e w' => ∃ ys, IsPerm ys ∧ ys.length = N ∧ RetL w ys e w' := by
  obtain rfl := h.len
  have H := Lib.hid h
  clear h
  go_enter Try.func5, Try.ntmps5
  go_wp2
  go_loopw [5, 6] (fun s i wr => ∃ (k : Nat) (A2 : Option Addr) (C2 : Nat), k ≤ N ∧ i = .int .i64 k ∧ s = .slice A2 k C2 ∧ Same w wr ∧ Fresh w.heap.size A2 ∧ OwnI wr 3 A2 k C2 ((rng N).take k)) (fun _ i _ => N - (intOf i).toNat)
  case atStart => exact ⟨0, none, 0, by omega, rfl, rfl, Frm.refl _ _, fresh_none _, Own.nil _ _ _ _⟩
  case round =>
    obtain ⟨k, A2, C2, hk, rfl, rfl, hs, hf, ho⟩ := hrel
    have HR := Lib.hid ho
    have HF := Lib.hid hf
    have HS := Lib.hid hs
    have hlk : ((rng N).take k).length = k := by rw [List.length_take, rng_len]; omega
    have HLK := Lib.hid hlk
    clear hs ho hf hlk
    by_cases hlt : k < N
    · have hi1 : (k : Int) < N := by omega
      have hnx := take_snoc (rng_get hlt)
      have HNX := Lib.hid hnx
      clear hnx
      go_upto_region 5 with fail
      refine wp_read 2 ?_
      simp only [List.take_succ_cons, List.take_zero, List.drop_succ_cons, List.drop_zero]
      repeat (any_goals (first | go_big_quiet_step (fail) | quiet_step (fail)))
      refine wpQuiet_nil ?_
      refine wpList_plain rfl fun K hK => ?_
      go_simp
      refine hK _ _ ?_
      clear hK K
      refine list_world fun wa hwa => ?_
      have hN := Blk.new wr 3 #[.int .i64 (k : Int)]
      have hsa : Same wr wa := by rw [hwa]; exact (Frm.refl _ _).alloc _
      rw [← hwa] at hN
      clear hwa
      refine Own.append_list (f := icell) rfl (.tmp 15) (.tmp 17) _ rfl Try.underlying26 info_int rfl (by omega) rfl ((HR.out).frm hsa (fun _ _ => id)) (fun _ => rfl) ((k : Int)) wr.heap.size 1 rfl hN (by simp [Value.oneCell', icell]) (by rw [HLK.out]; simp [maxLen] <;> omega) (by rw [HLK.out]; omega) ?_
      intro gg cap wb hOb hgb hat
      have HOb := Lib.hid hOb
      have HSb := Lib.hid (Same.app (HS.out) hsa hgb (HF.out))
      have HFb := Lib.hid (fresh_app (HS.out) hsa (HF.out) hat)
      clear hOb hgb hat hsa hN
      go_wp2
      go_roundw
      case rel => exact ⟨k + 1, _, cap, by omega, by go_num, rfl, HSb.out, HFb.out, by rw [HNX.out]; exact HOb.out⟩
      case measure => simp [intOf] <;> omega
    · obtain rfl : k = N := by omega
      have hl := HR.out
      rw [List.take_of_length_le (by rw [rng_len]; exact Nat.le_refl _)] at hl
      have HL := Lib.hid hl
      clear hl HR HLK
      go_wp2
      go_loopw [5, 7, 8, 9] (fun t s i jv wv => ∃ (j : Nat) (L P : List Int) (A1 : Option Addr) (C1 : Nat) (A2 : Option Addr) (C2 : Nat), j ≤ k ∧ i = .int .i64 j ∧ t = .slice A1 (k - j) C1 ∧ s = .slice A2 j C2 ∧ (P ++ L).Perm (rng k) ∧ P.length = j ∧ Same w wv ∧ Fresh w.heap.size A1 ∧ Fresh w.heap.size A2 ∧ OwnI wv 3 A1 (k - j) C1 L ∧ OwnI wv 3 A2 j C2 P ∧ (∀ b, rowOf A1 b → ¬ rowOf A2 b)) (fun _ _ i _ _ => k - (intOf i).toNat)
      case atStart => exact ⟨0, rng k, [], A2, C2, none, 0, by omega, rfl, rfl, rfl, by simp, rfl, HS.out, HF.out, fresh_none _, HL.out, Own.nil _ _ _ _, fun b _ ⟨a, h, _⟩ => by cases h⟩
      case round =>
        clear HL HS HF
        obtain ⟨j, L, P, A1, C1, A2, C2, hj, rfl, rfl, rfl, hpm, hpl, hs, hf1, hf2, ht, hp, hdis⟩ := hrel
        have HP := Lib.hid hp
        have HT := Lib.hid ht
        have HS := Lib.hid hs
        have HF1 := Lib.hid hf1
        have HF2 := Lib.hid hf2
        have HDIS := Lib.hid hdis
        have HPM := Lib.hid hpm
        have HPL := Lib.hid hpl
        by_cases hjk : j < k
        · have hjk1 : (j : Int) < k := by omega
          have hj0 : (0 : Int) ≤ j := by omega
          obtain ⟨m, hm⟩ : ∃ m, k - j = m + 1 := ⟨k - j - 1, by omega⟩
          rw [hm] at ht HT ⊢
          have hLl := ht.len
          obtain ⟨M, z, rfl⟩ : ∃ M z, L = M ++ [z] := by
            rcases List.eq_nil_or_concat L with h0 | ⟨M, z, h0⟩
            · subst h0; simp at hLl
            · exact ⟨M, z, by simpa using h0⟩
          have hMl : M.length = m := by simp at hLl; omega
          have hm12 : m < 12 := by omega
          have hmc : m + 1 ≤ C1 := Own.cap ht
          have HML := Lib.hid hMl
          have HM := Lib.hid hm
          have hz : (M ++ [z])[m]? = some z := by rw [← hMl]; simp
          obtain ⟨sb, hA1, htl, htz⟩ := ht.at1 (c := fun x => .int .i64 x) hz
          subst hA1
          clear hpm hpl hs hf1 hf2 hp hdis hLl hMl hm hz
          by_cases hbl : j < bs.length
          · obtain ⟨x, hx⟩ : ∃ x, bs[j]? = some x := ⟨_, List.getElem?_eq_getElem hbl⟩
            obtain ⟨b, off, rfl, hb, hc⟩ := U8.at1 (Sl.same H.out HS.out) hx
            obtain ⟨xv, hxv⟩ := x
            simp only at hc
            obtain ⟨d, hd⟩ : ∃ d, xv % (m + 1) = d := ⟨_, rfl⟩
            have hdl : d < m + 1 := by rw [← hd]; exact Nat.mod_lt _ (by omega)
            have hbl1 : (j : Int) < bs.length := by omega
            have hq1 : IntKind.i64.wrap (xv : Int) = xv := IntWalk.i64_in _ (by omega)
            have hq2 : (xv : Int).tmod ((m + 1 : Nat) : Int) = (d : Int) := by rw [← hd]; exact (Int.natCast_emod xv (m + 1)).symm ▸ (Int.tmod_eq_emod_of_nonneg (by omega))
            have hq3 : ¬ ((m + 1 : Nat) : Int) = 0 := by omega
            have hq4 : (xv : Int).tmod ((m : Int) + 1) = (d : Int) := by simpa using hq2
            have hq5 : ¬ ((m : Int) + 1) = 0 := by omega
            have hq7 : (xv : Int) % ((m : Int) + 1) = (d : Int) := by rw [← hd]; exact (Int.natCast_emod xv (m + 1)).symm
            have hq6 : IntKind.i64.wrap (d : Int) = d := IntWalk.i64_in _ (by omega)
            clear hd hx
            go_upto_region 12 with fail
            refine wp_read 7 ?_
            simp only [List.take_succ_cons, List.take_zero, List.drop_succ_cons, List.drop_zero]
            repeat (any_goals (first | go_big_quiet_step (fail) | quiet_step (fail)))
            refine wpQuiet_nil ?_
            clear hq1 hq2 hq3 hq4 hq5 hq6 hc hb
            go_upto_region 13 with fail
            simp only [hq7]
            clear hq7
            obtain ⟨y, hy⟩ : ∃ y, (M ++ [z])[d]? = some y := ⟨_, List.getElem?_eq_getElem (by simp; have := HML.out; omega)⟩
            obtain ⟨sb2, hA2, _, hty⟩ := HT.out.at1 (c := fun x => .int .i64 x) hy
            injection hA2 with hA2
            injection hA2 with hA2
            subst hA2
            obtain ⟨hto, hts⟩ := take_out hy
            have HTO := Lib.hid hto
            have HTS := Lib.hid hts
            have hd0 : (0 : Int) ≤ d := by omega
            have hd1 : (d : Int) < ((m + 1 : Nat) : Int) := by omega
            have hd2 : (d : Int) < (m : Int) + 1 := by omega
            have hdy : d < (M ++ [z]).length := lt_of_get hy
            have HDY := Lib.hid hdy
            clear hto hts hy hdy
            go_upto_region 13 with fail
            refine wp_read 5 ?_
            simp only [List.take_succ_cons, List.take_zero, List.drop_succ_cons, List.drop_zero]
            repeat (any_goals (first | go_big_quiet_step (fail) | quiet_step (fail)))
            refine wpQuiet_nil ?_
            refine wpList_plain rfl fun K hK => ?_
            go_simp
            refine hK _ _ ?_
            clear hK K
            refine list_world fun wa hwa => ?_
            have hN := Blk.new wr 3 #[.int .i64 y]
            have hsa : Same wr wa := by rw [hwa]; exact (Frm.refl _ _).alloc _
            rw [← hwa] at hN
            clear hwa
            refine Own.append_list (f := icell) rfl (.tmp 36) (.tmp 41) _ rfl Try.underlying26 info_int rfl (by omega) rfl ((HP.out).frm hsa (fun _ _ => id)) (fun _ => rfl) (y) wr.heap.size 1 rfl hN (by simp [Value.oneCell', icell]) (by rw [HPL.out]; simp [maxLen] <;> omega) (by rw [HPL.out]; omega) ?_
            intro gg cap wb hOb hgb hat
            have HOb := Lib.hid hOb
            have HSb := Lib.hid (Same.app (HS.out) hsa hgb (HF2.out))
            have HFb := Lib.hid (fresh_app (HS.out) hsa (HF2.out) hat)
            have hgs : gg ≠ sb := by
              intro h
              subst h
              rcases hat with h | h
              · exact HDIS.out gg ⟨_, rfl, rfl⟩ (ownBlock_row.1 h)
              · have := hsa.size
                omega
            have hTb := Own.frm (Own.frm HT.out hsa (fun _ _ => id)) (Frm.grown (S := fun b => rowOf A2 b) (Frm.refl _ _) hgb (fun g hg => .inl (ownBlock_row.1 hg))) (fun a ha h => by injection ha with ha; subst ha; exact HDIS.out _ ⟨_, rfl, rfl⟩ h)
            have htlb : sb < wb.heap.size := (hTb.block _ rfl)
            have hyb : wb.cell? ⟨sb, d, none⟩ = some (.int .i64 y) := by
              obtain ⟨y2, hy2⟩ : ∃ y2, (M ++ [z])[d]? = some y2 := ⟨_, List.getElem?_eq_getElem HDY.out⟩
              obtain ⟨sb3, hA3, _, hc3⟩ := hTb.at1 (c := fun x => .int .i64 x) hy2
              injection hA3 with hA3
              injection hA3 with hA3
              subst hA3
              obtain ⟨sb4, hA4, _, hc4⟩ := HT.out.at1 (c := fun x => .int .i64 x) hy2
              injection hA4 with hA4
              injection hA4 with hA4
              subst hA4
              rw [hty] at hc4
              rw [hc3, ← hc4]
            have hzb : wb.cell? ⟨sb, m, none⟩ = some (.int .i64 z) := by
              have hz : (M ++ [z])[m]? = some z := by rw [← HML.out]; simp
              obtain ⟨sb3, hA3, _, hc3⟩ := hTb.at1 (c := fun x => .int .i64 x) hz
              injection hA3 with hA3
              injection hA3 with hA3
              subst hA3
              exact hc3
            have hfr := Own.free hTb d
            have hst := Own.put1 (c := fun x => .int .i64 x) hTb (i := d) HDY.out z
            rw [HTS.out] at hst
            have hpop := Own.pop1 hst
            rw [List.length_set, HML.out] at hpop
            have HPOP := Lib.hid hpop
            have HGS := Lib.hid hgs
            clear hOb hgb hat hsa hN hgs hTb hst hpop htz hty htl
            have HOb2 := Lib.hid (Own.far (p := ⟨sb, d, none⟩) HOb.out (fun a ha h => by injection ha with ha; subst ha; exact HGS.out h) (.int .i64 z))
            have hsz : w.heap.size ≤ sb := HF1.out sb ⟨_, rfl, rfl⟩
            have HSb2 := Lib.hid (HSb.out.setNew d (.int .i64 z) hsz)
            have hq1 : IntKind.i64.wrap ((m : Int) + 1 - 1) = (m : Int) := by rw [IntWalk.i64_in _ (by omega)]; omega
            have hq2 : IntKind.i64.wrap (((m + 1 : Nat) : Int) - 1) = (m : Int) := by rw [IntWalk.i64_in _ (by omega)]; omega
            have hq3 : (0 : Int) ≤ m := by omega
            have hq4 : (m : Int) < ((m + 1 : Nat) : Int) := by omega
            have hq5 : (m : Int) < (m : Int) + 1 := by omega
            clear hsz
            go_wp2
            go_roundw
            case rel => exact ⟨j + 1, M.set d z, P ++ [y], some ⟨sb, 0, none⟩, C1, some ⟨gg, 0, none⟩, cap, by omega, by go_num, by have := HM.out; rw [show k - (j + 1) = m by omega], rfl, by
              have h1 := HTO.out.append_left P
              rw [List.append_assoc]
              exact h1.trans HPM.out, by rw [List.length_append, HPL.out]; rfl, HSb2.out, HF1.out, HFb.out, by have := HM.out; rw [show k - (j + 1) = m by omega]; exact HPOP.out, HOb2.out, fun b ⟨a, ha, h⟩ ⟨a', ha', h'⟩ => by
              injection ha with ha
              injection ha' with ha'
              subst ha ha'
              exact HGS.out (h'.trans h.symm)⟩
            case measure => simp [intOf] <;> omega
          · have hbl1 : ¬ (j : Int) < bs.length := by omega
            obtain ⟨d, hd⟩ : ∃ d : Nat, d = 0 := ⟨0, rfl⟩
            have hdl : d < m + 1 := by omega
            have hd0 : (0 : Int) = (d : Int) := by omega
            go_upto_region 13 with fail
            rw [hd0]
            clear hd0 hd
            obtain ⟨y, hy⟩ : ∃ y, (M ++ [z])[d]? = some y := ⟨_, List.getElem?_eq_getElem (by simp; have := HML.out; omega)⟩
            obtain ⟨sb2, hA2, _, hty⟩ := HT.out.at1 (c := fun x => .int .i64 x) hy
            injection hA2 with hA2
            injection hA2 with hA2
            subst hA2
            obtain ⟨hto, hts⟩ := take_out hy
            have HTO := Lib.hid hto
            have HTS := Lib.hid hts
            have hd0 : (0 : Int) ≤ d := by omega
            have hd1 : (d : Int) < ((m + 1 : Nat) : Int) := by omega
            have hd2 : (d : Int) < (m : Int) + 1 := by omega
            have hdy : d < (M ++ [z]).length := lt_of_get hy
            have HDY := Lib.hid hdy
            clear hto hts hy hdy
            go_upto_region 13 with fail
            refine wp_read 5 ?_
            simp only [List.take_succ_cons, List.take_zero, List.drop_succ_cons, List.drop_zero]
            repeat (any_goals (first | go_big_quiet_step (fail) | quiet_step (fail)))
            refine wpQuiet_nil ?_
            refine wpList_plain rfl fun K hK => ?_
            go_simp
            refine hK _ _ ?_
            clear hK K
            refine list_world fun wa hwa => ?_
            have hN := Blk.new wr 3 #[.int .i64 y]
            have hsa : Same wr wa := by rw [hwa]; exact (Frm.refl _ _).alloc _
            rw [← hwa] at hN
            clear hwa
            refine Own.append_list (f := icell) rfl (.tmp 36) (.tmp 41) _ rfl Try.underlying26 info_int rfl (by omega) rfl ((HP.out).frm hsa (fun _ _ => id)) (fun _ => rfl) (y) wr.heap.size 1 rfl hN (by simp [Value.oneCell', icell]) (by rw [HPL.out]; simp [maxLen] <;> omega) (by rw [HPL.out]; omega) ?_
            intro gg cap wb hOb hgb hat
            have HOb := Lib.hid hOb
            have HSb := Lib.hid (Same.app (HS.out) hsa hgb (HF2.out))
            have HFb := Lib.hid (fresh_app (HS.out) hsa (HF2.out) hat)
            have hgs : gg ≠ sb := by
              intro h
              subst h
              rcases hat with h | h
              · exact HDIS.out gg ⟨_, rfl, rfl⟩ (ownBlock_row.1 h)
              · have := hsa.size
                omega
            have hTb := Own.frm (Own.frm HT.out hsa (fun _ _ => id)) (Frm.grown (S := fun b => rowOf A2 b) (Frm.refl _ _) hgb (fun g hg => .inl (ownBlock_row.1 hg))) (fun a ha h => by injection ha with ha; subst ha; exact HDIS.out _ ⟨_, rfl, rfl⟩ h)
            have htlb : sb < wb.heap.size := (hTb.block _ rfl)
            have hyb : wb.cell? ⟨sb, d, none⟩ = some (.int .i64 y) := by
              obtain ⟨y2, hy2⟩ : ∃ y2, (M ++ [z])[d]? = some y2 := ⟨_, List.getElem?_eq_getElem HDY.out⟩
              obtain ⟨sb3, hA3, _, hc3⟩ := hTb.at1 (c := fun x => .int .i64 x) hy2
              injection hA3 with hA3
              injection hA3 with hA3
              subst hA3
              obtain ⟨sb4, hA4, _, hc4⟩ := HT.out.at1 (c := fun x => .int .i64 x) hy2
              injection hA4 with hA4
              injection hA4 with hA4
              subst hA4
              rw [hty] at hc4
              rw [hc3, ← hc4]
            have hzb : wb.cell? ⟨sb, m, none⟩ = some (.int .i64 z) := by
              have hz : (M ++ [z])[m]? = some z := by rw [← HML.out]; simp
              obtain ⟨sb3, hA3, _, hc3⟩ := hTb.at1 (c := fun x => .int .i64 x) hz
              injection hA3 with hA3
              injection hA3 with hA3
              subst hA3
              exact hc3
            have hfr := Own.free hTb d
            have hst := Own.put1 (c := fun x => .int .i64 x) hTb (i := d) HDY.out z
            rw [HTS.out] at hst
            have hpop := Own.pop1 hst
            rw [List.length_set, HML.out] at hpop
            have HPOP := Lib.hid hpop
            have HGS := Lib.hid hgs
            clear hOb hgb hat hsa hN hgs hTb hst hpop htz hty htl
            have HOb2 := Lib.hid (Own.far (p := ⟨sb, d, none⟩) HOb.out (fun a ha h => by injection ha with ha; subst ha; exact HGS.out h) (.int .i64 z))
            have hsz : w.heap.size ≤ sb := HF1.out sb ⟨_, rfl, rfl⟩
            have HSb2 := Lib.hid (HSb.out.setNew d (.int .i64 z) hsz)
            have hq1 : IntKind.i64.wrap ((m : Int) + 1 - 1) = (m : Int) := by rw [IntWalk.i64_in _ (by omega)]; omega
            have hq2 : IntKind.i64.wrap (((m + 1 : Nat) : Int) - 1) = (m : Int) := by rw [IntWalk.i64_in _ (by omega)]; omega
            have hq3 : (0 : Int) ≤ m := by omega
            have hq4 : (m : Int) < ((m + 1 : Nat) : Int) := by omega
            have hq5 : (m : Int) < (m : Int) + 1 := by omega
            clear hsz
            go_wp2
            go_roundw
            case rel => exact ⟨j + 1, M.set d z, P ++ [y], some ⟨sb, 0, none⟩, C1, some ⟨gg, 0, none⟩, cap, by omega, by go_num, by have := HM.out; rw [show k - (j + 1) = m by omega], rfl, by
              have h1 := HTO.out.append_left P
              rw [List.append_assoc]
              exact h1.trans HPM.out, by rw [List.length_append, HPL.out]; rfl, HSb2.out, HF1.out, HFb.out, by have := HM.out; rw [show k - (j + 1) = m by omega]; exact HPOP.out, HOb2.out, fun b ⟨a, ha, h⟩ ⟨a', ha', h'⟩ => by
              injection ha with ha
              injection ha' with ha'
              subst ha ha'
              exact HGS.out (h'.trans h.symm)⟩
            case measure => simp [intOf] <;> omega
        · obtain rfl : j = k := by omega
          have hLn : L = [] := by
            have h1 := ht.len
            rw [Nat.sub_self] at h1
            exact List.eq_nil_of_length_eq_zero h1.symm
          subst hLn
          have hperm : IsPerm P := .of_perm (by simpa using hpm)
          have HPP := Lib.hid hperm
          clear hpm hs hf1 hf2 ht hp hdis hperm
          go_wp2
          go_ret
          refine ⟨P, HPP.out, HPL.out, A2, C2, by rw [HPL.out]; rfl, ?_, HF2.out, HS.out⟩
          rw [HPL.out]
          exact HP.out
end Go.Proofs.Ytjgndclfbcijmaa


/- WholeShape: the walk. -/
namespace Go.Proofs.Ytjgndclfbcijmaa
open Go.RowKit Go.Tk Go.Maps

theorem add_off (b off j : Nat) : (⟨b, off, none⟩ : Addr).add j = ⟨b, off + j, none⟩ := by unfold Addr.add; split <;> simp_all
theorem tb_src {w : World} {A : Option Addr} {n : Nat} {ts : List Tb} (h : Sl w 2 Tb.cells A n ts) (hne : ts ≠ []) : ∃ ad, A = some ad ∧ ∀ j u, (ts.flatMap Tb.cells)[j]? = some u → w.cell? (ad.add j) = some u := by
  obtain ⟨b, off, rfl, _, _⟩ := h.get 0 _ (List.getElem?_eq_getElem (List.length_pos_iff.2 hne))
  refine ⟨_, rfl, fun j u hj => ?_⟩
  have hj2 : j = j / 2 * 2 + j % 2 := by omega
  rw [hj2, flat_get Tb.cells 2 (fun _ => rfl) ts (j / 2) (j % 2) (by omega)] at hj
  obtain ⟨t, ht, htc⟩ := Option.bind_eq_some_iff.1 hj
  obtain ⟨b2, off2, hA, _, hc⟩ := h.get (j / 2) t ht
  injection hA with hA
  injection hA with h1 h2
  subst h1 h2
  rw [add_off]
  have := hc (j % 2) (by omega)
  rw [htc, show off + j / 2 * 2 + j % 2 = off + j by omega] at this
  exact this
theorem or_shift2 {ab v : Nat} (hab : ab < 65536) (hv : v < 16) : bits .or .u64 (ab : Int) (IntKind.u64.wrap (2 ^ v)) = ((ab ||| 2 ^ v : Nat) : Int) := by
  have h1 : (2 : Nat) ^ v ≤ 2 ^ 16 := Nat.pow_le_pow_right (by omega) (by omega)
  have h2 : (2 : Int) ^ v = ((2 ^ v : Nat) : Int) := by rw [Int.natCast_pow]; rfl
  rw [h2]
  generalize 2 ^ v = pw at *
  rw [IntWalk.u64_in _ (by omega)]
  exact u64_or_nat ab pw (by omega) (by omega)
theorem var_ok (N : Nat) (h0 : 0 < N) (h16 : N ≤ 16) (w : World) : Calls Try.prog 6 #[.int .i64 N, .int .i64 0] w (RetTE w N (x0W N) 0) := by
  have h := Var_any N 0 w
  have h1 : varE N 0 = 0 := by
    unfold varE
    rw [show cntE N = 0 by unfold cntE; rw [if_neg (by omega), if_neg (by omega)], if_neg (by simp), if_neg (by omega)]
  unfold RetA at h
  rw [h1] at h
  exact h
theorem one_tab (w : World) (N : Int) (A : Option Addr) (L C : Nat) (ws : List Nat) (hL : L = ws.length) (h : OwnW w A L C ws) (hs : Small ws) :
    Sl (w.alloc (.cells #[.int .i64 N, .slice A L C] 30)) 2 Tb.cells (some ⟨w.heap.size, 0, none⟩) 1 [⟨N, A, C, ws⟩] ∧ (∀ t ∈ [(⟨N, A, C, ws⟩ : Tb)], TbOk (w.alloc (.cells #[.int .i64 N, .slice A L C] 30)) t) := by
  subst hL
  have hsm : Same w (w.alloc (.cells #[.int .i64 N, .slice A ws.length C] 30)) := (Frm.refl _ _).alloc _
  refine ⟨(Own.lit w 30 Tb.cells (m := 2) (fun _ => rfl) [⟨N, A, C, ws⟩] (by simp [maxLen]) rfl).sl (fun _ => rfl), fun t ht => ?_⟩
  obtain rfl := List.mem_singleton.1 ht
  exact ⟨Sl.same (h.sl ucell_len) hsm, hs⟩
set_option maxRecDepth 100000 in
set_option maxHeartbeats 32000000 in
theorem wshape_walk (av : Nat) (A1 : Option Addr) (n1 C1 : Nat) (rs : List WRow) (A2 : Option Addr) (n2 C2 : Nat) (bs : List (Fin 256)) (A3 : Option Addr) (n3 C3 : Nat) (cs : List (Fin 256)) (w : World) (hav : av < 256) (h1 : Sl w 1 WRow.cells A1 n1 rs) (hrs : ∀ r ∈ rs, RowIn w r) (hm : n1 ≤ 1048576) (h2 : U8 w A2 n2 bs) (h3 : U8 w A3 n3 cs) :
    Calls Try.prog 3 #[.int .u8 av, .slice A1 n1 C1, .slice A2 n2 C2, .slice A3 n3 C3] w fun e w' => e = .returned (.bool true) ∧ Below w.heap.size w w' := by
  obtain ⟨q, hq⟩ : ∃ q, av % 7 = q := ⟨_, rfl⟩
  have hq6 : q ≤ 6 := by omega
  have hq1 : IntKind.i64.wrap (av : Int) = av := IntWalk.i64_in _ (by omega)
  have hq2 : (av : Int).tmod 7 = (q : Int) := by rw [← hq, Int.tmod_eq_emod_of_nonneg (by omega)]; simp
  have hq3 : ¬ (7 : Int) = 0 := by omega
  have hq4 : (av : Int) % 7 = (q : Int) := by omega
  have hq5 : IntKind.i64.wrap (q : Int) = q := IntWalk.i64_in _ (by omega)
  clear hq
  obtain ⟨N, hN⟩ : ∃ N, N = q + 1 := ⟨_, rfl⟩
  have hN7 : N ≤ 7 := by omega
  have hN0 : 0 < N := by omega
  have hqN : (1 : Int) + (q : Int) = (N : Int) := by omega
  have hqw : IntKind.i64.wrap ((1 : Int) + (q : Int)) = (N : Int) := by rw [hqN]; exact IntWalk.i64_in _ (by omega)
  clear hN
  have hNN : ((N : Int) != (N : Int)) = false := by simp
  obtain ⟨zs, hzs⟩ : ∃ z, z = rs.map (fun r => tabW N r.us) := ⟨_, rfl⟩
  have hzl : zs.length = n1 := by rw [hzs, List.length_map]; exact h1.len.symm
  have hzf : ∀ z ∈ zs, FormN N z ∧ Small z := fun z hz => by
    rw [hzs] at hz
    obtain ⟨r, _, rfl⟩ := List.mem_map.1 hz
    exact ⟨tabW_form (by omega) r.us, tabW_small N r.us⟩
  have HT := Lib.hid (tables_any N A1 n1 C1 rs w (by omega) h1 hrs hm)
  rw [← hzs] at HT
  have HZL := Lib.hid hzl
  have HZF := Lib.hid hzf
  have H2 := Lib.hid h2
  have H3 := Lib.hid h3
  have HN0 := Lib.hid hN0
  clear h1 hrs h2 h3 hzs hzl hzf
  go_enter Try.func3, Try.ntmps3
  go_wp2_with (fail)
  refine HT.out.mono ?_
  rintro e w1 ⟨B, D, ts, rfl, hg⟩
  have HG := Lib.hid hg
  have hall : AllN N ts := fun t ht => by
    obtain ⟨e1, e2⟩ := hg.N t ht
    obtain ⟨e3, e4⟩ := HZF.out _ e2
    exact ⟨e1, e3, e4⟩
  have HALL := Lib.hid hall
  have HS := Lib.hid hg.same
  clear hg hall HT hq1 hq2 hq3 hq4 hq5 hqN hqw hav hq6
  go_wp2_with (fail)
  refine (order_any N A2 n2 C2 bs w1 (Sl.same H2.out HS.out) (by omega)).mono ?_
  rintro e w2 ⟨os, hop, hol, Ao, Co, rfl, hNL⟩
  rw [hol]
  have hs := hNL.2.2
  replace HG := Lib.hid (HG.out.next hs)
  replace HS := Lib.hid (HS.out.trans hs (fun _ _ h => h))
  have hio := Own.il hNL.1
  rw [hol] at hio
  have HIO := Lib.hid hio
  have hpo : PermN N os := ⟨hol, hop⟩
  have HPO := Lib.hid hpo
  have HE := Lib.hid (all_ok HALL.out hpo (by omega))
  have HL := Lib.hid hol
  clear hNL hs hio hpo hop hol
  go_wp2_with (fail)
  refine (var_ok N HN0.out (by omega) w2).mono ?_
  rintro e w3 ⟨Ax, Cx, rfl, hNT⟩
  have hs := hNT.2.2
  obtain ⟨Lx, hLx⟩ : ∃ z, z = (x0W N).length := ⟨_, rfl⟩
  have HOX := Lib.hid (show OwnW w3 Ax Lx Cx (x0W N) by rw [hLx]; exact hNT.1)
  rw [← hLx]
  have HLX := Lib.hid hLx
  replace HG := Lib.hid (HG.out.next hs)
  replace HS := Lib.hid (HS.out.trans hs (fun _ _ h => h))
  replace HIO := Lib.hid (Sl.same HIO.out hs)
  clear hNT hs hLx
  go_upto_region 5 with fail
  refine wp_world fun w4 hw => ?_
  have hs : Same w3 w4 := by rw [hw]; exact (Frm.refl _ _).alloc _
  have hB := Blk.new w3 30 #[.int .i64 N, .slice Ax Lx Cx]
  rw [← hw] at hB
  obtain ⟨XB, hXB⟩ : ∃ z, z = w3.heap.size := ⟨_, rfl⟩
  rw [← hXB] at hB ⊢
  have cX0 : w4.cell? ⟨XB, 0, none⟩ = some (.int .i64 N) := hB.cell 0
  have cX1 : w4.cell? ⟨XB, 1, none⟩ = some (.slice Ax Lx Cx) := hB.cell 1
  have lX := hB.lt
  replace HG := Lib.hid (HG.out.next hs)
  replace HS := Lib.hid (HS.out.trans hs (fun _ _ h => h))
  replace HIO := Lib.hid (Sl.same HIO.out hs)
  replace HOX := Lib.hid (Own.frm HOX.out hs (fun _ _ => id))
  clear hw hs hB hXB
  go_wp2_with (fail)
  refine call_world fun w5 hw => ?_
  have hs : Same w4 w5 := by rw [hw]; exact (Frm.refl _ _).alloc _
  have ho1 := one_tab w4 N Ax Lx Cx (x0W N) HLX.out HOX.out (fun z hz => tab_lt z hz)
  rw [← hw] at ho1
  replace HG := Lib.hid (HG.out.next hs)
  replace HS := Lib.hid (HS.out.trans hs (fun _ _ h => h))
  replace HIO := Lib.hid (Sl.same HIO.out hs)
  replace HOX := Lib.hid (Own.frm HOX.out hs (fun _ _ => id))
  clear hs hw cX0 cX1 lX
  have hx1 := x0_one HPO.out HN0.out (by omega) Ax Cx
  refine (size_any _ 1 _ [⟨N, Ax, Cx, x0W N⟩] Ao N Co os w5 ho1.1 ho1.2 (by omega) HIO.out (by omega)).mono ?_
  rintro e w6 ⟨rfl, hs⟩
  rw [hx1.1, hx1.2]
  clear hx1 ho1
  replace HG := Lib.hid (HG.out.next hs)
  replace HS := Lib.hid (HS.out.trans hs (fun _ _ h => h))
  replace HIO := Lib.hid (Sl.same HIO.out hs)
  replace HOX := Lib.hid (Own.frm HOX.out hs (fun _ _ => id))
  clear hs HOX HLX
  obtain ⟨ys, hys⟩ : ∃ z, z = prL ts os := ⟨_, rfl⟩
  have hyl : ys.length = N := by rw [hys, ← HL.out]; unfold prL; rw [if_pos HE.out, proL_len]
  obtain ⟨z, hz⟩ : ∃ z, z = ys.sum := ⟨_, rfl⟩
  have hzz : (z != z) = false := by simp
  have HYL := Lib.hid hyl
  have HYS := Lib.hid hys
  have HZ := Lib.hid hz
  have HSZ := Lib.hid (fun (Bx : Option Addr) (m Dx : Nat) (xs : List Tb) (Aq : Option Addr) (Cq : Nat) (qs : List Int) (wv : World) (hp1 : prE xs qs = 0) (hp2 : (prL xs qs).sum = z) (hsl : Sl wv 2 Tb.cells Bx m xs) (hok : ∀ t ∈ xs, TbOk wv t) (hm : m ≤ 8796093022210) (hq : IL wv Aq N qs) => show Calls Try.prog 7 #[.slice Bx m Dx, .slice Aq N Cq] wv (fun e w' => e = .returned (.tuple #[.int .i64 z, .int .i64 0]) ∧ Same wv w') by
    have h := size_any Bx m Dx xs Aq N Cq qs wv hsl hok hm hq (by omega)
    rw [hp1, hp2] at h
    exact h)
  clear hys hz hyl
  have HTS := Lib.hid (fun wv (hs : Same w6 wv) => (HG.out.next hs).ok (fun z hz => (HZF.out z hz).2))
  go_wp2_with (fail)
  refine (HSZ.out B n1 D ts Ao Co os w6 HE.out (by rw [HZ.out, HYS.out]) HG.out.sl (HTS.out w6 (Frm.refl _ _)) (by omega) HIO.out).mono ?_
  rintro e w7 ⟨rfl, hs⟩
  replace HG := Lib.hid (HG.out.next hs)
  replace HS := Lib.hid (HS.out.trans hs (fun _ _ h => h))
  replace HIO := Lib.hid (Sl.same HIO.out hs)
  clear hs HTS
  have hok : ∀ t ∈ ts, TbOk w7 t := HG.out.ok (fun z hz => (HZF.out z hz).2)
  go_wp2_with (fail)
  have hpf := profile_any B n1 D ts Ao N Co os w7 HG.out.sl hok (by omega) HIO.out (by omega)
  rw [HE.out, ← HYS.out] at hpf
  refine hpf.mono ?_
  rintro e w8 ⟨Ap, Cp, rfl, hNT⟩
  have hs := hNT.2.2
  have hip := Own.il hNT.1
  rw [HYL.out] at hip ⊢
  have HIP := Lib.hid hip
  replace HG := Lib.hid (HG.out.next hs)
  replace HS := Lib.hid (HS.out.trans hs (fun _ _ h => h))
  replace HIO := Lib.hid (Sl.same HIO.out hs)
  clear hs hNT hip hpf hok
  go_upto_region 10 with fail
  refine wp_region_lit ?_
  refine wpList_plain rfl fun K hK => ?_
  go_simp
  refine hK _ _ ?_
  clear hK K
  refine list_world fun w9 hw => ?_
  have hs : Same w8 w9 := by rw [hw]; exact (Frm.refl _ _).alloc _
  have hO0 := Own.lit w8 30 Tb.cells (m := 2) (fun _ => rfl) [] (by simp [maxLen]) (cs := #[]) rfl
  rw [← hw] at hO0
  obtain ⟨E0, hE0⟩ : ∃ z, z = w8.heap.size := ⟨_, rfl⟩
  rw [← hE0] at hO0 ⊢
  have hEw : w8.heap.size ≤ E0 := Nat.le_of_eq hE0.symm
  have HFR := Lib.hid hs
  have HO0 := Lib.hid hO0
  clear hw hE0 hs hO0
  refine wpList_read 1 ?_
  simp only [List.take_succ_cons, List.take_zero, List.drop_succ_cons, List.drop_zero]
  repeat (any_goals (first | go_big_quiet_step (fail) | quiet_step (fail)))
  refine wpQuiet_nil ?_
  refine wpList_plain rfl fun K hK => ?_
  refine Own.append_many (f := Tb.cells) (.tmp 81) (.tmp 82) _ rfl Try.underlying24 info_tb3 rfl (by omega) rfl HO0.out (fun _ => rfl) ts B D (by rw [← HG.out.own.len]; rfl) (fun hne => tb_src (HG.out.next HFR.out).sl hne) (by intro y _ u hu; simp [Tb.cells] at hu; rcases hu with rfl | rfl <;> rfl) (by have := HG.out.own.len; simp [maxLen] <;> omega) (by have := HG.out.own.len; simp <;> omega) ?_
  intro E1 D1 wa hO1 hg1 ha1
  refine hK _ _ ?_
  clear hK K
  have hsa : Same w8 wa := HFR.out.grown hg1 (fun g hg => .inr (by obtain ⟨a, ha, hb⟩ := ownBlock_row.1 hg; injection ha with ha; subst ha; subst hb; exact hEw))
  have hr1 : ∀ b, rowOf E1 b → w8.heap.size ≤ b := fun b hb => by
    rcases ha1 b hb with ⟨a, ha, hb2⟩ | h
    · injection ha with ha; subst ha; subst hb2; exact hEw
    · have := HFR.out.size; omega
  have HO1 := Lib.hid hO1
  have HR1 := Lib.hid hr1
  have HSA := Lib.hid hsa
  clear hg1 ha1 hsa hr1 hO1 HO0 HFR
  refine wpList_read 1 ?_
  simp only [List.take_succ_cons, List.take_zero, List.drop_succ_cons, List.drop_zero]
  repeat (any_goals (first | go_big_quiet_step (fail) | quiet_step (fail)))
  refine wpQuiet_nil ?_
  refine wpList_plain rfl fun K hK => ?_
  refine Own.append_many (f := Tb.cells) (.tmp 83) (.tmp 84) _ rfl Try.underlying24 info_tb3 rfl (by omega) rfl HO1.out (fun _ => rfl) ts B D (by rw [← HG.out.own.len]; rfl) (fun hne => tb_src (HG.out.next HSA.out).sl hne) (by intro y _ u hu; simp [Tb.cells] at hu; rcases hu with rfl | rfl <;> rfl) (by have := HG.out.own.len; simp [maxLen] <;> omega) (by have := HG.out.own.len; simp <;> omega) ?_
  intro E2 D2 wb hO2 hg2 ha2
  refine hK _ _ ?_
  clear hK K
  have hs := HSA.out.grown hg2 (fun g hg => .inr (HR1.out g (ownBlock_row.1 hg)))
  have hl2 : ([] ++ ts ++ ts).length = n1 + n1 := by have := HG.out.own.len; simp <;> omega
  rw [hl2] at hO2 ⊢
  have HO2 := Lib.hid hO2
  replace HG := Lib.hid (HG.out.next hs)
  replace HS := Lib.hid (HS.out.trans hs (fun _ _ h => h))
  replace HIO := Lib.hid (Sl.same HIO.out hs)
  replace HIP := Lib.hid (Sl.same HIP.out hs)
  clear hs hg2 ha2 hO2 hl2 HO1 HR1 HSA
  go_wp2_with (fail)
  have hall2 : AllN N ([] ++ ts ++ ts) := fun t ht => HALL.out t (by simpa using ht)
  have hok2 : ∀ t ∈ [] ++ ts ++ ts, TbOk wb t := fun t ht => HG.out.ok (fun z hz => (HZF.out z hz).2) t (by simpa using ht)
  have he2 := all_ok hall2 HPO.out (by omega)
  refine (HSZ.out E2 (n1 + n1) D2 ([] ++ ts ++ ts) Ao Co os wb he2 (by rw [prL_mem HE.out he2 (fun y => by simp), ← HYS.out, HZ.out]) (HO2.out.sl (fun _ => rfl)) hok2 (by omega) HIO.out).mono ?_
  rintro e wc ⟨rfl, hs⟩
  clear hall2 hok2 he2 HO2
  replace HG := Lib.hid (HG.out.next hs)
  replace HS := Lib.hid (HS.out.trans hs (fun _ _ h => h))
  replace HIO := Lib.hid (Sl.same HIO.out hs)
  replace HIP := Lib.hid (Sl.same HIP.out hs)
  clear hs
  go_wp2_with (fail)
  refine (order_any N A3 n3 C3 cs wc (Sl.same H3.out HS.out) (by omega)).mono ?_
  rintro e wd ⟨ps, hpp, hpl, Aq, Cq, rfl, hNL⟩
  rw [hpl]
  have hs := hNL.2.2
  replace HG := Lib.hid (HG.out.next hs)
  replace HS := Lib.hid (HS.out.trans hs (fun _ _ h => h))
  replace HIO := Lib.hid (Sl.same HIO.out hs)
  replace HIP := Lib.hid (Sl.same HIP.out hs)
  have hiq := Own.il hNL.1
  rw [hpl] at hiq
  have HIQ := Lib.hid hiq
  have HPQ := Lib.hid (show PermN N ps from ⟨hpl, hpp⟩)
  clear hNL hs hiq hpp hpl
  obtain ⟨us, hus⟩ : ∃ z, z = zs.map (rnT N ps) := ⟨_, rfl⟩
  have HUS := Lib.hid hus
  have HR := Lib.hid (GL.nil wd N us)
  obtain ⟨we, hwe⟩ : ∃ z, z = wd := ⟨_, rfl⟩
  subst hwe
  clear hus
  go_wp2
  go_loopw [23, 24] (fun l i wi => ∃ (k : Nat) (R : Option Addr) (E : Nat) (qs : List Tb), k ≤ n1 ∧ i = .int .i64 k ∧ l = .slice R k E ∧ GL we wi N us k R E qs) (fun _ i _ => n1 - (intOf i).toNat)
  case atStart => exact ⟨0, none, 0, [], by omega, rfl, rfl, HR.out⟩
  case round =>
    clear HR
    obtain ⟨k, R, E, qs, hk, rfl, rfl, hr⟩ := hrel
    by_cases hlt : k < n1
    · obtain ⟨t, ht⟩ : ∃ t, ts[k]? = some t := ⟨_, List.getElem?_eq_getElem (by rw [← HG.out.own.len]; exact hlt)⟩
      obtain ⟨bl, o, hA, hbl, hc⟩ := (Sl.same HG.out.sl hr.same).get k t ht
      obtain ⟨ht1, ht2, ht3⟩ := HG.out.rows k t ht
      have c0 : wr.cell? ⟨bl, o + k * 2, none⟩ = some (.int .i64 t.N) := hc 0 (by omega)
      have c1 : wr.cell? ⟨bl, o + k * 2 + 1, none⟩ = some (.slice t.A t.ws.length t.C) := hc 1 (by omega)
      subst hA
      rw [ht2] at c0
      have HU := Lib.hid (show us[k]? = some (rnT N ps t.ws) by rw [HUS.out, List.getElem?_map, ht3]; rfl)
      have HTO := Lib.hid (show TbOk wr ⟨(N : Int), t.A, t.C, t.ws⟩ from ⟨Sl.same (ht1.sl ucell_len) hr.same, (HZF.out _ (List.mem_of_getElem? ht3)).2⟩)
      have HTF := Lib.hid (HZF.out _ (List.mem_of_getElem? ht3)).1
      have HR := Lib.hid hr
      have hk0 : (0 : Int) ≤ k := by omega
      have hk1 : (k : Int) < n1 := by omega
      clear hc ht hr ht1 ht2 ht3
      go_wp2_with (fail)
      refine (ren_ok HPQ.out t.A t.C t.ws Aq N Cq wr HTO.out HTF.out (Sl.same HIQ.out HR.out.same) (by omega)).mono ?_
      rintro e wf ⟨At, Ct, rfl, hNT⟩
      obtain ⟨tw, htw⟩ : ∃ z, z = rnT N ps t.ws := ⟨_, rfl⟩
      rw [← htw] at hNT HU ⊢
      replace HR := Lib.hid (HR.out.next hNT.2.2)
      have HOT := Lib.hid hNT.1
      clear hNT htw HTO HTF c0 c1 hbl
      go_upto_region 21 with fail
      refine wp_world fun wg hw => ?_
      have hsc : Same wf wg := by rw [hw]; exact (Frm.refl _ _).alloc _
      have hBY : Blk wg wf.heap.size 30 #[.int .i64 N, .slice At tw.length Ct] := by rw [hw]; exact Blk.new _ _ _
      obtain ⟨Y, hY⟩ : ∃ z, z = wf.heap.size := ⟨_, rfl⟩
      rw [← hY] at hBY ⊢
      have cY0 : wg.cell? ⟨Y, 0, none⟩ = some (.int .i64 N) := hBY.cell 0
      have cY1 : wg.cell? ⟨Y, 1, none⟩ = some (.slice At tw.length Ct) := hBY.cell 1
      have lY := hBY.lt
      replace HR := Lib.hid (HR.out.next hsc)
      replace HOT := Lib.hid (Own.frm HOT.out hsc (fun _ _ => id))
      clear hw hY hBY hsc
      refine wp_region_lit ?_
      refine wpList_read 2 ?_
      simp only [List.take_succ_cons, List.take_zero, List.drop_succ_cons, List.drop_zero]
      repeat (any_goals (first | go_big_quiet_step (fail) | quiet_step (fail)))
      refine wpQuiet_nil ?_
      refine wpList_plain rfl fun K hK => ?_
      go_simp
      refine hK _ _ ?_
      clear hK K cY0 cY1 lY
      refine list_world fun wh hwd => ?_
      have hsd : Same wg wh := by rw [hwd]; exact (Frm.refl _ _).alloc _
      have hNc := Blk.new wg 30 #[.int .i64 N, .slice At tw.length Ct]
      rw [← hwd] at hNc
      clear hwd
      refine wpList_plain rfl fun K hK => ?_
      refine Own.grow (f := Tb.cells) (.tmp 131) (.tmp 133) _ rfl Try.underlying24 info_tb3 rfl rfl (Own.frm HR.out.own hsd (fun _ _ => id)) (fun _ => rfl) [⟨(N : Int), At, Ct, tw⟩] (by simp) ⟨wg.heap.size, 0, none⟩ 1 rfl (fun j u hj => news_of_blk hNc j u hj) (by simp [Tb.cells, Value.oneCell']) (by simp [maxLen] <;> omega) (by simp <;> omega) ?_
      intro g D' wi hOd _ hgr hat
      refine hK _ _ ?_
      clear hK K
      have HR2 := Lib.hid (HR.out.step hsd (t := ⟨(N : Int), At, Ct, tw⟩) (Own.frm HOT.out hsd (fun _ _ => id)) rfl HU.out hgr hOd hat)
      clear hgr hOd hat hNc hsd HR HOT
      go_wp2
      go_roundw
      case rel => exact ⟨k + 1, some ⟨g, 0, none⟩, D', _, by omega, by go_num, rfl, HR2.out⟩
      case measure => simp [intOf] <;> omega
    · obtain rfl : k = n1 := by omega
      have HR := Lib.hid hr
      have hs := hr.same
      clear hr
      replace HG := Lib.hid (HG.out.next hs)
      replace HS := Lib.hid (HS.out.trans hs (fun _ _ h => h))
      replace HIO := Lib.hid (Sl.same HIO.out hs)
      replace HIP := Lib.hid (Sl.same HIP.out hs)
      replace HIQ := Lib.hid (Sl.same HIQ.out hs)
      clear hs
      obtain ⟨wj, hwj⟩ : ∃ z, z = wr := ⟨_, rfl⟩
      subst hwj
      have hnl : (nmL ps os).length = N := by simp [nmL, HL.out]
      have HNM := Lib.hid hnl
      clear hnl
      go_wp2
      go_loopw [27, 28] (fun l i wi => ∃ (j : Nat) (Q : Option Addr) (G : Nat), j ≤ N ∧ i = .int .i64 j ∧ l = .slice Q j G ∧ OwnI wi 3 Q j G ((nmL ps os).take j) ∧ Fresh wj.heap.size Q ∧ Same wj wi) (fun _ i _ => N - (intOf i).toNat)
      case atStart => exact ⟨0, none, 0, by omega, rfl, rfl, Own.nil _ _ _ _, fresh_none _, Frm.refl _ _⟩
      case round =>
        obtain ⟨j, Q, G, hj, rfl, rfl, hob, hfb, hs⟩ := hrel
        by_cases hlj : j < N
        · obtain ⟨v, hv, hvn⟩ := IsPerm.at HPO.out.perm (show j < os.length by rw [HL.out]; exact hlj)
          rw [HL.out] at hvn
          obtain ⟨bo, oo, hAo, hbo, hcu⟩ := (Sl.same HIO.out hs).at1 hv
          obtain ⟨x, hx⟩ : ∃ x, ps[v]? = some x := ⟨_, List.getElem?_eq_getElem (by rw [HPQ.out.len]; exact hvn)⟩
          obtain ⟨bn, on, hAn, hbn, hcn⟩ := (Sl.same HIQ.out hs).at1 hx
          subst hAo hAn
          have htk : (nmL ps os).take (j + 1) = (nmL ps os).take j ++ [x] := by
            rw [List.take_add_one]
            congr 1
            unfold nmL
            rw [List.getElem?_map, hv, Option.map_some, Int.toNat_natCast, List.getD_eq_getElem?_getD, hx]
            rfl
          have HTK := Lib.hid htk
          have HOB := Lib.hid hob
          have HFB := Lib.hid hfb
          have HSB := Lib.hid hs
          have hj0 : (0 : Int) ≤ j := by omega
          have hj1 : (j : Int) < N := by omega
          have hv0 : (0 : Int) ≤ v := by omega
          have hv1 : (v : Int) < N := by omega
          clear hv hx htk hob hfb hs
          go_upto_region 26 with fail
          refine wp_region_lit ?_
          refine wpList_read 8 ?_
          simp only [List.take_succ_cons, List.take_zero, List.drop_succ_cons, List.drop_zero]
          repeat (any_goals (first | go_big_quiet_step (fail) | quiet_step (fail)))
          refine wpQuiet_nil ?_
          refine wpList_plain rfl fun K hK => ?_
          go_simp
          refine hK _ _ ?_
          clear hK K
          refine list_world fun wk hwc => ?_
          have hsc : Same wr wk := by rw [hwc]; exact (Frm.refl _ _).alloc _
          have hNc := Blk.new wr 3 #[.int .i64 x]
          rw [← hwc] at hNc
          clear hwc
          refine wpList_plain rfl fun K hK => ?_
          refine Own.grow (f := icell) (.tmp 140) (.tmp 148) _ rfl Try.underlying26 info_int rfl rfl (Own.frm HOB.out hsc (fun _ _ => id)) icell_len [x] (by simp) ⟨wr.heap.size, 0, none⟩ 1 rfl (fun j u hj => news_of_blk hNc j u hj) (by simp [icell, Value.oneCell']) (by simp [maxLen] <;> omega) (by simp <;> omega) ?_
          intro g D' wl hOd _ hgr hat
          refine hK _ _ ?_
          clear hK K
          have hsd : Same wj wl := (HSB.out.trans hsc (fun _ _ h => h)).grown hgr (fun b hb => .inr (HFB.out b (ownBlock_row.1 hb)))
          have hgF : Fresh wj.heap.size (some ⟨g, 0, none⟩) := by
            rcases hat with ⟨h1, _⟩ | ⟨h1, _⟩
            · rw [← h1]; exact HFB.out
            · have := HSB.out.size; have := hsc.size; exact fresh_some (by omega)
          have hod : OwnI wl 3 (some ⟨g, 0, none⟩) (j + 1) D' ((nmL ps os).take (j + 1)) := by rw [HTK.out]; exact hOd
          have HOD := Lib.hid hod
          have HSD := Lib.hid hsd
          have HGF := Lib.hid hgF
          clear hgr hOd hat hNc hsc hod hsd hgF HOB HFB HSB
          go_wp2
          go_roundw
          case rel => exact ⟨j + 1, some ⟨g, 0, none⟩, D', by omega, by go_num, rfl, HOD.out, HGF.out, HSD.out⟩
          case measure => simp [intOf] <;> omega
        · obtain rfl : j = N := by omega
          rw [List.take_of_length_le (by rw [HNM.out]; exact Nat.le_refl _)] at hob
          have HOB := Lib.hid (Own.il hob)
          replace HG := Lib.hid (HG.out.next hs)
          replace HS := Lib.hid (HS.out.trans hs (fun _ _ h => h))
          replace HIO := Lib.hid (Sl.same HIO.out hs)
          replace HIP := Lib.hid (Sl.same HIP.out hs)
          replace HIQ := Lib.hid (Sl.same HIQ.out hs)
          replace HR := Lib.hid (HR.out.next hs)
          clear hob hfb hs
          have hnm : prE qs (nmL ps os) = 0 ∧ (prL qs (nmL ps os)).sum = z := by
            have hrt : RnT os.length ps ts qs := by
              refine ⟨by have := HR.out.own.len; have := HG.out.own.len; omega, fun i x t hx ht => ?_⟩
              obtain ⟨_, e1, e2⟩ := HR.out.rows i t ht
              obtain ⟨_, _, e3⟩ := HG.out.rows i x hx
              rw [HUS.out, List.getElem?_map, e3] at e2
              rw [HL.out]
              exact ⟨e1, (Option.some.inj e2).symm⟩
            obtain ⟨e1, e2⟩ := names_law (fun t ht => (HALL.out t ht).2.2) HE.out (by rw [HL.out]; exact HPQ.out) hrt
            exact ⟨e1, by rw [e2, ← HYS.out, HZ.out]⟩
          have hqok : ∀ t ∈ qs, TbOk wr t := HR.out.ok (fun y hy => by
            rw [HUS.out] at hy
            obtain ⟨x, _, rfl⟩ := List.mem_map.1 hy
            exact fun u hu => tab_lt u hu)
          go_wp2_with (fail)
          refine (HSZ.out R k E qs Q G (nmL ps os) wr hnm.1 hnm.2 HR.out.sl hqok (by omega) HOB.out).mono ?_
          rintro e wm ⟨rfl, hs⟩
          clear hnm hqok
          replace HG := Lib.hid (HG.out.next hs)
          replace HS := Lib.hid (HS.out.trans hs (fun _ _ h => h))
          replace HIO := Lib.hid (Sl.same HIO.out hs)
          replace HIP := Lib.hid (Sl.same HIP.out hs)
          replace HIQ := Lib.hid (Sl.same HIQ.out hs)
          clear hs HOB HR HIQ
          have HBD := Lib.hid (fun i hi => prL_bound (xs := ts) (os := os) (n := k) HG.out.own.len.symm (by omega) i hi)
          rw [← HYS.out] at HBD
          have HVY := Lib.hid (fun (i v : Nat) (hv : os[i]? = some (v : Int)) => lev_any HE.out hv)
          rw [← HYS.out] at HVY
          go_wp2
          go_loopw [31, 32, 33] (fun s a i wi => ∃ c : Nat, c ≤ j ∧ i = .int .i64 c ∧ a = .int .u64 (abv ((os.map Int.toNat).take c) : Nat) ∧ s = .int .i64 (ys.take c).sum ∧ Same wm wi) (fun _ _ i _ => j - (intOf i).toNat)
          case atStart => exact ⟨0, by omega, rfl, by simp [abv], by simp, Frm.refl _ _⟩
          case round =>
            obtain ⟨c, hc, rfl, rfl, rfl, hs⟩ := hrel
            by_cases hlc : c < j
            · obtain ⟨v, hv, hvn⟩ := IsPerm.at HPO.out.perm (show c < os.length by rw [HL.out]; exact hlc)
              rw [HL.out] at hvn
              obtain ⟨bo, oo, hAo, hbo, hcu⟩ := (Sl.same HIO.out hs).at1 hv
              obtain ⟨hle, hly⟩ := HVY.out c v hv
              obtain ⟨bp, op, hAp, hbp, hcp⟩ := (Sl.same HIP.out hs).at1 hly
              subst hAo hAp
              have hlt16 : ∀ z ∈ (os.map Int.toNat).take c, z < 16 := fun z hz => by
                have := nats_lt HPO.out.perm z hz
                rw [HL.out] at this
                omega
              have hab : abv ((os.map Int.toNat).take c) < 65536 := abv_lt (nn := 16) hlt16
              have htk : (os.map Int.toNat).take (c + 1) = (os.map Int.toNat).take c ++ [v] := by rw [List.take_add_one, List.getElem?_map, hv]; rfl
              have hor : abv ((os.map Int.toNat).take (c + 1)) = abv ((os.map Int.toNat).take c) ||| 2 ^ v := by rw [htk, abv_snoc]
              have HOR := Lib.hid hor
              have hb1 := HBD.out (c + 1) (by rw [HYL.out]; exact hlc)
              have hsm := sum_snoc hly
              obtain ⟨x, hx⟩ : ∃ x, x = lvC ts (abv ((os.map Int.toNat).take c)) v := ⟨_, rfl⟩
              rw [← hx] at hsm hcp
              have hwr : IntKind.i64.wrap ((ys.take c).sum + (x : Int)) = (ys.take (c + 1)).sum := by rw [← hsm]; exact IntWalk.i64_in _ (by omega)
              have hxx : ((x : Int) != (x : Int)) = false := by simp
              have HSI := Lib.hid hs
              have hk0 : (0 : Int) ≤ c := by omega
              have hk1 : (c : Int) < j := by omega
              have HLV := Lib.hid (level_any B k D ts (abv ((os.map Int.toNat).take c)) (v : Int) wr (Sl.same HG.out.sl hs) (fun t ht => (HG.out.ok (fun z hz => (HZF.out z hz).2) t ht).same hs) (by omega) (by omega))
              rw [hle, ← hx] at HLV
              obtain ⟨ab, hab2⟩ : ∃ z, z = abv ((os.map Int.toNat).take c) := ⟨_, rfl⟩
              rw [← hab2] at hab HLV HOR ⊢
              clear hv hle hly hlt16 htk hor hb1 hsm hx hs hab2
              go_wp2_with (fail)
              refine HLV.out.mono ?_
              rintro e wn ⟨rfl, hs⟩
              have hc2 := (hs.cell (p := ⟨bo, oo + c, none⟩) hbo id).trans hcu
              have hcp2 := (hs.cell (p := ⟨bp, op + c, none⟩) hbp id).trans hcp
              have hbo2 := Nat.lt_of_lt_of_le hbo hs.size
              have hbp2 := Nat.lt_of_lt_of_le hbp hs.size
              have HS4 := Lib.hid (HSI.out.trans hs (fun _ _ h => h))
              clear hs hcu hcp hbo hbp HLV
              have hv00 : (0 : Int) ≤ v := by omega
              have hvm : min v 64 = v := by omega
              have hor : bits .or .u64 (ab : Int) (IntKind.u64.wrap (2 ^ v)) = ((abv ((os.map Int.toNat).take (c + 1)) : Nat) : Int) := by
                rw [HOR.out]
                exact or_shift2 hab (by omega)
              go_upto_region 34 with fail
              clear hor
              go_wp2
              go_roundw
              case rel => exact ⟨c + 1, by omega, by go_num, rfl, rfl, HS4.out⟩
              case measure => simp [intOf] <;> omega
            · obtain rfl : c = j := by omega
              have hsum : (ys.take c).sum = z := by rw [List.take_of_length_le (by rw [HYL.out]; exact Nat.le_refl _), HZ.out]
              rw [hsum]
              clear hsum
              replace HG := Lib.hid (HG.out.next hs)
              replace HS := Lib.hid (HS.out.trans hs (fun _ _ h => h))
              replace HIO := Lib.hid (Sl.same HIO.out hs)
              replace HIP := Lib.hid (Sl.same HIP.out hs)
              clear hs
              have hzt : (z == z) = true := by simp
              have HUN := Lib.hid (unused_any c B k D ts Ao Co os Ap Cp wr HG.out.sl (HG.out.ok (fun z hz => (HZF.out z hz).2)) HALL.out HPO.out (by omega) (by omega) HIO.out (by rw [← HYS.out]; exact HIP.out))
              go_wp2_with (fail)
              refine HUN.out.mono ?_
              rintro e wo ⟨rfl, hs⟩
              have HFIN := Lib.hid ((HS.out.trans hs (fun _ _ h => h)).to_below (Nat.le_refl _) (fun _ _ => id))
              clear hs
              go_wp2
              go_ret
              exact ⟨rfl, HFIN.out⟩
end Go.Proofs.Ytjgndclfbcijmaa


/- The walk of WholeShape beside the given rows. -/
namespace Go.Proofs.Ytjgndclfbcijmaa
open Go.RowKit Go.Tk
theorem bulk_pos {H : Type} : ∀ d : DataW H, 1 ≤ Rows.uptoBulk d := by
  intro d
  unfold Rows.uptoBulk
  split <;> omega
theorem bulk_len {H : Type} : ∀ ds : List (DataW H), ds.length ≤ Rows.uptoBulkAll ds
  | [] => Nat.zero_le _
  | d :: ds => by
    have h1 := bulk_len ds
    have h2 := bulk_pos d
    unfold Rows.uptoBulkAll
    rw [List.length_cons]
    omega
theorem bulk_mem {H : Type} {d : DataW H} : ∀ {ds : List (DataW H)}, d ∈ ds → Rows.uptoBulk d ≤ Rows.uptoBulkAll ds
  | [], h => by cases h
  | e :: ds, h => by
    unfold Rows.uptoBulkAll
    rcases List.mem_cons.1 h with rfl | h
    · omega
    · have := bulk_mem h
      omega
theorem upto_len {H : Type} {ds : List (DataW H)} (h : Rows.uptoSmall H ds = true) : ∀ xs ys, DataW.slice xs ys ∈ ds → xs.length ≤ 1048576 := fun xs ys hm => by
  have h1 := bulk_mem hm
  have h2 := bulk_len xs
  unfold Rows.uptoSmall at h
  rw [decide_eq_true_eq] at h
  unfold Rows.uptoBulk at h1
  omega
end Go.Proofs.Ytjgndclfbcijmaa
