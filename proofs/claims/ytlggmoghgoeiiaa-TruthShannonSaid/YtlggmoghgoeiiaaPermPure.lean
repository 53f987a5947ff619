/- Permutations as lists of integers: plain laws, no program in sight. -/
import Derived.Test.YtlggmoghgoeiiaaInts
namespace Go.Tk

/-- 0, 1, .. n-1 -/
def rng (n : Nat) : List Int := (List.range n).map (fun i : Nat => (i : Int))
theorem rng_len (n : Nat) : (rng n).length = n := by simp [rng]
theorem mem_rng {n : Nat} {x : Int} : x ∈ rng n ↔ 0 ≤ x ∧ x < n := by
  unfold rng
  simp only [List.mem_map, List.mem_range]
  constructor
  · rintro ⟨i, hi, rfl⟩; omega
  · intro h; exact ⟨x.toNat, by omega, by omega⟩
theorem rng_nodup (n : Nat) : (rng n).Nodup := by
  unfold rng List.Nodup
  rw [List.pairwise_map]
  exact (List.nodup_range (n := n)).imp (fun h h2 => h (by omega))
theorem rng_get {n i : Nat} (h : i < n) : (rng n)[i]? = some (i : Int) := by simp [rng, h]

/-- the pigeons -/
theorem sub_perm {α : Type} [DecidableEq α] : ∀ (l p : List α), l.Nodup → (∀ x ∈ l, x ∈ p) → p.length ≤ l.length → p.Perm l
  | [], p, _, _, h => by
    have : p = [] := List.eq_nil_of_length_eq_zero (by simpa using h)
    subst this
    exact .refl _
  | v :: l, p, hn, hs, h => by
    have hv : v ∈ p := hs v (by simp)
    have h1 := List.perm_cons_erase hv
    rw [List.nodup_cons] at hn
    refine h1.trans (.cons v (sub_perm l _ hn.2 (fun x hx => ?_) ?_))
    · exact (List.mem_erase_of_ne (by rintro rfl; exact hn.1 hx)).2 (hs x (by simp [hx]))
    · rw [List.length_erase_of_mem hv]
      simp at h
      omega

def IsPerm (p : List Int) : Prop := (∀ x, x ∈ p → 0 ≤ x ∧ x < p.length) ∧ p.Nodup
instance (p : List Int) : Decidable (IsPerm p) := by unfold IsPerm; infer_instance
theorem IsPerm.perm {p : List Int} (h : IsPerm p) : p.Perm (rng p.length) :=
  (sub_perm p (rng p.length) h.2 (fun x hx => mem_rng.2 (h.1 x hx)) (by rw [rng_len]; exact Nat.le_refl _)).symm
theorem IsPerm.of_perm {p : List Int} {n : Nat} (h : p.Perm (rng n)) : IsPerm p := by
  have hl : p.length = n := by rw [h.length_eq, rng_len]
  exact ⟨fun x hx => by rw [hl]; exact mem_rng.1 (h.mem_iff.1 hx), h.nodup_iff.2 (rng_nodup n)⟩
theorem IsPerm.mem {p : List Int} (h : IsPerm p) {v : Nat} (hv : v < p.length) : (v : Int) ∈ p := h.perm.mem_iff.2 (mem_rng.2 (by omega))
theorem isPerm_of_all {p : List Int} (h : ∀ v : Nat, v < p.length → (v : Int) ∈ p) : IsPerm p := by
  have := sub_perm (rng p.length) p (rng_nodup _) (fun x hx => by
    have h2 := mem_rng.1 hx
    have := h x.toNat (by omega)
    rwa [show ((x.toNat : Nat) : Int) = x by omega] at this) (by rw [rng_len]; exact Nat.le_refl _)
  exact .of_perm this

/-- what Check answers -/
def chk (p : List Int) : Int := if IsPerm p then (if 64 < p.length then 13 else 0) else 4
theorem chk_ok {p : List Int} : chk p = 0 ↔ IsPerm p ∧ p.length ≤ 64 := by
  unfold chk
  split
  · split
    · simp; omega
    · rename_i h1 h2; simp [h1]; omega
  · rename_i h; simp [h]
theorem chk_cases (p : List Int) : chk p = 0 ∨ chk p = 4 ∨ chk p = 13 := by
  unfold chk
  split
  · split
    · exact .inr (.inr rfl)
    · exact .inl rfl
  · exact .inr (.inl rfl)

/-- where x stands -/
def plc (p : List Int) (x : Int) : Int := if p.idxOf x < p.length then (p.idxOf x : Int) else -1
theorem plc_neg {p : List Int} {x : Int} : plc p x < 0 ↔ x ∉ p := by
  unfold plc
  split
  · rename_i h; simp [List.idxOf_lt_length_iff.1 h]
  · rename_i h
    have : x ∉ p := fun hm => h (List.idxOf_lt_length_iff.2 hm)
    simp [this]
end Go.Tk
