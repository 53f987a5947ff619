/- Permutations: Same of the reference; Rank of the program. -/
import Derived.Test.YtibjpclmiaimaaaPmInvs
import Derived.Test.YtibjpclmiaimaaaPmDPath
namespace Go.Proofs.Ytibjpclmiaimaaa
open Go.RowKit Go.Tk

set_option maxHeartbeats 1000000 in
theorem same_any (A B : Option Addr) (n m C D : Nat) (xs ys : List Int) (w : World) (h : IL w A n xs) (h2 : IL w B m ys) (hr : n * 8 ≤ 140737488351232) (hr2 : m * 8 ≤ 140737488351232) :
    Calls Try.prog 17 #[.slice A n C, .slice B m D] w fun e w' => e = .returned (.bool (decide (xs = ys))) ∧ Same w w' := by
  obtain rfl := h.len
  obtain rfl := h2.len
  have H := Lib.hid h
  have H2 := Lib.hid h2
  clear h h2
  by_cases hl : xs.length = ys.length
  · have hl1 : xs.length ≤ ys.length := by omega
    have hl2 : ys.length ≤ xs.length := by omega
    have hl' : ((xs.length : Int) != (ys.length : Int)) = false := by simp [hl]
    have HL := Lib.hid hl
    clear hl
    go_enter Try.func17, Try.ntmps17
    go_wp2
    go_loopw [5] (fun i wr => ∃ k : Nat, k ≤ xs.length ∧ i = .int .i64 k ∧ xs.take k = ys.take k ∧ Same w wr) (fun i _ => xs.length - (intOf i).toNat)
    case atStart => exact ⟨0, by omega, rfl, rfl, Frm.refl _ _⟩
    case round =>
      obtain ⟨k, hk, rfl, he, hs⟩ := hrel
      by_cases hlt : k < xs.length
      · obtain ⟨x, hx⟩ : ∃ x, xs[k]? = some x := ⟨_, List.getElem?_eq_getElem hlt⟩
        obtain ⟨y, hy⟩ : ∃ y, ys[k]? = some y := ⟨_, List.getElem?_eq_getElem (by omega)⟩
        obtain ⟨b, off, rfl, hb, hc⟩ := (Sl.same H.out hs).at1 hx
        obtain ⟨b2, off2, rfl, hb2, hc2⟩ := (Sl.same H2.out hs).at1 hy
        have hi0 : (0 : Int) ≤ k := by omega
        have hi1 : (k : Int) < xs.length := by omega
        have hi2 : (k : Int) < ys.length := by omega
        have HX := Lib.hid hx
        have HY := Lib.hid hy
        have HE := Lib.hid he
        have HS := Lib.hid hs
        clear hx hy he hs
        by_cases hxy : x = y
        · subst hxy
          go_wp2
          refine wp_quiet (by kernel_rfl) (by kernel_rfl) ?_
          repeat (any_goals (first | go_big_quiet_step (fail) | quiet_step (fail)))
          refine wpQuiet_nil ?_
          rintro _ ⟨q, rfl⟩
          have HS2 := Lib.hid (HS.out.trans (more_same _ q) (fun _ _ h => h))
          go_wp2
          go_roundw
          case rel => exact ⟨k + 1, by omega, by go_num, by rw [take_snoc HX.out, take_snoc HY.out, HE.out], HS2.out⟩
          case measure => simp [intOf]; omega
        · have hne : (x != y) = true := by simpa using hxy
          have hfin : decide (xs = ys) = false := by
            rw [decide_eq_false_iff_not]
            rintro rfl
            exact hxy (Option.some.inj (HX.out.symm.trans HY.out))
          have HFIN := Lib.hid hfin
          clear hxy hfin
          go_wp2
          refine wp_quiet (by kernel_rfl) (by kernel_rfl) ?_
          repeat (any_goals (first | go_big_quiet_step (fail) | quiet_step (fail)))
          refine wpQuiet_nil ?_
          rintro _ ⟨q, rfl⟩
          have HS2 := Lib.hid (HS.out.trans (more_same _ q) (fun _ _ h => h))
          go_wp2
          go_ret
          exact ⟨ret_bool HFIN.out.symm, HS2.out⟩
      · obtain rfl : k = xs.length := by omega
        have hfin : decide (xs = ys) = true := by
          rw [decide_eq_true_iff]
          rw [List.take_of_length_le (Nat.le_refl _), List.take_of_length_le (by omega)] at he
          exact he
        have HFIN := Lib.hid hfin
        clear he hfin
        go_wp2
        go_ret
        exact ⟨ret_bool HFIN.out.symm, hs⟩
  · have hl' : ((xs.length : Int) != (ys.length : Int)) = true := by simp; omega
    have hfin : decide (xs = ys) = false := by
      rw [decide_eq_false_iff_not]
      rintro rfl
      exact hl rfl
    have HFIN := Lib.hid hfin
    clear hl hfin
    go_enter Try.func17, Try.ntmps17
    go_wp2
    go_ret
    exact ⟨ret_bool HFIN.out.symm, Frm.refl _ _⟩

/-- how many less ones follow the i-th -/
def lessC (xs : List Int) (i : Nat) : Nat := (xs.drop (i + 1)).countP (fun y => decide (y < xs.getD i 0))
def rkS (xs : List Int) : Nat → Nat
  | 0 => 0
  | k + 1 => rkS xs k * (xs.length - k) + lessC xs k
def fact : Nat → Nat
  | 0 => 1
  | n + 1 => (n + 1) * fact n
/-- n (n-1) .. (n-k+1) -/
def dsc (n : Nat) : Nat → Nat
  | 0 => 1
  | k + 1 => dsc n k * (n - k)
theorem fact_pos : ∀ n, 0 < fact n
  | 0 => by decide
  | n + 1 => by unfold fact; exact Nat.mul_pos (by omega) (fact_pos n)
theorem dsc_fact (n : Nat) : ∀ k, k ≤ n → dsc n k * fact (n - k) = fact n
  | 0, _ => by simp [dsc]
  | k + 1, h => by
    have ih := dsc_fact n k (by omega)
    rw [show n - k = (n - (k + 1)) + 1 by omega, fact] at ih
    rw [dsc, Nat.mul_assoc, show n - k = n - (k + 1) + 1 by omega]
    exact ih
theorem fact_le20 {n : Nat} (h : n ≤ 20) : fact n ≤ 2432902008176640000 := by
  have : ∀ n, n ≤ 20 → fact n ≤ 2432902008176640000 := by decide
  exact this n h
theorem dsc_le {n k : Nat} (h : n ≤ 20) (hk : k ≤ n) : dsc n k ≤ 2432902008176640000 := by
  have h1 := dsc_fact n k hk
  have h2 := Nat.le_mul_of_pos_right (dsc n k) (fact_pos (n - k))
  have h3 := fact_le20 h
  omega
theorem lessC_lt (xs : List Int) {k : Nat} (h : k < xs.length) : lessC xs k + k < xs.length := by
  unfold lessC
  have := List.countP_le_length (p := fun y => decide (y < xs.getD k 0)) (l := xs.drop (k + 1))
  rw [List.length_drop] at this
  omega
theorem rkS_lt (xs : List Int) : ∀ k, k ≤ xs.length → rkS xs k < dsc xs.length k
  | 0, _ => by simp [rkS, dsc]
  | k + 1, h => by
    have ih := rkS_lt xs k (by omega)
    have hl := lessC_lt xs (show k < xs.length by omega)
    rw [rkS, dsc]
    have h1 : (rkS xs k + 1) * (xs.length - k) ≤ dsc xs.length k * (xs.length - k) := Nat.mul_le_mul_right _ ih
    rw [Nat.add_mul, Nat.one_mul] at h1
    omega
def rkE (xs : List Int) : Int := if chk xs = 4 then 4 else if 20 < xs.length then 6 else 0
def rkV (xs : List Int) : Nat := if rkE xs = 0 then rkS xs xs.length else 0
end Go.Proofs.Ytibjpclmiaimaaa
