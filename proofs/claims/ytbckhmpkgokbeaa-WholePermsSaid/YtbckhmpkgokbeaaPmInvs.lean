/- Permutations: Inversions of both. -/
import Derived.Test.YtbckhmpkgokbeaaPmInv
namespace Go.Proofs.Ytbckhmpkgokbeaa
open Go.RowKit Go.Tk

theorem invC_le (p : List Int) : invC p ≤ p.length * p.length := by
  induction p with
  | nil => simp [invC]
  | cons x p ih =>
    have := List.countP_le_length (p := fun y => decide (x > y)) (l := p)
    simp only [invC, List.length_cons]
    rw [Nat.add_mul, Nat.mul_add]
    omega
theorem invC_le64 {p : List Int} (h : p.length ≤ 64) : invC p ≤ 4096 := Nat.le_trans (invC_le p) (Nat.mul_le_mul h h)
def incN (xs : List Int) : Nat := if chk xs = 0 then invC xs else 0
theorem countP_snoc {α : Type} (f : α → Bool) (l : List α) (x : α) : (l ++ [x]).countP f = l.countP f + if f x then 1 else 0 := by
  rw [List.countP_append, List.countP_cons, List.countP_nil, Nat.zero_add]

set_option maxHeartbeats 2000000 in
theorem inversions_any (A : Option Addr) (n C : Nat) (xs : List Int) (w : World) (h : IL w A n xs) (hr : n * 8 ≤ 140737488351232) :
    Calls Try.prog 10 #[.slice A n C] w fun e w' => e = .returned (.tuple #[.int .i64 (incN xs), .int .i64 (chk xs)]) ∧ Same w w' := by
  obtain rfl := h.len
  obtain ⟨c, hcc⟩ : ∃ c, chk xs = c := ⟨_, rfl⟩
  have HC := Lib.hid hcc
  have H := Lib.hid h
  by_cases hc : c = 0
  · have hy : incN xs = invC xs := by unfold incN; rw [hcc, if_pos hc]
    rw [hy, hcc]
    subst hc
    have h64 := (chk_ok.1 hcc).2
    clear h hcc hy
    go_enter Try.func10, Try.ntmps10
    go_wp2_with (fail)
    refine (check_any A _ C xs w H.out hr).mono ?_
    rintro e w1 ⟨rfl, hs1⟩
    rw [HC.out]
    go_wp2
    go_loopw [5, 15] (fun s i wr => ∃ k : Nat, k ≤ xs.length ∧ i = .int .i64 k ∧ s = .int .i64 (invC (xs.take k) : Nat) ∧ Same w wr) (fun _ i _ => xs.length - (intOf i).toNat)
    case atStart => exact ⟨0, by omega, rfl, rfl, hs1⟩
    case round =>
      clear hs1
      obtain ⟨k, hk, rfl, rfl, hs⟩ := hrel
      by_cases hlt : k < xs.length
      · obtain ⟨y, hy⟩ : ∃ y, xs[k]? = some y := ⟨_, List.getElem?_eq_getElem hlt⟩
        have hi0 : (0 : Int) ≤ k := by omega
        have hi1 : (k : Int) < xs.length := by omega
        have hb := invC_le64 (p := xs.take k) (by rw [List.length_take]; omega)
        obtain ⟨n0, hn0⟩ : ∃ n0, invC (xs.take k) = n0 := ⟨_, rfl⟩
        rw [hn0] at hb ⊢
        have HN0 := Lib.hid hn0
        have HY := Lib.hid hy
        have HS := Lib.hid hs
        clear hn0 hy hs
        go_wp2
        go_loopw [5, 19] (fun s i wv => ∃ m : Nat, m ≤ k ∧ i = .int .i64 m ∧ s = .int .i64 ((n0 + (xs.take m).countP (fun x => decide (x > y)) : Nat) : Int) ∧ Same w wv) (fun _ i _ => k - (intOf i).toNat)
        case atStart => exact ⟨0, by omega, rfl, by simp, HS.out⟩
        case round =>
          obtain ⟨m, hm, rfl, rfl, hsv⟩ := hrel
          have hcl := List.countP_le_length (p := fun x => decide (x > y)) (l := xs.take m)
          rw [List.length_take] at hcl
          by_cases hmk : m < k
          · obtain ⟨x, hx⟩ : ∃ x, xs[m]? = some x := ⟨_, List.getElem?_eq_getElem (by omega)⟩
            obtain ⟨b, off, rfl, hb1, hc1⟩ := (Sl.same H.out hsv).at1 hx
            obtain ⟨b2, off2, hA2, hb2, hc2⟩ := (Sl.same H.out hsv).at1 HY.out
            injection hA2 with hA2
            injection hA2 with hA2 hA3
            subst hA2 hA3
            have hj0 : (0 : Int) ≤ m := by omega
            have hj1 : (m : Int) < k := by omega
            have hj2 : (m : Int) < xs.length := by omega
            have hnx := countP_snoc (fun x => decide (x > y)) (xs.take m) x
            rw [← take_snoc hx] at hnx
            obtain ⟨cm, hcm⟩ : ∃ cm, (xs.take m).countP (fun x => decide (x > y)) = cm := ⟨_, rfl⟩
            rw [hcm] at hnx hcl ⊢
            have HNX := Lib.hid hnx
            have HSV := Lib.hid hsv
            clear hnx hsv hx hcm
            by_cases hgt : x > y
            · have hd : decide (x > y) = true := by simpa using hgt
              have HD := Lib.hid hd
              clear hd
              go_wp2
              refine wp_quiet (by kernel_rfl) (by kernel_rfl) ?_
              repeat (any_goals (first | go_big_quiet_step (fail) | quiet_step (fail)))
              refine wpQuiet_nil ?_
              rintro _ ⟨q, rfl⟩
              have HS2 := Lib.hid (HSV.out.trans (more_same _ q) (fun _ _ h => h))
              go_wp2
              go_roundw
              case rel => exact ⟨m + 1, by omega, by go_num, by rw [HNX.out, HD.out]; go_num, HS2.out⟩
              case measure => simp [intOf]; omega
            · have hd : decide (x > y) = false := by simpa using hgt
              have HD := Lib.hid hd
              clear hd
              go_wp2
              refine wp_quiet (by kernel_rfl) (by kernel_rfl) ?_
              repeat (any_goals (first | go_big_quiet_step (fail) | quiet_step (fail)))
              refine wpQuiet_nil ?_
              rintro _ ⟨q, rfl⟩
              have HS2 := Lib.hid (HSV.out.trans (more_same _ q) (fun _ _ h => h))
              go_wp2
              go_roundw
              case rel => exact ⟨m + 1, by omega, by go_num, by rw [HNX.out, HD.out]; rfl, HS2.out⟩
              case measure => simp [intOf]; omega
          · obtain rfl : m = k := by omega
            have hnx := invC_snoc (xs.take m) y
            rw [← take_snoc HY.out, HN0.out] at hnx
            have HNX := Lib.hid hnx
            clear hnx
            go_wp2
            go_roundw
            case rel => exact ⟨m + 1, by omega, by go_num, by rw [HNX.out], hsv⟩
            case measure => simp [intOf]; omega
      · obtain rfl : k = xs.length := by omega
        go_wp2
        go_ret2
        exact ⟨by rw [List.take_length]; rfl, hs⟩
  · have hy : incN xs = 0 := by unfold incN; rw [hcc, if_neg hc]
    rw [hy, hcc]
    have hc' : (c != 0) = true := by simpa using hc
    clear h hcc hc hy
    go_enter Try.func10, Try.ntmps10
    go_wp2_with (fail)
    refine (check_any A _ C xs w H.out hr).mono ?_
    rintro e w1 ⟨rfl, hs1⟩
    rw [HC.out]
    go_wp2
    go_ret2
    exact ⟨rfl, hs1⟩
theorem drop_cons {α : Type} {l : List α} {k : Nat} {x : α} (h : l[k]? = some x) : l.drop k = x :: l.drop (k + 1) := by
  have hl := lt_of_get h
  rw [List.getElem?_eq_getElem hl] at h
  injection h with h
  rw [List.drop_eq_getElem_cons hl, h]
end Go.Proofs.Ytbckhmpkgokbeaa
