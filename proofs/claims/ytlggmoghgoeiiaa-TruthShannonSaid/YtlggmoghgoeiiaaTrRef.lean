/- Truth tables: the reference's words, Form, bit, with, count. -/
import Derived.Test.YtlggmoghgoeiiaaTrEx
namespace Go.Proofs.Ytlggmoghgoeiiaa
open Go.RowKit Go.Tk

set_option maxHeartbeats 1000000 in
theorem rwords_any (n : Nat) (w : World) (h : n ≤ 16) : Calls Try.prog 61 #[.int .i64 n] w fun e w' => e = .returned (.int .i64 (nw n : Nat)) ∧ w = w' := by
  obtain ⟨K, hK⟩ : ∃ K, nw n = K := ⟨_, rfl⟩
  rw [hK]
  have HK := Lib.hid hK
  clear hK
  go_enter Try.func61, Try.ntmps61
  go_wp2
  go_loopw [3, 4] (fun s i wr => ∃ m : Nat, (m + 6 ≤ n ∨ m = 0) ∧ i = .int .i64 ((m : Int) + 6) ∧ s = .int .i64 ((2 ^ m : Nat) : Int) ∧ w = wr) (fun _ i _ => n + 7 - (intOf i).toNat)
  case atStart => exact ⟨0, by omega, rfl, rfl, rfl⟩
  case round =>
    obtain ⟨m, hm, rfl, rfl, rfl⟩ := hrel
    by_cases hlt : (m : Int) + 6 < n
    · have hp : 2 ^ m ≤ 2 ^ 10 := Nat.pow_le_pow_right (by omega) (by omega)
      have hst : 2 ^ (m + 1) = 2 ^ m * 2 := Nat.pow_succ 2 m
      generalize 2 ^ m = p at hp hst ⊢
      have hq : wrap64 ((p : Int) * 2) = ((p * 2 : Nat) : Int) := by rw [IntWalk.wrap64_in _ (by omega)]; simp
      have hq1 : wrap64 ((m : Int) + 6 + 1) = ((m + 1 : Nat) : Int) + 6 := by rw [IntWalk.wrap64_in _ (by omega)]; omega
      have HST := Lib.hid hst
      clear hst
      go_wp2
      go_roundw
      case rel => exact ⟨m + 1, by omega, by go_num, by rw [HST.out]; go_num, trivial⟩
      case measure => simp [intOf]; omega
    · have hfin : 2 ^ m = K := by
        rw [← HK.out]
        unfold nw
        split
        · rw [show m = 0 by omega]
        · rw [show m = n - 6 by omega]
      rw [hfin]
      clear hfin
      go_wp2
      go_ret
      exact ⟨rfl, rfl⟩
theorem bit_int (i v : Nat) : (((i : Int) / ((2 ^ v : Nat) : Int) % 2) == 1) = i.testBit v := by
  rw [testBit_dm, ← Int.natCast_ediv, Bool.eq_iff_iff, beq_iff_eq, decide_eq_true_eq]
  generalize i / 2 ^ v = x
  omega
theorem bit_any (i v : Nat) (w : World) (hv : v ≤ 63) : Calls Try.prog 68 #[.int .i64 i, .int .i64 v] w fun e w' => e = .returned (.bool (i.testBit v)) ∧ w = w' := by
  have hb := bit_int i v
  have h1 : (i : Int) / ((2 ^ v : Nat) : Int) = ((i / 2 ^ v : Nat) : Int) := (Int.natCast_ediv i (2 ^ v)).symm
  have h2 : i / 2 ^ v ≤ i := Nat.div_le_self _ _
  have h3 : (2 : Int) ^ v = ((2 ^ v : Nat) : Int) := pow_int v
  have hv0 : (0 : Int) ≤ v := by omega
  rw [h1] at hb
  have h4 : (i : Int) / (2 : Int) ^ v = ((i / 2 ^ v : Nat) : Int) := by rw [h3, h1]
  clear h3 h1
  generalize i / 2 ^ v = q at *
  go_enter Try.func68, Try.ntmps68
  go_wp2
  go_ret
  exact ⟨rfl, rfl⟩
set_option maxHeartbeats 1000000 in
theorem with_any (i v : Nat) (b : Bool) (w : World) (hi : i < 1048576) (hv : v ≤ 20) : Calls Try.prog 55 #[.int .i64 i, .int .i64 v, .bool b] w fun e w' => e = .returned (.int .i64 (wth i v b : Nat)) ∧ w = w' := by
  have hp : 2 ^ v ≤ 2 ^ 20 := Nat.pow_le_pow_right (by omega) hv
  have hbt := fun w => bit_any i v w (by omega)
  have hge : i.testBit v = true → 2 ^ v ≤ i := Nat.ge_two_pow_of_testBit
  have hv0 : (0 : Int) ≤ v := by omega
  have hsw : wrap64 ((2 : Int) ^ v) = ((2 ^ v : Nat) : Int) := by
    rw [pow_int]
    generalize 2 ^ v = p at hp
    exact IntWalk.wrap64_in _ (by omega)
  have hsw2 : IntKind.i64.wrap ((2 : Int) ^ v) = ((2 ^ v : Nat) : Int) := by
    rw [pow_int]
    generalize 2 ^ v = p at hp
    exact IntWalk.i64_in _ (by omega)
  unfold wth
  obtain ⟨t, ht⟩ : ∃ t, i.testBit v = t := ⟨_, rfl⟩
  rw [ht] at hbt hge ⊢
  clear ht
  generalize 2 ^ v = p at *
  have hm : v ≤ 63 := by omega
  clear hv
  have HBT := Lib.hid hbt
  clear hbt
  cases t <;> cases b
  · have hq : wrap64 ((i : Int) + p) = ((i + p : Nat) : Int) := by rw [IntWalk.wrap64_in _ (by omega)]; omega
    rw [if_neg (by decide)]
    clear hge
    go_enter Try.func55, Try.ntmps55
    go_wp2_with (fail)
    refine (HBT.out w).mono ?_
    rintro e w2 ⟨rfl, rfl⟩
    go_wp2
    go_ret
    exact ⟨ret_int (by omega), rfl⟩
  · have hq : wrap64 ((i : Int) + p) = ((i + p : Nat) : Int) := by rw [IntWalk.wrap64_in _ (by omega)]; omega
    rw [if_neg (by decide), if_pos rfl]
    clear hge
    go_enter Try.func55, Try.ntmps55
    go_wp2_with (fail)
    refine (HBT.out w).mono ?_
    rintro e w2 ⟨rfl, rfl⟩
    go_wp2
    go_ret
    exact ⟨ret_int (by omega), rfl⟩
  · have hpi : p ≤ i := hge rfl
    have hq : wrap64 ((i : Int) - p) = ((i - p : Nat) : Int) := by rw [IntWalk.wrap64_in _ (by omega)]; omega
    have hq2 : wrap64 (((i - p : Nat) : Int) + p) = ((i - p + p : Nat) : Int) := by rw [IntWalk.wrap64_in _ (by omega)]; omega
    rw [if_pos rfl, if_neg (by decide)]
    clear hge
    go_enter Try.func55, Try.ntmps55
    go_wp2_with (fail)
    refine (HBT.out w).mono ?_
    rintro e w2 ⟨rfl, rfl⟩
    go_wp2
    go_ret
    exact ⟨ret_int (by omega), rfl⟩
  · have hpi : p ≤ i := hge rfl
    have hq : wrap64 ((i : Int) - p) = ((i - p : Nat) : Int) := by rw [IntWalk.wrap64_in _ (by omega)]; omega
    have hq2 : wrap64 (((i - p : Nat) : Int) + p) = ((i - p + p : Nat) : Int) := by rw [IntWalk.wrap64_in _ (by omega)]; omega
    rw [if_pos rfl]
    clear hge
    go_enter Try.func55, Try.ntmps55
    go_wp2_with (fail)
    refine (HBT.out w).mono ?_
    rintro e w2 ⟨rfl, rfl⟩
    go_wp2
    go_ret
    exact ⟨ret_int (by omega), rfl⟩
theorem rcount_any (n : Int) (w : World) : Calls Try.prog 65 #[.int .i64 n] w fun e w' => e = .returned (.int .i64 (cntE n)) ∧ w = w' := by
  by_cases h0 : n < 0
  · have hf : cntE n = 1 := by unfold cntE; rw [if_pos h0]
    rw [hf]
    clear hf
    go_enter Try.func65, Try.ntmps65
    go_wp2
    go_ret
    exact ⟨rfl, rfl⟩
  · by_cases h1 : n > 16
    · have hf : cntE n = 6 := by unfold cntE; rw [if_neg h0, if_pos (by omega)]
      rw [hf]
      clear hf
      go_enter Try.func65, Try.ntmps65
      go_wp2
      go_ret
      exact ⟨rfl, rfl⟩
    · have hf : cntE n = 0 := by unfold cntE; rw [if_neg h0, if_neg (by omega)]
      rw [hf]
      clear hf
      go_enter Try.func65, Try.ntmps65
      go_wp2
      go_ret
      exact ⟨rfl, rfl⟩
end Go.Proofs.Ytlggmoghgoeiiaa
