/- Truth tables: column of the program. -/
import Derived.Test.YtlggmoghgoeiiaaTrLaid
namespace Go.Proofs.Ytlggmoghgoeiiaa
open Go.RowKit Go.Tk

theorem i64_and_nat (a b : Nat) (ha : a < 9223372036854775808) (hb : b < 9223372036854775808) : bits .and .i64 (a : Int) (b : Int) = ((a &&& b : Nat) : Int) := by
  have hx : a &&& b < 2 ^ 63 := Nat.and_lt_two_pow _ (by omega)
  show IntKind.i64.wrap ((BitVec.ofInt 64 (a : Int) &&& BitVec.ofInt 64 (b : Int)).toNat : Int) = _
  rw [BitVec.toNat_and, ofInt_u64 a (by omega), ofInt_u64 b (by omega)]
  exact IntWalk.i64_in _ (by omega)
theorem i64_or_nat (a b : Nat) (ha : a < 9223372036854775808) (hb : b < 9223372036854775808) : bits .or .i64 (a : Int) (b : Int) = ((a ||| b : Nat) : Int) := by
  have hx : a ||| b < 2 ^ 63 := Nat.or_lt_two_pow (by omega) (by omega)
  show IntKind.i64.wrap ((BitVec.ofInt 64 (a : Int) ||| BitVec.ofInt 64 (b : Int)).toNat : Int) = _
  rw [BitVec.toNat_or, ofInt_u64 a (by omega), ofInt_u64 b (by omega)]
  exact IntWalk.i64_in _ (by omega)
theorem i64_andNot_nat (a b : Nat) (ha : a < 9223372036854775808) (hb : b < 9223372036854775808) : bits .andNot .i64 (a : Int) (b : Int) = ((a &&& (18446744073709551615 - b) : Nat) : Int) := by
  have hx : a &&& (18446744073709551615 - b) < 2 ^ 63 := Nat.lt_of_le_of_lt Nat.and_le_left (by omega)
  show IntKind.i64.wrap ((BitVec.ofInt 64 (a : Int) &&& ~~~BitVec.ofInt 64 (b : Int)).toNat : Int) = _
  rw [BitVec.toNat_and, BitVec.toNat_not, ofInt_u64 a (by omega), ofInt_u64 b (by omega)]
  have e : 2 ^ 64 - 1 - b = 18446744073709551615 - b := by omega
  rw [e]
  exact IntWalk.i64_in _ (by omega)
theorem bsum_or (F : Nat → Bool) (j : Nat) : bsum F j ||| (if F j then 2 ^ j else 0) = bsum F (j + 1) := by
  have h := bsum_lt F j
  rw [bsum]
  cases hF : F j with
  | false => simp
  | true =>
    have h2 := Nat.two_pow_add_eq_or_of_lt h 1
    rw [Nat.mul_one] at h2
    simp only [if_true]
    rw [Nat.or_comm, ← h2, Nat.add_comm]
/-- the word i of the variable v -/
def colN (v i : Nat) : Nat := if v < 6 then bsum (fun j => j.testBit v) 64 else if i.testBit (v - 6) then 18446744073709551615 else 0
theorem colN_lt (v i : Nat) : colN v i < 18446744073709551616 := by
  unfold colN
  split
  · exact bsum_lt _ 64
  · split <;> omega
theorem colN_bit {v i j : Nat} (hj : j < 64) : (colN v i).testBit j = (64 * i + j).testBit v := by
  have h := Nat.testBit_two_pow_mul_add i (show j < 2 ^ 6 from hj) v
  rw [show (64 : Nat) * i + j = 2 ^ 6 * i + j from rfl, h]
  unfold colN
  by_cases h6 : v < 6
  · rw [if_pos h6, if_pos h6, bsum_bit]
    simp [hj]
  · rw [if_neg h6, if_neg h6]
    cases i.testBit (v - 6) with
    | false => simp
    | true =>
      rw [if_pos rfl, show (18446744073709551615 : Nat) = 2 ^ 64 - 1 by decide, Nat.testBit_two_pow_sub_one]
      simpa using hj
theorem testBit_dm (x k : Nat) : x.testBit k = decide (x / 2 ^ k % 2 = 1) := by
  rw [Nat.testBit_eq_decide_div_mod_eq]
theorem colN_top (k i : Nat) (hi : i < 1024) : IntKind.u64.wrap (-bits .and .u64 ((i : Int) / ((2 ^ k : Nat) : Int)) 1) = ((colN (6 + k) i : Nat) : Int) := by
  have h1 : i / 2 ^ k ≤ i := Nat.div_le_self _ _
  have h2 : ((i : Int) / ((2 ^ k : Nat) : Int)) = ((i / 2 ^ k : Nat) : Int) := (Int.natCast_ediv i (2 ^ k)).symm
  have h3 := u64_and_nat (i / 2 ^ k) 1 (by omega) (by omega)
  rw [nat_mask1] at h3
  rw [h2, show (1 : Int) = ((1 : Nat) : Int) from rfl, h3]
  unfold colN
  rw [if_neg (by omega), show 6 + k - 6 = k by omega, testBit_dm]
  generalize i / 2 ^ k = x
  rcases Nat.mod_two_eq_zero_or_one x with h | h
  · rw [h]; decide
  · rw [h]; decide
theorem col_step (F : Nat → Bool) (k m : Nat) (hm : m < 64) (hF : F = fun j : Nat => j.testBit k) :
    bits .and .i64 ((m : Int) / ((2 ^ k : Nat) : Int)) 1 = ((m / 2 ^ k % 2 : Nat) : Int) ∧ IntKind.u64.wrap ((m / 2 ^ k % 2 : Nat) : Int) = ((m / 2 ^ k % 2 : Nat) : Int) ∧
    IntKind.u64.wrap (((m / 2 ^ k % 2 : Nat) : Int) * 2 ^ m) = (((if F m then 2 ^ m else 0) : Nat) : Int) ∧ bits .or .u64 (bsum F m : Nat) (((if F m then 2 ^ m else 0) : Nat) : Int) = (bsum F (m + 1) : Nat) := by
  have h1 : m / 2 ^ k ≤ m := Nat.div_le_self _ _
  have h2 : ((m : Int) / ((2 ^ k : Nat) : Int)) = ((m / 2 ^ k : Nat) : Int) := (Int.natCast_ediv m (2 ^ k)).symm
  have h3 := i64_and_nat (m / 2 ^ k) 1 (by omega) (by omega)
  rw [nat_mask1] at h3
  have hFm : F m = decide (m / 2 ^ k % 2 = 1) := by rw [hF]; exact testBit_dm m k
  have hp : 2 ^ m ≤ 2 ^ 63 := Nat.pow_le_pow_right (by omega) (by omega)
  have hb := bsum_lt F m
  have ho := bsum_or F m
  refine ⟨by rw [h2, show (1 : Int) = ((1 : Nat) : Int) from rfl, h3], IntWalk.u64_in _ (by omega), ?_, ?_⟩
  · rw [hFm, pow_int]
    generalize 2 ^ m = p at hp
    rcases Nat.mod_two_eq_zero_or_one (m / 2 ^ k) with h | h
    · rw [h]; simp; decide
    · rw [h]; simp; exact IntWalk.u64_in _ (by omega)
  · rw [← ho]
    refine u64_or_nat _ _ (by omega) ?_
    split <;> omega
set_option maxHeartbeats 4000000 in
theorem column_any (v i : Nat) (w : World) (hv : v < 16) (hi : i < 1024) : Calls Try.prog 67 #[.int .i64 v, .int .i64 i] w fun e w' => e = .returned (.int .u64 (colN v i : Nat)) ∧ w = w' := by
  by_cases h6 : 6 ≤ v
  · obtain rfl | rfl | rfl | rfl | rfl | rfl | rfl | rfl | rfl | rfl : v = 6 ∨ v = 7 ∨ v = 8 ∨ v = 9 ∨ v = 10 ∨ v = 11 ∨ v = 12 ∨ v = 13 ∨ v = 14 ∨ v = 15 := by omega
    · go_enter Try.func67, Try.ntmps67
      go_wp2
      go_ret
      have h := colN_top 0 i hi
      rw [Nat.pow_zero, show ((1 : Nat) : Int) = 1 from rfl, Int.ediv_one] at h
      exact ⟨ret_int h, rfl⟩
    · go_enter Try.func67, Try.ntmps67
      go_wp2
      go_ret
      exact ⟨ret_int (colN_top 1 i hi), rfl⟩
    · go_enter Try.func67, Try.ntmps67
      go_wp2
      go_ret
      exact ⟨ret_int (colN_top 2 i hi), rfl⟩
    · go_enter Try.func67, Try.ntmps67
      go_wp2
      go_ret
      exact ⟨ret_int (colN_top 3 i hi), rfl⟩
    · go_enter Try.func67, Try.ntmps67
      go_wp2
      go_ret
      exact ⟨ret_int (colN_top 4 i hi), rfl⟩
    · go_enter Try.func67, Try.ntmps67
      go_wp2
      go_ret
      exact ⟨ret_int (colN_top 5 i hi), rfl⟩
    · go_enter Try.func67, Try.ntmps67
      go_wp2
      go_ret
      exact ⟨ret_int (colN_top 6 i hi), rfl⟩
    · go_enter Try.func67, Try.ntmps67
      go_wp2
      go_ret
      exact ⟨ret_int (colN_top 7 i hi), rfl⟩
    · go_enter Try.func67, Try.ntmps67
      go_wp2
      go_ret
      exact ⟨ret_int (colN_top 8 i hi), rfl⟩
    · go_enter Try.func67, Try.ntmps67
      go_wp2
      go_ret
      exact ⟨ret_int (colN_top 9 i hi), rfl⟩
  · obtain rfl | rfl | rfl | rfl | rfl | rfl : v = 0 ∨ v = 1 ∨ v = 2 ∨ v = 3 ∨ v = 4 ∨ v = 5 := by omega
    · obtain ⟨F, hF⟩ : ∃ F, (fun j : Nat => j.testBit 0) = F := ⟨_, rfl⟩
      have hfin : bsum F 64 = colN 0 i := by rw [← hF]; rfl
      have HF := Lib.hid hF
      have HFIN := Lib.hid hfin
      clear hF hfin h6 hv
      go_enter Try.func67, Try.ntmps67
      go_wp2
      go_loopw [5, 16] (fun s j wr => ∃ m : Nat, m ≤ 64 ∧ j = .int .i64 m ∧ s = .int .u64 (bsum F m : Nat) ∧ w = wr) (fun _ j _ => 64 - (intOf j).toNat)
      case atStart => exact ⟨0, by omega, rfl, rfl, rfl⟩
      case round =>
        obtain ⟨m, hm, rfl, rfl, rfl⟩ := hrel
        by_cases hlt : m < 64
        · have hm1 : (m : Int) < 64 := by omega
          have hm0 : (0 : Int) ≤ m := by omega
          obtain ⟨hq1, hq2, hq3, hq4⟩ := col_step F 0 m hlt HF.out.symm
          generalize m / 2 ^ 0 % 2 = r at hq1 hq2 hq3
          generalize (if F m then 2 ^ m else 0) = p at hq3 hq4
          have hq5 : bits .and .i64 (m : Int) 1 = (r : Int) := by rw [Nat.pow_zero, show ((1 : Nat) : Int) = 1 from rfl, Int.ediv_one] at hq1; exact hq1
          clear hq1
          go_upto_region 7 with fail
          refine wp_read 9 ?_
          simp only [List.take_succ_cons, List.take_zero, List.drop_succ_cons, List.drop_zero]
          repeat (any_goals (first | go_big_quiet_step (fail) | quiet_step (fail)))
          refine wpQuiet_nil ?_
          clear hq2 hq3 hq4 hq5
          go_wp2
          go_roundw
          case rel => exact ⟨m + 1, by omega, by go_num, rfl, trivial⟩
          case measure => simp [intOf]; omega
        · obtain rfl : m = 64 := by omega
          rw [HFIN.out]
          go_wp2
          go_ret
          exact ⟨rfl, rfl⟩
    · obtain ⟨F, hF⟩ : ∃ F, (fun j : Nat => j.testBit 1) = F := ⟨_, rfl⟩
      have hfin : bsum F 64 = colN 1 i := by rw [← hF]; rfl
      have HF := Lib.hid hF
      have HFIN := Lib.hid hfin
      clear hF hfin h6 hv
      go_enter Try.func67, Try.ntmps67
      go_wp2
      go_loopw [5, 16] (fun s j wr => ∃ m : Nat, m ≤ 64 ∧ j = .int .i64 m ∧ s = .int .u64 (bsum F m : Nat) ∧ w = wr) (fun _ j _ => 64 - (intOf j).toNat)
      case atStart => exact ⟨0, by omega, rfl, rfl, rfl⟩
      case round =>
        obtain ⟨m, hm, rfl, rfl, rfl⟩ := hrel
        by_cases hlt : m < 64
        · have hm1 : (m : Int) < 64 := by omega
          have hm0 : (0 : Int) ≤ m := by omega
          obtain ⟨hq1, hq2, hq3, hq4⟩ := col_step F 1 m hlt HF.out.symm
          generalize m / 2 ^ 1 % 2 = r at hq1 hq2 hq3
          generalize (if F m then 2 ^ m else 0) = p at hq3 hq4
          have hq5 : bits .and .i64 ((m : Int) / 2) 1 = (r : Int) := hq1
          clear hq1
          go_upto_region 7 with fail
          refine wp_read 9 ?_
          simp only [List.take_succ_cons, List.take_zero, List.drop_succ_cons, List.drop_zero]
          repeat (any_goals (first | go_big_quiet_step (fail) | quiet_step (fail)))
          refine wpQuiet_nil ?_
          clear hq2 hq3 hq4 hq5
          go_wp2
          go_roundw
          case rel => exact ⟨m + 1, by omega, by go_num, rfl, trivial⟩
          case measure => simp [intOf]; omega
        · obtain rfl : m = 64 := by omega
          rw [HFIN.out]
          go_wp2
          go_ret
          exact ⟨rfl, rfl⟩
    · obtain ⟨F, hF⟩ : ∃ F, (fun j : Nat => j.testBit 2) = F := ⟨_, rfl⟩
      have hfin : bsum F 64 = colN 2 i := by rw [← hF]; rfl
      have HF := Lib.hid hF
      have HFIN := Lib.hid hfin
      clear hF hfin h6 hv
      go_enter Try.func67, Try.ntmps67
      go_wp2
      go_loopw [5, 16] (fun s j wr => ∃ m : Nat, m ≤ 64 ∧ j = .int .i64 m ∧ s = .int .u64 (bsum F m : Nat) ∧ w = wr) (fun _ j _ => 64 - (intOf j).toNat)
      case atStart => exact ⟨0, by omega, rfl, rfl, rfl⟩
      case round =>
        obtain ⟨m, hm, rfl, rfl, rfl⟩ := hrel
        by_cases hlt : m < 64
        · have hm1 : (m : Int) < 64 := by omega
          have hm0 : (0 : Int) ≤ m := by omega
          obtain ⟨hq1, hq2, hq3, hq4⟩ := col_step F 2 m hlt HF.out.symm
          generalize m / 2 ^ 2 % 2 = r at hq1 hq2 hq3
          generalize (if F m then 2 ^ m else 0) = p at hq3 hq4
          have hq5 : bits .and .i64 ((m : Int) / 4) 1 = (r : Int) := hq1
          clear hq1
          go_upto_region 7 with fail
          refine wp_read 9 ?_
          simp only [List.take_succ_cons, List.take_zero, List.drop_succ_cons, List.drop_zero]
          repeat (any_goals (first | go_big_quiet_step (fail) | quiet_step (fail)))
          refine wpQuiet_nil ?_
          clear hq2 hq3 hq4 hq5
          go_wp2
          go_roundw
          case rel => exact ⟨m + 1, by omega, by go_num, rfl, trivial⟩
          case measure => simp [intOf]; omega
        · obtain rfl : m = 64 := by omega
          rw [HFIN.out]
          go_wp2
          go_ret
          exact ⟨rfl, rfl⟩
    · obtain ⟨F, hF⟩ : ∃ F, (fun j : Nat => j.testBit 3) = F := ⟨_, rfl⟩
      have hfin : bsum F 64 = colN 3 i := by rw [← hF]; rfl
      have HF := Lib.hid hF
      have HFIN := Lib.hid hfin
      clear hF hfin h6 hv
      go_enter Try.func67, Try.ntmps67
      go_wp2
      go_loopw [5, 16] (fun s j wr => ∃ m : Nat, m ≤ 64 ∧ j = .int .i64 m ∧ s = .int .u64 (bsum F m : Nat) ∧ w = wr) (fun _ j _ => 64 - (intOf j).toNat)
      case atStart => exact ⟨0, by omega, rfl, rfl, rfl⟩
      case round =>
        obtain ⟨m, hm, rfl, rfl, rfl⟩ := hrel
        by_cases hlt : m < 64
        · have hm1 : (m : Int) < 64 := by omega
          have hm0 : (0 : Int) ≤ m := by omega
          obtain ⟨hq1, hq2, hq3, hq4⟩ := col_step F 3 m hlt HF.out.symm
          generalize m / 2 ^ 3 % 2 = r at hq1 hq2 hq3
          generalize (if F m then 2 ^ m else 0) = p at hq3 hq4
          have hq5 : bits .and .i64 ((m : Int) / 8) 1 = (r : Int) := hq1
          clear hq1
          go_upto_region 7 with fail
          refine wp_read 9 ?_
          simp only [List.take_succ_cons, List.take_zero, List.drop_succ_cons, List.drop_zero]
          repeat (any_goals (first | go_big_quiet_step (fail) | quiet_step (fail)))
          refine wpQuiet_nil ?_
          clear hq2 hq3 hq4 hq5
          go_wp2
          go_roundw
          case rel => exact ⟨m + 1, by omega, by go_num, rfl, trivial⟩
          case measure => simp [intOf]; omega
        · obtain rfl : m = 64 := by omega
          rw [HFIN.out]
          go_wp2
          go_ret
          exact ⟨rfl, rfl⟩
    · obtain ⟨F, hF⟩ : ∃ F, (fun j : Nat => j.testBit 4) = F := ⟨_, rfl⟩
      have hfin : bsum F 64 = colN 4 i := by rw [← hF]; rfl
      have HF := Lib.hid hF
      have HFIN := Lib.hid hfin
      clear hF hfin h6 hv
      go_enter Try.func67, Try.ntmps67
      go_wp2
      go_loopw [5, 16] (fun s j wr => ∃ m : Nat, m ≤ 64 ∧ j = .int .i64 m ∧ s = .int .u64 (bsum F m : Nat) ∧ w = wr) (fun _ j _ => 64 - (intOf j).toNat)
      case atStart => exact ⟨0, by omega, rfl, rfl, rfl⟩
      case round =>
        obtain ⟨m, hm, rfl, rfl, rfl⟩ := hrel
        by_cases hlt : m < 64
        · have hm1 : (m : Int) < 64 := by omega
          have hm0 : (0 : Int) ≤ m := by omega
          obtain ⟨hq1, hq2, hq3, hq4⟩ := col_step F 4 m hlt HF.out.symm
          generalize m / 2 ^ 4 % 2 = r at hq1 hq2 hq3
          generalize (if F m then 2 ^ m else 0) = p at hq3 hq4
          have hq5 : bits .and .i64 ((m : Int) / 16) 1 = (r : Int) := hq1
          clear hq1
          go_upto_region 7 with fail
          refine wp_read 9 ?_
          simp only [List.take_succ_cons, List.take_zero, List.drop_succ_cons, List.drop_zero]
          repeat (any_goals (first | go_big_quiet_step (fail) | quiet_step (fail)))
          refine wpQuiet_nil ?_
          clear hq2 hq3 hq4 hq5
          go_wp2
          go_roundw
          case rel => exact ⟨m + 1, by omega, by go_num, rfl, trivial⟩
          case measure => simp [intOf]; omega
        · obtain rfl : m = 64 := by omega
          rw [HFIN.out]
          go_wp2
          go_ret
          exact ⟨rfl, rfl⟩
    · obtain ⟨F, hF⟩ : ∃ F, (fun j : Nat => j.testBit 5) = F := ⟨_, rfl⟩
      have hfin : bsum F 64 = colN 5 i := by rw [← hF]; rfl
      have HF := Lib.hid hF
      have HFIN := Lib.hid hfin
      clear hF hfin h6 hv
      go_enter Try.func67, Try.ntmps67
      go_wp2
      go_loopw [5, 16] (fun s j wr => ∃ m : Nat, m ≤ 64 ∧ j = .int .i64 m ∧ s = .int .u64 (bsum F m : Nat) ∧ w = wr) (fun _ j _ => 64 - (intOf j).toNat)
      case atStart => exact ⟨0, by omega, rfl, rfl, rfl⟩
      case round =>
        obtain ⟨m, hm, rfl, rfl, rfl⟩ := hrel
        by_cases hlt : m < 64
        · have hm1 : (m : Int) < 64 := by omega
          have hm0 : (0 : Int) ≤ m := by omega
          obtain ⟨hq1, hq2, hq3, hq4⟩ := col_step F 5 m hlt HF.out.symm
          generalize m / 2 ^ 5 % 2 = r at hq1 hq2 hq3
          generalize (if F m then 2 ^ m else 0) = p at hq3 hq4
          have hq5 : bits .and .i64 ((m : Int) / 32) 1 = (r : Int) := hq1
          clear hq1
          go_upto_region 7 with fail
          refine wp_read 9 ?_
          simp only [List.take_succ_cons, List.take_zero, List.drop_succ_cons, List.drop_zero]
          repeat (any_goals (first | go_big_quiet_step (fail) | quiet_step (fail)))
          refine wpQuiet_nil ?_
          clear hq2 hq3 hq4 hq5
          go_wp2
          go_roundw
          case rel => exact ⟨m + 1, by omega, by go_num, rfl, trivial⟩
          case measure => simp [intOf]; omega
        · obtain rfl : m = 64 := by omega
          rw [HFIN.out]
          go_wp2
          go_ret
          exact ⟨rfl, rfl⟩
end Go.Proofs.Ytlggmoghgoeiiaa
