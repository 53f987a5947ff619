/- Truth tables: Binary of the program. -/
import Derived.Test.YtlggmoghgoeiiaaTrNot
namespace Go.Proofs.Ytlggmoghgoeiiaa
open Go.RowKit Go.Tk

/-- the parts that the bits of op choose -/
def bwL (op : Nat) (pL : Nat → Nat) : Nat → Nat
  | 0 => 0
  | m + 1 => if op.testBit m then bwL op pL m ||| pL m else bwL op pL m
theorem bwL_lt {op : Nat} {pL : Nat → Nat} (h : ∀ m, pL m < 18446744073709551616) : ∀ m, bwL op pL m < 18446744073709551616
  | 0 => by simp [bwL]
  | m + 1 => by
    rw [bwL]
    split
    · exact Nat.or_lt_two_pow (n := 64) (bwL_lt h m) (h m)
    · exact bwL_lt h m
def partN (x y : Nat) : Nat → Nat
  | 0 => notN x &&& notN y
  | 1 => notN x &&& y
  | 2 => x &&& notN y
  | 3 => x &&& y
  | _ => 0
theorem partN_lt (x y : Nat) (hx : x < 18446744073709551616) : ∀ m, partN x y m < 18446744073709551616
  | 0 => Nat.lt_of_le_of_lt Nat.and_le_left (notN_lt x)
  | 1 => Nat.lt_of_le_of_lt Nat.and_le_left (notN_lt x)
  | 2 => Nat.lt_of_le_of_lt Nat.and_le_left hx
  | 3 => Nat.lt_of_le_of_lt Nat.and_le_left hx
  | m + 4 => by show (0 : Nat) < _; omega
def binN (op x y : Nat) : Nat := bwL op (partN x y) 4
theorem binN_bit {op x y j : Nat} (hx : x < 18446744073709551616) (hy : y < 18446744073709551616) (hj : j < 64) : (binN op x y).testBit j = op.testBit ((if x.testBit j then 2 else 0) + (if y.testBit j then 1 else 0)) := by
  have h1 := notN_bit hx hj
  have h2 := notN_bit hy hj
  unfold binN
  simp only [bwL]
  cases ho0 : op.testBit 0 <;> cases ho1 : op.testBit 1 <;> cases ho2 : op.testBit 2 <;> cases ho3 : op.testBit 3 <;>
    cases hxj : x.testBit j <;> cases hyj : y.testBit j <;> simp only [partN, if_true, if_false, Bool.false_eq_true, Nat.testBit_or, Nat.testBit_and, h1, h2, hxj, hyj, Nat.zero_testBit, ho0, ho1, ho2, ho3, Bool.not_true, Bool.not_false, Bool.and_true, Bool.and_false, Bool.or_true, Bool.or_false, Nat.zero_add, Nat.add_zero, Nat.reduceAdd]
theorem u8_shift (op m : Nat) (hop : op < 256) : bits .and .u8 ((op : Int) / 2 ^ m) 1 = ((op / 2 ^ m % 2 : Nat) : Int) := by
  have h1 : op / 2 ^ m ≤ op := Nat.div_le_self _ _
  have h2 : ((op : Int) / 2 ^ m) = ((op / 2 ^ m : Nat) : Int) := by rw [pow_int]; exact (Int.natCast_ediv op (2 ^ m)).symm
  have h3 := u8_and_nat (op / 2 ^ m) 1 (by omega) (by omega)
  rw [nat_mask1] at h3
  rw [h2, show (1 : Int) = ((1 : Nat) : Int) from rfl, h3]
set_option maxHeartbeats 2000000 in
theorem binary1_any (i Ba Bb Bo op : Nat) (w : World) (Aa : Option Addr) (Ca : Nat) (wsa : List Nat) (hia : i < wsa.length) (ha : WL w Aa wsa.length wsa) (hba : Small wsa) (hca1 : w.cell? ⟨Ba, 1, none⟩ = some (.slice Aa wsa.length Ca)) (Ab : Option Addr) (Cb : Nat) (wsb : List Nat) (hib : i < wsb.length) (hb : WL w Ab wsb.length wsb) (hbb : Small wsb) (hcb1 : w.cell? ⟨Bb, 1, none⟩ = some (.slice Ab wsb.length Cb)) (hop : op < 256) (hco : w.cell? ⟨Bo, 0, none⟩ = some (.int .u8 op)) :
    Calls Try.prog 71 #[.int .i64 i, .pointer (some ⟨Ba, 0, none⟩), .pointer (some ⟨Bb, 0, none⟩), .pointer (some ⟨Bo, 0, none⟩)] w fun e w' => e = .returned (.int .u64 (binN op (wsa.getD i 0) (wsb.getD i 0) : Nat)) ∧ Same w w' := by
  obtain ⟨x, hxa⟩ : ∃ x, wsa[i]? = some x := ⟨_, List.getElem?_eq_getElem hia⟩
  obtain ⟨ba, offa, rfl, hbla, hca⟩ := ha.at1 hxa
  have hbx := hba.at1 hxa
  have hi1a : (i : Int) < wsa.length := by omega
  have hlBa : Ba < w.heap.size := World.block_lt_of_cell? w _ hca1
  rw [show wsa.getD i 0 = x by rw [List.getD_eq_getElem?_getD, hxa]; rfl]
  obtain ⟨y, hxb⟩ : ∃ x, wsb[i]? = some x := ⟨_, List.getElem?_eq_getElem hib⟩
  obtain ⟨bb, offb, rfl, hblb, hcb⟩ := hb.at1 hxb
  have hby := hbb.at1 hxb
  have hi1b : (i : Int) < wsb.length := by omega
  have hlBb : Bb < w.heap.size := World.block_lt_of_cell? w _ hcb1
  rw [show wsb.getD i 0 = y by rw [List.getD_eq_getElem?_getD, hxb]; rfl]
  have hi0 : (0 : Int) ≤ i := by omega
  have hxorx := xor_not hbx
  have hxory := xor_not hby
  have hsg : ¬ IntKind.u64.signed = true := by decide
  have hlx := notN_lt x
  have hly := notN_lt y
  have hp0 : notN x &&& notN y = partN x y 0 := rfl
  have hp1 : notN x &&& y = partN x y 1 := rfl
  have hp2 : x &&& notN y = partN x y 2 := rfl
  have hp3 : x &&& y = partN x y 3 := rfl
  have ha0 := u64_and_nat (notN x) (notN y) hlx hly
  have ha1 := u64_and_nat (notN x) y hlx hby
  have ha2 := u64_and_nat x (notN y) hbx hly
  have ha3 := u64_and_nat x y hbx hby
  rw [hp0] at ha0
  rw [hp1] at ha1
  rw [hp2] at ha2
  rw [hp3] at ha3
  have hpl := partN_lt x y hbx
  have hbn : binN op x y = bwL op (partN x y) 4 := rfl
  rw [hbn]
  generalize partN x y = pL at ha0 ha1 ha2 ha3 hpl ⊢
  have hbw := bwL_lt (op := op) hpl
  have HBW := Lib.hid hbw
  have HPL := Lib.hid hpl
  generalize notN x = nx at hxorx ha0 ha1 hlx
  generalize notN y = ny at hxory ha0 ha2 hly
  clear hxa hxb hbw hpl hp0 hp1 hp2 hp3 hbn
  go_enter Try.func71, Try.ntmps71
  go_upto_region 1 with fail
  refine wp_quiet (by kernel_rfl) (by kernel_rfl) ?_
  repeat (any_goals (first | go_big_quiet_step (fail) | quiet_step (fail)))
  refine wpQuiet_nil ?_
  rintro wz ⟨q, hq⟩
  have hsz : Same w wz := by rw [hq]; exact more_same _ q
  have hcoz := (hsz.cell (World.block_lt_of_cell? w _ hco) id).trans hco
  clear hq hco hca hcb hca1 hcb1 hbla hblb
  have HSZ := Lib.hid hsz
  clear hsz
  go_upto_region 4 with fail
  refine wp_world fun w4 hw4 => ?_
  have hs4 : Same wz w4 := by rw [hw4]; exact (Frm.refl _ _).alloc _
  have hB4 : Blk w4 wz.heap.size 38 #[.int .u64 (pL 0 : Nat), .int .u64 (pL 1 : Nat), .int .u64 (pL 2 : Nat), .int .u64 (pL 3 : Nat)] := by rw [hw4]; exact Blk.new _ _ _
  have hco4 := (hs4.cell (World.block_lt_of_cell? wz _ hcoz) id).trans hcoz
  have hcell : ∀ m, m < 4 → w4.cell? ⟨wz.heap.size, m, none⟩ = some (.int .u64 (pL m : Nat)) := fun m hm => by
    rw [hB4.cell m]
    obtain rfl | rfl | rfl | rfl : m = 0 ∨ m = 1 ∨ m = 2 ∨ m = 3 := by omega
    all_goals rfl
  have HCL := Lib.hid hcell
  have HS4 := Lib.hid (HSZ.out.trans hs4 (fun _ _ h => h))
  clear hw4 hs4 hB4 hcell hcoz ha0 ha1 ha2 ha3 hxorx hxory hsg
  go_loopw [8, 39] (fun s i wr => ∃ m : Nat, m ≤ 4 ∧ i = .int .i64 m ∧ s = .int .u64 (bwL op pL m : Nat) ∧ w4 = wr) (fun _ i _ => 4 - (intOf i).toNat)
  case atStart => exact ⟨0, by omega, rfl, rfl, rfl⟩
  case round =>
    obtain ⟨m, hm, rfl, rfl, rfl⟩ := hrel
    by_cases hlt : m < 4
    · have hm1 : (m : Int) < 4 := by omega
      have hm0 : (0 : Int) ≤ m := by omega
      have hcm := HCL.out m hlt
      have hu8 := u8_shift op m hop
      have hdm := testBit_dm op m
      have hnx : bwL op pL (m + 1) = if op.testBit m then bwL op pL m ||| pL m else bwL op pL m := rfl
      have hor := u64_or_nat (bwL op pL m) (pL m) (HBW.out m) (HPL.out m)
      cases ho : op.testBit m with
      | true =>
        have h1 : op / 2 ^ m % 2 = 1 := by rw [ho] at hdm; simpa using hdm.symm
        rw [h1] at hu8
        rw [ho, if_pos rfl] at hnx
        rw [← hnx] at hor
        have hu8' : bits .and .u8 ((op : Int) / 2 ^ m) 1 = 1 := hu8
        have HNX := Lib.hid hnx
        clear hdm ho h1 hnx hu8
        go_wp2
        go_roundw
        case rel => exact ⟨m + 1, by omega, by go_num, rfl, trivial⟩
        case measure => simp [intOf]; omega
      | false =>
        have h1 : op / 2 ^ m % 2 = 0 := by
          rw [ho] at hdm
          have h2 : ¬ op / 2 ^ m % 2 = 1 := by simpa using hdm.symm
          omega
        rw [h1] at hu8
        rw [ho, if_neg (by decide)] at hnx
        have hu8' : bits .and .u8 ((op : Int) / 2 ^ m) 1 = 0 := hu8
        have HNX := Lib.hid hnx
        clear hdm ho h1 hnx hu8 hor
        go_wp2
        go_roundw
        case rel => exact ⟨m + 1, by omega, by go_num, by rw [HNX.out], trivial⟩
        case measure => simp [intOf]; omega
    · obtain rfl : m = 4 := by omega
      go_wp2
      go_ret
      exact ⟨rfl, HS4.out⟩
end Go.Proofs.Ytlggmoghgoeiiaa
