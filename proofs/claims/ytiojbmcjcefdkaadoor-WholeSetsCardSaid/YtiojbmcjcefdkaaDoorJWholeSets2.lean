/- Contracts and plain laws, put together in one file. No condition. -/
import Derived.Test.YtiojbmcjcefdkaaDoorJ1
import Derived.Test.YtiojbmcjcefdkaaDoorProg
import Derived.Shelf.Bits.Mul64
import Derived.Shelf.Spec.TrailingZeros
import Derived.RangeFuncKeeps
import Derived.RangeFuncLeaves
import Derived.RangeFuncCalls
import Derived.Shelf.Abstract
import Derived.WalkKit
import Derived.OwnWalkIn
import Derived.TacticsInMore
import Derived.LoopNIn
import Derived.LoopIn
import Derived.RangeFuncRecord
import Derived.RangeFuncBox
import Derived.TacticsIn
import Derived.BigFrameIn
import Derived.Shelf.RegionOpen
import Derived.RangeFuncNested
import Derived.Test.YtiojbmcjcefdkaaDoorTie
import Derived.Lib.LaidTab
import Derived.SevenTiedAt


/- Masks: Len64, LeadingZeros64, Div64 at the few inputs that count sets; Below. -/
namespace Go.Tk
open Go.RowKit
theorem oper_value {P : Program} {o : Oper} {a : Act} {w : World} {K : Act → World → Prop} {Q : Exit → Act → World → Prop} {v : Value} (h : (execOp a.eval o).run P w = .ok (.value v) w) (hk : K (a.put o.dst v) w) : o.wp P a w K Q := by
  unfold Oper.wp
  rw [h]
  exact hk
end Go.Tk
namespace Go.Proofs.YtiojbmcjcefdkaaDoor
open Go.RowKit Go.Tk

set_option maxRecDepth 10000 in
theorem len64_27 (w : World) : Calls Tryd.prog 23 #[.int .u64 27] w fun e w' => e = .returned (.int .i64 5) ∧ w' = w := by
  go_enter Tryd.func23, Tryd.ntmps23
  go_upto_region 10 with fail
  refine wp_region_lit ?_
  refine wpList_read 3 ?_
  simp only [List.take_succ_cons, List.take_zero, List.drop_succ_cons, List.drop_zero]
  repeat (any_goals (first | go_big_quiet_step (fail) | quiet_step (fail)))
  refine wpQuiet_nil ?_
  refine wpList_plain rfl fun K hK => ?_
  refine oper_value (v := .int .u8 5) (by kernel_rfl) (hK _ _ ?_)
  clear hK K
  go_wp2
  go_ret
  exact ⟨rfl, rfl⟩
theorem lz64_27 (w : World) : Calls Tryd.prog 22 #[.int .u64 27] w fun e w' => e = .returned (.int .i64 59) ∧ w' = w := by
  go_enter Tryd.func22, Tryd.ntmps22
  go_wp2_with (fail)
  refine (len64_27 w).mono ?_
  rintro e w' ⟨rfl, rfl⟩
  go_wp2
  go_ret
  exact ⟨rfl, rfl⟩
set_option maxRecDepth 10000 in
theorem len64_28 (w : World) : Calls Tryd.prog 23 #[.int .u64 28] w fun e w' => e = .returned (.int .i64 5) ∧ w' = w := by
  go_enter Tryd.func23, Tryd.ntmps23
  go_upto_region 10 with fail
  refine wp_region_lit ?_
  refine wpList_read 3 ?_
  simp only [List.take_succ_cons, List.take_zero, List.drop_succ_cons, List.drop_zero]
  repeat (any_goals (first | go_big_quiet_step (fail) | quiet_step (fail)))
  refine wpQuiet_nil ?_
  refine wpList_plain rfl fun K hK => ?_
  refine oper_value (v := .int .u8 5) (by kernel_rfl) (hK _ _ ?_)
  clear hK K
  go_wp2
  go_ret
  exact ⟨rfl, rfl⟩
theorem lz64_28 (w : World) : Calls Tryd.prog 22 #[.int .u64 28] w fun e w' => e = .returned (.int .i64 59) ∧ w' = w := by
  go_enter Tryd.func22, Tryd.ntmps22
  go_wp2_with (fail)
  refine (len64_28 w).mono ?_
  rintro e w' ⟨rfl, rfl⟩
  go_wp2
  go_ret
  exact ⟨rfl, rfl⟩
set_option maxRecDepth 10000 in
theorem len64_29 (w : World) : Calls Tryd.prog 23 #[.int .u64 29] w fun e w' => e = .returned (.int .i64 5) ∧ w' = w := by
  go_enter Tryd.func23, Tryd.ntmps23
  go_upto_region 10 with fail
  refine wp_region_lit ?_
  refine wpList_read 3 ?_
  simp only [List.take_succ_cons, List.take_zero, List.drop_succ_cons, List.drop_zero]
  repeat (any_goals (first | go_big_quiet_step (fail) | quiet_step (fail)))
  refine wpQuiet_nil ?_
  refine wpList_plain rfl fun K hK => ?_
  refine oper_value (v := .int .u8 5) (by kernel_rfl) (hK _ _ ?_)
  clear hK K
  go_wp2
  go_ret
  exact ⟨rfl, rfl⟩
theorem lz64_29 (w : World) : Calls Tryd.prog 22 #[.int .u64 29] w fun e w' => e = .returned (.int .i64 59) ∧ w' = w := by
  go_enter Tryd.func22, Tryd.ntmps22
  go_wp2_with (fail)
  refine (len64_29 w).mono ?_
  rintro e w' ⟨rfl, rfl⟩
  go_wp2
  go_ret
  exact ⟨rfl, rfl⟩
set_option maxRecDepth 10000 in
theorem len64_30 (w : World) : Calls Tryd.prog 23 #[.int .u64 30] w fun e w' => e = .returned (.int .i64 5) ∧ w' = w := by
  go_enter Tryd.func23, Tryd.ntmps23
  go_upto_region 10 with fail
  refine wp_region_lit ?_
  refine wpList_read 3 ?_
  simp only [List.take_succ_cons, List.take_zero, List.drop_succ_cons, List.drop_zero]
  repeat (any_goals (first | go_big_quiet_step (fail) | quiet_step (fail)))
  refine wpQuiet_nil ?_
  refine wpList_plain rfl fun K hK => ?_
  refine oper_value (v := .int .u8 5) (by kernel_rfl) (hK _ _ ?_)
  clear hK K
  go_wp2
  go_ret
  exact ⟨rfl, rfl⟩
theorem lz64_30 (w : World) : Calls Tryd.prog 22 #[.int .u64 30] w fun e w' => e = .returned (.int .i64 59) ∧ w' = w := by
  go_enter Tryd.func22, Tryd.ntmps22
  go_wp2_with (fail)
  refine (len64_30 w).mono ?_
  rintro e w' ⟨rfl, rfl⟩
  go_wp2
  go_ret
  exact ⟨rfl, rfl⟩
set_option maxRecDepth 10000 in
theorem len64_31 (w : World) : Calls Tryd.prog 23 #[.int .u64 31] w fun e w' => e = .returned (.int .i64 5) ∧ w' = w := by
  go_enter Tryd.func23, Tryd.ntmps23
  go_upto_region 10 with fail
  refine wp_region_lit ?_
  refine wpList_read 3 ?_
  simp only [List.take_succ_cons, List.take_zero, List.drop_succ_cons, List.drop_zero]
  repeat (any_goals (first | go_big_quiet_step (fail) | quiet_step (fail)))
  refine wpQuiet_nil ?_
  refine wpList_plain rfl fun K hK => ?_
  refine oper_value (v := .int .u8 5) (by kernel_rfl) (hK _ _ ?_)
  clear hK K
  go_wp2
  go_ret
  exact ⟨rfl, rfl⟩
theorem lz64_31 (w : World) : Calls Tryd.prog 22 #[.int .u64 31] w fun e w' => e = .returned (.int .i64 59) ∧ w' = w := by
  go_enter Tryd.func22, Tryd.ntmps22
  go_wp2_with (fail)
  refine (len64_31 w).mono ?_
  rintro e w' ⟨rfl, rfl⟩
  go_wp2
  go_ret
  exact ⟨rfl, rfl⟩
set_option maxRecDepth 10000 in
theorem len64_32 (w : World) : Calls Tryd.prog 23 #[.int .u64 32] w fun e w' => e = .returned (.int .i64 6) ∧ w' = w := by
  go_enter Tryd.func23, Tryd.ntmps23
  go_upto_region 10 with fail
  refine wp_region_lit ?_
  refine wpList_read 3 ?_
  simp only [List.take_succ_cons, List.take_zero, List.drop_succ_cons, List.drop_zero]
  repeat (any_goals (first | go_big_quiet_step (fail) | quiet_step (fail)))
  refine wpQuiet_nil ?_
  refine wpList_plain rfl fun K hK => ?_
  refine oper_value (v := .int .u8 6) (by kernel_rfl) (hK _ _ ?_)
  clear hK K
  go_wp2
  go_ret
  exact ⟨rfl, rfl⟩
theorem lz64_32 (w : World) : Calls Tryd.prog 22 #[.int .u64 32] w fun e w' => e = .returned (.int .i64 58) ∧ w' = w := by
  go_enter Tryd.func22, Tryd.ntmps22
  go_wp2_with (fail)
  refine (len64_32 w).mono ?_
  rintro e w' ⟨rfl, rfl⟩
  go_wp2
  go_ret
  exact ⟨rfl, rfl⟩
set_option maxRecDepth 10000 in
set_option maxHeartbeats 4000000 in
theorem div64_63_29 (w : World) : Calls Tryd.prog 20 #[.int .u64 1, .int .u64 3579046069437358679, .int .u64 29] w fun e w' => (∃ r : Int, e = .returned (.tuple #[.int .u64 759510004936100355, .int .u64 r])) ∧ w' = w := by
  go_enter Tryd.func20, Tryd.ntmps20
  go_wp2_with (fail)
  refine (lz64_29 w).mono ?_
  rintro e w' ⟨rfl, rfl⟩
  have e1 : bits BinOp.or IntKind.u64 576460752303423488 111845189669917458 = 688305941973340946 := by kernel_rfl
  have e2 : bits BinOp.and IntKind.u64 16717361816799281152 4294967295 = 0 := by kernel_rfl
  have e3 : IntKind.u64.wrap 2063179589716470643091440175889252352 = 13258597302978740224 := by kernel_rfl
  have e4 : bits BinOp.and IntKind.u64 13258597302978740224 4294967295 = 0 := by kernel_rfl
  go_wp2_with (fail)
  go_loopw [15, 16] (fun q r wr => q = .int .u64 176837203 ∧ r = .int .u64 1209832210 ∧ wr = w') (fun _ _ _ => 0)
  case atStart => exact ⟨rfl, rfl, rfl⟩
  case round =>
    obtain ⟨rfl, rfl, rfl⟩ := hrel
    go_wp2
    go_loopw [18, 16] (fun q r wv => q = .int .u64 1334987267 ∧ r = .int .u64 0 ∧ wv = wr) (fun _ _ _ => 0)
    case atStart => exact ⟨rfl, rfl, rfl⟩
    case round =>
      obtain ⟨rfl, rfl, rfl⟩ := hrel
      go_wp2
      go_ret2
      exact ⟨⟨_, rfl⟩, rfl⟩
set_option maxRecDepth 10000 in
set_option maxHeartbeats 4000000 in
theorem div64_63_30 (w : World) : Calls Tryd.prog 20 #[.int .u64 1, .int .u64 7376596094117860454, .int .u64 30] w fun e w' => (∃ r : Int, e = .returned (.tuple #[.int .u64 860778005594247069, .int .u64 r])) ∧ w' = w := by
  go_enter Tryd.func20, Tryd.ntmps20
  go_wp2_with (fail)
  refine (lz64_30 w).mono ?_
  rintro e w' ⟨rfl, rfl⟩
  have e1 : bits BinOp.or IntKind.u64 576460752303423488 230518627941183139 = 806979380244606627 := by kernel_rfl
  have e2 : bits BinOp.and IntKind.u64 17293822569102704640 4294967295 = 0 := by kernel_rfl
  have e3 : IntKind.u64.wrap 4252318133853677130388318910049943552 = 3458764513820540928 := by kernel_rfl
  have e4 : bits BinOp.and IntKind.u64 3458764513820540928 4294967295 = 0 := by kernel_rfl
  go_wp2_with (fail)
  go_loopw [15, 16] (fun q r wr => q = .int .u64 200415497 ∧ r = .int .u64 344682147 ∧ wr = w') (fun _ _ _ => 0)
  case atStart => exact ⟨rfl, rfl, rfl⟩
  case round =>
    obtain ⟨rfl, rfl, rfl⟩ := hrel
    go_wp2
    go_loopw [18, 16] (fun q r wv => q = .int .u64 367660957 ∧ r = .int .u64 0 ∧ wv = wr) (fun _ _ _ => 0)
    case atStart => exact ⟨rfl, rfl, rfl⟩
    case round =>
      obtain ⟨rfl, rfl, rfl⟩ := hrel
      go_wp2
      go_ret2
      exact ⟨⟨_, rfl⟩, rfl⟩
set_option maxRecDepth 10000 in
set_option maxHeartbeats 4000000 in
theorem div64_63_31 (w : World) : Calls Tryd.prog 20 #[.int .u64 1, .int .u64 9958930110900601661, .int .u64 31] w fun e w' => (∃ r : Int, e = .returned (.tuple #[.int .u64 916312070471295267, .int .u64 r])) ∧ w' = w := by
  go_enter Tryd.func20, Tryd.ntmps20
  go_wp2_with (fail)
  refine (lz64_31 w).mono ?_
  rintro e w' ⟨rfl, rfl⟩
  have e1 : bits BinOp.or IntKind.u64 576460752303423488 311216565965643801 = 887677318269067289 := by kernel_rfl
  have e2 : bits BinOp.and IntKind.u64 17870283321406128128 4294967295 = 0 := by kernel_rfl
  have e3 : IntKind.u64.wrap 5740932343866977541750196449279213568 = 16717361816799281152 := by kernel_rfl
  have e4 : bits BinOp.and IntKind.u64 16717361816799281152 4294967295 = 0 := by kernel_rfl
  go_wp2_with (fail)
  go_loopw [15, 16] (fun q r wr => q = .int .u64 213345529 ∧ r = .int .u64 647585817 ∧ wr = w') (fun _ _ _ => 0)
  case atStart => exact ⟨rfl, rfl, rfl⟩
  case round =>
    obtain ⟨rfl, rfl, rfl⟩ := hrel
    go_wp2
    go_loopw [18, 16] (fun q r wv => q = .int .u64 668475683 ∧ r = .int .u64 0 ∧ wv = wr) (fun _ _ _ => 0)
    case atStart => exact ⟨rfl, rfl, rfl⟩
    case round =>
      obtain ⟨rfl, rfl, rfl⟩ := hrel
      go_wp2
      go_ret2
      exact ⟨⟨_, rfl⟩, rfl⟩
set_option maxRecDepth 10000 in
set_option maxHeartbeats 4000000 in
theorem div64_63_32 (w : World) : Calls Tryd.prog 20 #[.int .u64 1, .int .u64 10875242181371896928, .int .u64 32] w fun e w' => (∃ r : Int, e = .returned (.tuple #[.int .u64 916312070471295267, .int .u64 r])) ∧ w' = w := by
  go_enter Tryd.func20, Tryd.ntmps20
  go_wp2_with (fail)
  refine (lz64_32 w).mono ?_
  rintro e w' ⟨rfl, rfl⟩
  have e1 : bits BinOp.or IntKind.u64 288230376151711744 169925659083935889 = 458156035235647633 := by kernel_rfl
  have e2 : bits BinOp.and IntKind.u64 9223372036854775808 4294967295 = 0 := by kernel_rfl
  have e3 : IntKind.u64.wrap 3134575144677784005148979723535122432 = 9223372036854775808 := by kernel_rfl
  have e4 : bits BinOp.and IntKind.u64 9223372036854775808 4294967295 = 0 := by kernel_rfl
  go_wp2_with (fail)
  go_loopw [15, 16] (fun q r wr => q = .int .u64 213345529 ∧ r = .int .u64 334237841 ∧ wr = w') (fun _ _ _ => 0)
  case atStart => exact ⟨rfl, rfl, rfl⟩
  case round =>
    obtain ⟨rfl, rfl, rfl⟩ := hrel
    go_wp2
    go_loopw [18, 16] (fun q r wv => q = .int .u64 668475683 ∧ r = .int .u64 0 ∧ wv = wr) (fun _ _ _ => 0)
    case atStart => exact ⟨rfl, rfl, rfl⟩
    case round =>
      obtain ⟨rfl, rfl, rfl⟩ := hrel
      go_wp2
      go_ret2
      exact ⟨⟨_, rfl⟩, rfl⟩
set_option maxRecDepth 10000 in
set_option maxHeartbeats 4000000 in
theorem div64_64_27 (w : World) : Calls Tryd.prog 20 #[.int .u64 1, .int .u64 4412454345123998528, .int .u64 27] w fun e w' => (∃ r : Int, e = .returned (.tuple #[.int .u64 846636978475316672, .int .u64 r])) ∧ w' = w := by
  go_enter Tryd.func20, Tryd.ntmps20
  go_wp2_with (fail)
  refine (lz64_27 w).mono ?_
  rintro e w' ⟨rfl, rfl⟩
  have e1 : bits BinOp.or IntKind.u64 576460752303423488 137889198285124954 = 714349950588548442 := by kernel_rfl
  have e2 : bits BinOp.and IntKind.u64 15564440312192434176 4294967295 = 0 := by kernel_rfl
  have e3 : IntKind.u64.wrap 2543606751294690012736052481872625664 = 0 := by kernel_rfl
  have e4 : bits BinOp.and IntKind.u64 0 4294967295 = 0 := by kernel_rfl
  go_wp2_with (fail)
  go_loopw [15, 16] (fun q r wr => q = .int .u64 197123032 ∧ r = .int .u64 2317743450 ∧ wr = w') (fun _ _ _ => 0)
  case atStart => exact ⟨rfl, rfl, rfl⟩
  case round =>
    obtain ⟨rfl, rfl, rfl⟩ := hrel
    go_wp2
    go_loopw [18, 16] (fun q r wv => q = .int .u64 2746955200 ∧ r = .int .u64 0 ∧ wv = wr) (fun _ _ _ => 0)
    case atStart => exact ⟨rfl, rfl, rfl⟩
    case round =>
      obtain ⟨rfl, rfl, rfl⟩ := hrel
      go_wp2
      go_ret2
      exact ⟨⟨_, rfl⟩, rfl⟩
set_option maxRecDepth 10000 in
set_option maxHeartbeats 4000000 in
theorem div64_64_28 (w : World) : Calls Tryd.prog 20 #[.int .u64 1, .int .u64 12878824129877165248, .int .u64 28] w fun e w' => (∃ r : Int, e = .returned (.tuple #[.int .u64 1118770292985239888, .int .u64 r])) ∧ w' = w := by
  go_enter Tryd.func20, Tryd.ntmps20
  go_wp2_with (fail)
  refine (lz64_28 w).mono ?_
  rintro e w' ⟨rfl, rfl⟩
  have e1 : bits BinOp.or IntKind.u64 576460752303423488 402463254058661414 = 978924006362084902 := by kernel_rfl
  have e2 : bits BinOp.and IntKind.u64 16140901064495857664 4294967295 = 0 := by kernel_rfl
  have e3 : IntKind.u64.wrap 7424136646692474085316240987100545024 = 0 := by kernel_rfl
  have e4 : bits BinOp.and IntKind.u64 0 4294967295 = 0 := by kernel_rfl
  go_wp2_with (fail)
  go_loopw [15, 16] (fun q r wr => q = .int .u64 260484007 ∧ r = .int .u64 1565554214 ∧ wr = w') (fun _ _ _ => 0)
  case atStart => exact ⟨rfl, rfl, rfl⟩
  case round =>
    obtain ⟨rfl, rfl, rfl⟩ := hrel
    go_wp2
    go_loopw [18, 16] (fun q r wv => q = .int .u64 1789204816 ∧ r = .int .u64 0 ∧ wv = wr) (fun _ _ _ => 0)
    case atStart => exact ⟨rfl, rfl, rfl⟩
    case round =>
      obtain ⟨rfl, rfl, rfl⟩ := hrel
      go_wp2
      go_ret2
      exact ⟨⟨_, rfl⟩, rfl⟩
set_option maxRecDepth 10000 in
set_option maxHeartbeats 4000000 in
theorem div64_64_29 (w : World) : Calls Tryd.prog 20 #[.int .u64 2, .int .u64 3382242400049532736, .int .u64 29] w fun e w' => (∃ r : Int, e = .returned (.tuple #[.int .u64 1388818294740297792, .int .u64 r])) ∧ w' = w := by
  go_enter Tryd.func20, Tryd.ntmps20
  go_wp2_with (fail)
  refine (lz64_29 w).mono ?_
  rintro e w' ⟨rfl, rfl⟩
  have e1 : bits BinOp.or IntKind.u64 1152921504606846976 105695075001547898 = 1258616579608394874 := by kernel_rfl
  have e2 : bits BinOp.and IntKind.u64 16717361816799281152 4294967295 = 0 := by kernel_rfl
  have e3 : IntKind.u64.wrap 1949729998405090264527698067527303168 = 0 := by kernel_rfl
  have e4 : bits BinOp.and IntKind.u64 0 4294967295 = 0 := by kernel_rfl
  go_wp2_with (fail)
  go_loopw [15, 16] (fun q r wr => q = .int .u64 323359457 ∧ r = .int .u64 1878637690 ∧ wr = w') (fun _ _ _ => 0)
  case atStart => exact ⟨rfl, rfl, rfl⟩
  case round =>
    obtain ⟨rfl, rfl, rfl⟩ := hrel
    go_wp2
    go_loopw [18, 16] (fun q r wv => q = .int .u64 2072979520 ∧ r = .int .u64 0 ∧ wv = wr) (fun _ _ _ => 0)
    case atStart => exact ⟨rfl, rfl, rfl⟩
    case round =>
      obtain ⟨rfl, rfl, rfl⟩ := hrel
      go_wp2
      go_ret2
      exact ⟨⟨_, rfl⟩, rfl⟩
set_option maxRecDepth 10000 in
set_option maxHeartbeats 4000000 in
theorem div64_64_30 (w : World) : Calls Tryd.prog 20 #[.int .u64 2, .int .u64 11715152168491319488, .int .u64 30] w fun e w' => (∃ r : Int, e = .returned (.tuple #[.int .u64 1620288010530347424, .int .u64 r])) ∧ w' = w := by
  go_enter Tryd.func20, Tryd.ntmps20
  go_wp2_with (fail)
  refine (lz64_30 w).mono ?_
  rintro e w' ⟨rfl, rfl⟩
  have e1 : bits BinOp.or IntKind.u64 1152921504606846976 366098505265353734 = 1519020009872200710 := by kernel_rfl
  have e2 : bits BinOp.and IntKind.u64 17293822569102704640 4294967295 = 0 := by kernel_rfl
  have e3 : IntKind.u64.wrap 6753325432397589070939134832771334144 = 0 := by kernel_rfl
  have e4 : bits BinOp.and IntKind.u64 0 4294967295 = 0 := by kernel_rfl
  go_wp2_with (fail)
  go_loopw [15, 16] (fun q r wr => q = .int .u64 377252700 ∧ r = .int .u64 1596232710 ∧ wr = w') (fun _ _ _ => 0)
  case atStart => exact ⟨rfl, rfl, rfl⟩
  case round =>
    obtain ⟨rfl, rfl, rfl⟩ := hrel
    go_wp2
    go_loopw [18, 16] (fun q r wv => q = .int .u64 1702648224 ∧ r = .int .u64 0 ∧ wv = wr) (fun _ _ _ => 0)
    case atStart => exact ⟨rfl, rfl, rfl⟩
    case round =>
      obtain ⟨rfl, rfl, rfl⟩ := hrel
      go_wp2
      go_ret2
      exact ⟨⟨_, rfl⟩, rfl⟩
set_option maxRecDepth 10000 in
set_option maxHeartbeats 4000000 in
theorem div64_64_31 (w : World) : Calls Tryd.prog 20 #[.int .u64 2, .int .u64 18196304210612709184, .int .u64 31] w fun e w' => (∃ r : Int, e = .returned (.tuple #[.int .u64 1777090076065542336, .int .u64 r])) ∧ w' = w := by
  go_enter Tryd.func20, Tryd.ntmps20
  go_wp2_with (fail)
  refine (lz64_31 w).mono ?_
  rintro e w' ⟨rfl, rfl⟩
  have e1 : bits BinOp.or IntKind.u64 1152921504606846976 568634506581647162 = 1721556011188494138 := by kernel_rfl
  have e2 : bits BinOp.and IntKind.u64 17870283321406128128 4294967295 = 0 := by kernel_rfl
  have e3 : IntKind.u64.wrap 10489455214391754809259141205738913792 = 0 := by kernel_rfl
  have e4 : bits BinOp.and IntKind.u64 0 4294967295 = 0 := by kernel_rfl
  go_wp2_with (fail)
  go_loopw [15, 16] (fun q r wr => q = .int .u64 413761026 ∧ r = .int .u64 1003757370 ∧ wr = w') (fun _ _ _ => 0)
  case atStart => exact ⟨rfl, rfl, rfl⟩
  case round =>
    obtain ⟨rfl, rfl, rfl⟩ := hrel
    go_wp2
    go_loopw [18, 16] (fun q r wv => q = .int .u64 1036136640 ∧ r = .int .u64 0 ∧ wv = wr) (fun _ _ _ => 0)
    case atStart => exact ⟨rfl, rfl, rfl⟩
    case round =>
      obtain ⟨rfl, rfl, rfl⟩ := hrel
      go_wp2
      go_ret2
      exact ⟨⟨_, rfl⟩, rfl⟩
set_option maxRecDepth 10000 in
set_option maxHeartbeats 4000000 in
theorem div64_64_32 (w : World) : Calls Tryd.prog 20 #[.int .u64 3, .int .u64 3303740289034242240, .int .u64 32] w fun e w' => (∃ r : Int, e = .returned (.tuple #[.int .u64 1832624140942590534, .int .u64 r])) ∧ w' = w := by
  go_enter Tryd.func20, Tryd.ntmps20
  go_wp2_with (fail)
  refine (lz64_32 w).mono ?_
  rintro e w' ⟨rfl, rfl⟩
  have e1 : bits BinOp.or IntKind.u64 864691128455135232 51620942016160035 = 916312070471295267 := by kernel_rfl
  have e2 : bits BinOp.and IntKind.u64 9223372036854775808 4294967295 = 0 := by kernel_rfl
  have e3 : IntKind.u64.wrap 952238306215904518682731205948866560 = 0 := by kernel_rfl
  have e4 : bits BinOp.and IntKind.u64 0 4294967295 = 0 := by kernel_rfl
  go_wp2_with (fail)
  go_loopw [15, 16] (fun q r wr => q = .int .u64 426691058 ∧ r = .int .u64 668475683 ∧ wr = w') (fun _ _ _ => 0)
  case atStart => exact ⟨rfl, rfl, rfl⟩
  case round =>
    obtain ⟨rfl, rfl, rfl⟩ := hrel
    go_wp2
    go_loopw [18, 16] (fun q r wv => q = .int .u64 1336951366 ∧ r = .int .u64 0 ∧ wv = wr) (fun _ _ _ => 0)
    case atStart => exact ⟨rfl, rfl, rfl⟩
    case round =>
      obtain ⟨rfl, rfl, rfl⟩ := hrel
      go_wp2
      go_ret2
      exact ⟨⟨_, rfl⟩, rfl⟩
end Go.Proofs.YtiojbmcjcefdkaaDoor


/- Masks: Mul64, TrailingZeros64 by the kit's contracts; Below. -/
namespace Go.Proofs.YtiojbmcjcefdkaaDoor
open Go.RowKit Go.Tk Go.Shelf

def ρM : Ren := ⟨fun _ => 19, fun t => if t = 46 then 43 else 22, fun _ => 0⟩
theorem laysM : Lays.n264 Tryd.prog ρM where
  mixed := by kernel_rfl
  f264 := by kernel_rfl
  t46 := by kernel_rfl
  a46 := fun _ => by kernel_rfl
  z46 := fun _ => by kernel_rfl
  v46 := fun _ => by kernel_rfl
  t53 := by kernel_rfl
  a53 := fun _ => by kernel_rfl
  z53 := fun _ => by kernel_rfl
  v53 := fun _ => by kernel_rfl
theorem mul64_any (x y : Nat) (hx : x < 18446744073709551616) (hy : y < 18446744073709551616) (w : World) :
    Calls Tryd.prog 19 #[.int .u64 x, .int .u64 y] w fun e w' => e = .returned (.tuple #[.int .u64 ((x * y / 18446744073709551616 : Nat) : Int), .int .u64 ((x * y % 18446744073709551616 : Nat) : Int)]) ∧ w' = w := Any.bits_Mul64 laysM x y hx hy w
def ρT : Ren := ⟨fun _ => 18, fun t => if t = 0 then 0 else if t = 3 then 3 else if t = 4 then 4 else if t = 5 then 5 else if t = 22 then 22 else if t = 25 then 43 else 48, fun _ => 0⟩
theorem laysT : Lays7.n29 Tryd.prog ρT where
  mixed := by kernel_rfl
  f29 := by kernel_rfl
  t0 := by kernel_rfl
  a0 := fun _ => by kernel_rfl
  z0 := fun _ => by kernel_rfl
  v0 := fun _ => by kernel_rfl
  i0 := by kernel_rfl
  t3 := by kernel_rfl
  a3 := fun _ => by kernel_rfl
  z3 := fun _ => by kernel_rfl
  v3 := fun _ => by kernel_rfl
  i3 := by kernel_rfl
  t4 := by kernel_rfl
  a4 := fun _ => by kernel_rfl
  z4 := fun _ => by kernel_rfl
  v4 := fun _ => by kernel_rfl
  i4 := by kernel_rfl
  t5 := by kernel_rfl
  a5 := fun _ => by kernel_rfl
  z5 := fun _ => by kernel_rfl
  v5 := fun _ => by kernel_rfl
  i5 := by kernel_rfl
  t22 := by kernel_rfl
  a22 := fun _ => by kernel_rfl
  z22 := fun _ => by kernel_rfl
  v22 := fun _ => by kernel_rfl
  i22 := by kernel_rfl
  t25 := by kernel_rfl
  a25 := fun _ => by kernel_rfl
  z25 := fun _ => by kernel_rfl
  v25 := fun _ => by kernel_rfl
  i25 := by kernel_rfl
  t54 := by kernel_rfl
  a54 := fun _ => by kernel_rfl
  z54 := fun _ => by kernel_rfl
  g1 := by kernel_rfl
/-- the library's table lies as its initialiser lays it -/
abbrev Tab64 (w : World) : Prop := TabAt 0 Lib.deBruijn64tab w
theorem tz64_any (x : Nat) (hx : x < 18446744073709551616) (w : World) (hT : Tab64 w) :
    Calls Tryd.prog 18 #[.int .u64 x] w fun e w' => e = .returned (.int .i64 (Lib.ctz 64 x)) ∧ w' = w := Any7.bits_TrailingZeros64 laysT x hx w (fun _ => hT)
end Go.Proofs.YtiojbmcjcefdkaaDoor


/- Masks: choose. -/
namespace Go.Tk
/-- the product, step by step -/
def mulC (n : Nat) : Nat → Nat
  | 0 => 1
  | k + 1 => mulC n k * (n - k) / (k + 1)
theorem mulC_chs (n : Nat) : ∀ k, mulC n k = chs n k
  | 0 => (chs_zero n).symm
  | k + 1 => by
    rw [mulC, mulC_chs n k, ← chs_step n k]
    exact Nat.mul_div_cancel _ (by omega)
def bigs : List (Nat × Nat) := [(63, 29), (63, 30), (63, 31), (63, 32), (64, 27), (64, 28), (64, 29), (64, 30), (64, 31), (64, 32)]
theorem big_only : ∀ n, n < 65 → ∀ j, j < 32 → mulC n j * (n - j) < 18446744073709551616 ∨ (n, j + 1) ∈ bigs := by
  have h : ∀ n : Fin 65, ∀ j : Fin 32, mulC n.1 j.1 * (n.1 - j.1) < 18446744073709551616 ∨ (n.1, j.1 + 1) ∈ bigs := by decide +kernel
  exact fun n hn j hj => h ⟨n, hn⟩ ⟨j, hj⟩
end Go.Tk
namespace Go.Proofs.YtiojbmcjcefdkaaDoor
open Go.RowKit Go.Tk Go.Shelf

set_option maxHeartbeats 2000000 in
theorem div64_low (lo y : Nat) (hlo : lo < 18446744073709551616) (hy0 : 0 < y) (hy : y < 18446744073709551616) (w : World) :
    Calls Tryd.prog 20 #[.int .u64 0, .int .u64 lo, .int .u64 y] w fun e w' => (∃ r : Int, e = .returned (.tuple #[.int .u64 ((lo / y : Nat) : Int), .int .u64 r])) ∧ Same w w' := by
  have h0 : ((y : Int) == 0) = false := by rw [beq_eq_false_iff_ne]; omega
  have h1 : ¬ (y : Int) ≤ 0 := by omega
  have h2 : ¬ y = 0 := by omega
  have h3 : ¬ (y : Int) = 0 := by omega
  obtain ⟨q, hq⟩ : ∃ z, z = lo / y := ⟨_, rfl⟩
  obtain ⟨r, hr⟩ : ∃ z, z = lo % y := ⟨_, rfl⟩
  have hql : q ≤ lo := by rw [hq]; exact Nat.div_le_self _ _
  have hrl : r ≤ lo := by rw [hr]; exact Nat.mod_le _ _
  have e1 : (lo : Int) / (y : Int) = (q : Int) := by rw [hq, Int.natCast_ediv]
  have e2 : (lo : Int).tdiv (y : Int) = (q : Int) := by rw [Int.tdiv_eq_ediv_of_nonneg (Int.natCast_nonneg _), e1]
  have e3 : (lo : Int).tmod (y : Int) = (r : Int) := by rw [hr, Int.tmod_eq_emod_of_nonneg (Int.natCast_nonneg _), Int.natCast_emod]
  have e4 : (lo : Int) % (y : Int) = (r : Int) := by rw [hr, Int.natCast_emod]
  rw [← hq]
  have E1 := Lib.hid e1
  clear hq hr
  have hw1 : IntKind.u64.wrap (q : Int) = q := IntWalk.u64_in _ (by clear e1 e2 e3 e4; omega)
  have hw2 : IntKind.u64.wrap (r : Int) = r := IntWalk.u64_in _ (by clear e1 e2 e3 e4; omega)
  clear hlo hy hql hrl
  go_enter Tryd.func20, Tryd.ntmps20
  go_upto_region 6 with fail
  refine wp_quiet (by kernel_rfl) (by kernel_rfl) ?_
  repeat (any_goals (first | go_big_quiet_step (fail) | quiet_step (fail)))
  refine wpQuiet_nil ?_
  rintro wz ⟨p, hp⟩
  have HSZ := Lib.hid (show Same w wz by rw [hp]; exact more_same _ p)
  clear hp
  go_wp2
  go_ret2
  exact ⟨⟨_, rfl⟩, HSZ.out⟩
theorem div64_chs (n j : Nat) (hn : n ≤ 64) (hj : j < n) (hj32 : j < 32) (v : Nat) (hv : v = chs n j * (n - j)) (w : World) :
    Calls Tryd.prog 20 #[.int .u64 ((v / 18446744073709551616 : Nat) : Int), .int .u64 ((v % 18446744073709551616 : Nat) : Int), .int .u64 ((j + 1 : Nat) : Int)] w fun e w' => (∃ r : Int, e = .returned (.tuple #[.int .u64 ((chs n (j + 1) : Nat) : Int), .int .u64 r])) ∧ Same w w' := by
  rcases big_only n (by omega) j hj32 with h | h
  · rw [mulC_chs, ← hv] at h
    rw [Nat.div_eq_of_lt h, Nat.mod_eq_of_lt h]
    have h2 : chs n (j + 1) = v / (j + 1) := by
      rw [hv, ← chs_step n j]
      exact (Nat.mul_div_cancel _ (by omega)).symm
    rw [h2]
    exact div64_low v (j + 1) h (by omega) (by omega) w
  · simp only [bigs, List.mem_cons, Prod.mk.injEq, List.not_mem_nil, or_false] at h
    rw [← mulC_chs] at hv ⊢
    rcases h with ⟨rfl, h⟩ | ⟨rfl, h⟩ | ⟨rfl, h⟩ | ⟨rfl, h⟩ | ⟨rfl, h⟩ | ⟨rfl, h⟩ | ⟨rfl, h⟩ | ⟨rfl, h⟩ | ⟨rfl, h⟩ | ⟨rfl, h⟩
    · obtain rfl : j = 28 := by omega
      obtain rfl : v = 22025790143146910295 := by rw [hv]; decide +kernel
      rw [show mulC 63 29 = 759510004936100355 by decide +kernel]
      exact (div64_63_29 w).mono fun e w' h => ⟨h.1, by rw [h.2]; exact Frm.refl _ _⟩
    · obtain rfl : j = 29 := by omega
      obtain rfl : v = 25823340167827412070 := by rw [hv]; decide +kernel
      rw [show mulC 63 30 = 860778005594247069 by decide +kernel]
      exact (div64_63_30 w).mono fun e w' h => ⟨h.1, by rw [h.2]; exact Frm.refl _ _⟩
    · obtain rfl : j = 30 := by omega
      obtain rfl : v = 28405674184610153277 := by rw [hv]; decide +kernel
      rw [show mulC 63 31 = 916312070471295267 by decide +kernel]
      exact (div64_63_31 w).mono fun e w' h => ⟨h.1, by rw [h.2]; exact Frm.refl _ _⟩
    · obtain rfl : j = 31 := by omega
      obtain rfl : v = 29321986255081448544 := by rw [hv]; decide +kernel
      rw [show mulC 63 32 = 916312070471295267 by decide +kernel]
      exact (div64_63_32 w).mono fun e w' h => ⟨h.1, by rw [h.2]; exact Frm.refl _ _⟩
    · obtain rfl : j = 26 := by omega
      obtain rfl : v = 22859198418833550144 := by rw [hv]; decide +kernel
      rw [show mulC 64 27 = 846636978475316672 by decide +kernel]
      exact (div64_64_27 w).mono fun e w' h => ⟨h.1, by rw [h.2]; exact Frm.refl _ _⟩
    · obtain rfl : j = 27 := by omega
      obtain rfl : v = 31325568203586716864 := by rw [hv]; decide +kernel
      rw [show mulC 64 28 = 1118770292985239888 by decide +kernel]
      exact (div64_64_28 w).mono fun e w' h => ⟨h.1, by rw [h.2]; exact Frm.refl _ _⟩
    · obtain rfl : j = 28 := by omega
      obtain rfl : v = 40275730547468635968 := by rw [hv]; decide +kernel
      rw [show mulC 64 29 = 1388818294740297792 by decide +kernel]
      exact (div64_64_29 w).mono fun e w' h => ⟨h.1, by rw [h.2]; exact Frm.refl _ _⟩
    · obtain rfl : j = 29 := by omega
      obtain rfl : v = 48608640315910422720 := by rw [hv]; decide +kernel
      rw [show mulC 64 30 = 1620288010530347424 by decide +kernel]
      exact (div64_64_30 w).mono fun e w' h => ⟨h.1, by rw [h.2]; exact Frm.refl _ _⟩
    · obtain rfl : j = 30 := by omega
      obtain rfl : v = 55089792358031812416 := by rw [hv]; decide +kernel
      rw [show mulC 64 31 = 1777090076065542336 by decide +kernel]
      exact (div64_64_31 w).mono fun e w' h => ⟨h.1, by rw [h.2]; exact Frm.refl _ _⟩
    · obtain rfl : j = 31 := by omega
      obtain rfl : v = 58643972510162897088 := by rw [hv]; decide +kernel
      rw [show mulC 64 32 = 1832624140942590534 by decide +kernel]
      exact (div64_64_32 w).mono fun e w' h => ⟨h.1, by rw [h.2]; exact Frm.refl _ _⟩
set_option maxRecDepth 10000 in
set_option maxHeartbeats 4000000 in
theorem choose_any (n k : Nat) (hn : n ≤ 64) (hk : k ≤ 64) (w : World) : Calls Tryd.prog 14 #[.int .i64 n, .int .i64 k] w fun e w' => e = .returned (.int .u64 ((chs n k : Nat) : Int)) ∧ Same w w' := by
  by_cases hkn : n < k
  · rw [chs_none hkn]
    have h1 : (n : Int) < k := by omega
    go_enter Tryd.func14, Tryd.ntmps14
    go_wp2
    go_ret
    exact ⟨rfl, Frm.refl _ _⟩
  · have h1 : ¬ (n : Int) < k := by omega
    by_cases hA : k ≤ n - k
    · have hA1 : (k : Int) ≤ (n : Int) - (k : Int) := by omega
      have hA2 : k + k ≤ n := by omega
      have hk32 : k ≤ 32 := by omega
      go_enter Tryd.func14, Tryd.ntmps14
      go_wp2
      go_loopw [5, 6] (fun c i wr => ∃ j : Nat, j ≤ k ∧ i = .int .i64 ((j + 1 : Nat) : Int) ∧ c = .int .u64 ((chs n j : Nat) : Int) ∧ Same w wr) (fun _ i _ => 66 - (intOf i).toNat)
      case atStart => exact ⟨0, by omega, rfl, by rw [chs_zero]; rfl, Frm.refl _ _⟩
      case round =>
        obtain ⟨j, hj, rfl, rfl, hs⟩ := hrel
        obtain ⟨i, hi⟩ : ∃ z, z = j + 1 := ⟨_, rfl⟩
        obtain ⟨c, hc⟩ : ∃ z, z = chs n j := ⟨_, rfl⟩
        have hcl : c < 18446744073709551616 := by rw [hc]; exact chs_u64 hn
        rw [← hi, ← hc]
        by_cases hlt : j < k
        · have hij : (i : Int) ≤ k := by omega
          obtain ⟨d, hd⟩ : ∃ z, z = n - j := ⟨_, rfl⟩
          have hsub : (n : Int) - (i : Int) + 1 = (d : Int) := by omega
          have hdl : d ≤ 64 := by omega
          have hw1 : IntKind.u64.wrap (d : Int) = d := IntWalk.u64_in _ (by omega)
          have hw2 : IntKind.u64.wrap (i : Int) = i := IntWalk.u64_in _ (by omega)
          have HMU := Lib.hid (mul64_any c d hcl (by omega) wr)
          have HDV := Lib.hid (fun w' => div64_chs n j hn (by omega) (by omega) (c * d) (by rw [hc, hd]) w')
          rw [← hi] at HDV
          have HI := Lib.hid hi
          have HS := Lib.hid hs
          obtain ⟨v, hv⟩ : ∃ z, z = c * d := ⟨_, rfl⟩
          rw [← hv] at HMU HDV
          clear hv hi hc hs hd
          go_wp2_with (fail)
          refine HMU.out.mono ?_
          rintro e w1 ⟨rfl, hw⟩
          have hs1 : Same w w1 := by rw [hw]; exact HS.out
          clear hw HMU
          have HDV1 := Lib.hid (HDV.out w1)
          clear HDV
          go_wp2_with (fail)
          refine HDV1.out.mono ?_
          rintro e w2 ⟨⟨r, rfl⟩, hs2⟩
          have HS2 := Lib.hid (hs1.trans hs2 (fun _ _ h => h))
          have hin : IntKind.i64.wrap ((i : Int) + 1) = ((i + 1 : Nat) : Int) := by rw [IntWalk.i64_in _ (by omega)]; simp
          clear hs1 hs2 HDV1
          go_wp2
          go_roundw
          case rel => exact ⟨j + 1, by omega, by rw [← HI.out]; first | rfl | go_num, by rw [HI.out], HS2.out⟩
          case measure => simp [intOf] <;> omega
        · obtain rfl : j = k := by omega
          have hij : ¬ (i : Int) ≤ j := by omega
          have HF := Lib.hid (show c = chs n j from hc)
          have HS := Lib.hid hs
          clear hi hc hs
          go_wp2
          go_ret
          exact ⟨by rw [← HF.out]; rfl, HS.out⟩
    · obtain ⟨m, hm⟩ : ∃ z, z = n - k := ⟨_, rfl⟩
      have hm1 : (n : Int) - (k : Int) = (m : Int) := by omega
      have hA1 : ¬ (k : Int) ≤ (m : Int) := by omega
      have hA2 : (m : Int) < (k : Int) := by omega
      have hA3 : ¬ k ≤ m := by omega
      have hA4 : m < k := by omega
      have hm2 : m + m ≤ n := by omega
      have hmn : m ≤ 32 := by omega
      have HFIN := Lib.hid (show chs n m = chs n k by rw [hm]; exact chs_sym (by omega))
      clear hm hA
      go_enter Tryd.func14, Tryd.ntmps14
      go_wp2
      go_loopw [5, 6] (fun c i wr => ∃ j : Nat, j ≤ m ∧ i = .int .i64 ((j + 1 : Nat) : Int) ∧ c = .int .u64 ((chs n j : Nat) : Int) ∧ Same w wr) (fun _ i _ => 66 - (intOf i).toNat)
      case atStart => exact ⟨0, by omega, rfl, by rw [chs_zero]; rfl, Frm.refl _ _⟩
      case round =>
        obtain ⟨j, hj, rfl, rfl, hs⟩ := hrel
        obtain ⟨i, hi⟩ : ∃ z, z = j + 1 := ⟨_, rfl⟩
        obtain ⟨c, hc⟩ : ∃ z, z = chs n j := ⟨_, rfl⟩
        have hcl : c < 18446744073709551616 := by rw [hc]; exact chs_u64 hn
        rw [← hi, ← hc]
        by_cases hlt : j < m
        · have hij : (i : Int) ≤ m := by omega
          obtain ⟨d, hd⟩ : ∃ z, z = n - j := ⟨_, rfl⟩
          have hsub : (n : Int) - (i : Int) + 1 = (d : Int) := by omega
          have hdl : d ≤ 64 := by omega
          have hw1 : IntKind.u64.wrap (d : Int) = d := IntWalk.u64_in _ (by omega)
          have hw2 : IntKind.u64.wrap (i : Int) = i := IntWalk.u64_in _ (by omega)
          have HMU := Lib.hid (mul64_any c d hcl (by omega) wr)
          have HDV := Lib.hid (fun w' => div64_chs n j hn (by omega) (by omega) (c * d) (by rw [hc, hd]) w')
          rw [← hi] at HDV
          have HI := Lib.hid hi
          have HS := Lib.hid hs
          obtain ⟨v, hv⟩ : ∃ z, z = c * d := ⟨_, rfl⟩
          rw [← hv] at HMU HDV
          clear hv hi hc hs hd
          go_wp2_with (fail)
          refine HMU.out.mono ?_
          rintro e w1 ⟨rfl, hw⟩
          have hs1 : Same w w1 := by rw [hw]; exact HS.out
          clear hw HMU
          have HDV1 := Lib.hid (HDV.out w1)
          clear HDV
          go_wp2_with (fail)
          refine HDV1.out.mono ?_
          rintro e w2 ⟨⟨r, rfl⟩, hs2⟩
          have HS2 := Lib.hid (hs1.trans hs2 (fun _ _ h => h))
          have hin : IntKind.i64.wrap ((i : Int) + 1) = ((i + 1 : Nat) : Int) := by rw [IntWalk.i64_in _ (by omega)]; simp
          clear hs1 hs2 HDV1
          go_wp2
          go_roundw
          case rel => exact ⟨j + 1, by omega, by rw [← HI.out]; first | rfl | go_num, by rw [HI.out], HS2.out⟩
          case measure => simp [intOf] <;> omega
        · obtain rfl : j = m := by omega
          have hij : ¬ (i : Int) ≤ j := by omega
          have HF := Lib.hid (show c = chs n k by rw [hc, HFIN.out])
          have HS := Lib.hid hs
          clear hi hc hs
          go_wp2
          go_ret
          exact ⟨by rw [← HF.out]; rfl, HS.out⟩
end Go.Proofs.YtiojbmcjcefdkaaDoor


/- Masks: Below, Choose, Unrank, After, Next, Of. -/
namespace Go.Proofs.YtiojbmcjcefdkaaDoor
open Go.RowKit Go.Tk Go.Shelf

def belN (n : Int) : Nat := if n < 1 then 0 else if 63 < n then 18446744073709551615 else 2 ^ n.toNat - 1
theorem below_any (n : Int) (w : World) : Calls Tryd.prog 9 #[.int .i64 n] w fun e w' => e = .returned (.int .u64 ((belN n : Nat) : Int)) ∧ w' = w := by
  unfold belN
  by_cases h1 : n < 1
  · rw [if_pos h1]
    go_enter Tryd.func9, Tryd.ntmps9
    go_wp2
    go_ret
    exact ⟨rfl, rfl⟩
  · rw [if_neg h1]
    by_cases h2 : 63 < n
    · rw [if_pos h2]
      go_enter Tryd.func9, Tryd.ntmps9
      go_wp2
      go_ret
      exact ⟨rfl, rfl⟩
    · rw [if_neg h2]
      obtain ⟨m, rfl⟩ := Int.eq_ofNat_of_zero_le (show 0 ≤ n by omega)
      have hm2 : m ≤ 63 := by omega
      have hp : 2 ^ m ≤ 2 ^ 63 := Nat.pow_le_pow_right (by omega) hm2
      have hp0 : 0 < 2 ^ m := Nat.pow_pos (by omega)
      have h3 : (2 : Int) ^ m = ((2 ^ m : Nat) : Int) := by rw [Int.natCast_pow]; rfl
      rw [Int.toNat_natCast]
      obtain ⟨P, hP⟩ : ∃ z, z = 2 ^ m := ⟨_, rfl⟩
      rw [← hP] at hp hp0 h3 ⊢
      have hmm : min m 64 = m := by omega
      have hw : IntKind.u64.wrap ((2 : Int) ^ m) = (P : Int) := by rw [h3]; exact IntWalk.u64_in _ (by omega)
      have hw2 : IntKind.u64.wrap ((P : Int) - 1) = ((P - 1 : Nat) : Int) := by rw [IntWalk.u64_in _ (by omega)]; omega
      clear h3 hP
      go_enter Tryd.func9, Tryd.ntmps9
      go_wp2
      go_ret
      exact ⟨rfl, rfl⟩
def chE (n k : Int) : Int := if n < 0 ∨ 64 < n ∨ k < 0 ∨ 64 < k then 1 else 0
def chV (n k : Int) : Nat := if n < 0 ∨ 64 < n ∨ k < 0 ∨ 64 < k then 0 else chs n.toNat k.toNat
theorem chooseA_any (n k : Int) (w : World) : Calls Tryd.prog 4 #[.int .i64 n, .int .i64 k] w fun e w' => e = .returned (.tuple #[.int .u64 ((chV n k : Nat) : Int), .int .i64 (chE n k)]) ∧ Same w w' := by
  unfold chV chE
  by_cases hb : n < 0 ∨ 64 < n ∨ k < 0 ∨ 64 < k
  · rw [if_pos hb, if_pos hb]
    by_cases h1 : n < 0
    · clear hb
      go_enter Tryd.func4, Tryd.ntmps4
      go_wp2
      go_ret2
      exact ⟨rfl, Frm.refl _ _⟩
    by_cases h2 : 64 < n
    · clear hb
      go_enter Tryd.func4, Tryd.ntmps4
      go_wp2
      go_ret2
      exact ⟨rfl, Frm.refl _ _⟩
    by_cases h3 : k < 0
    · clear hb
      go_enter Tryd.func4, Tryd.ntmps4
      go_wp2
      go_ret2
      exact ⟨rfl, Frm.refl _ _⟩
    · have h4 : 64 < k := by omega
      clear hb
      go_enter Tryd.func4, Tryd.ntmps4
      go_wp2
      go_ret2
      exact ⟨rfl, Frm.refl _ _⟩
  · rw [if_neg hb, if_neg hb]
    obtain ⟨a, rfl⟩ := Int.eq_ofNat_of_zero_le (show 0 ≤ n by omega)
    obtain ⟨b, rfl⟩ := Int.eq_ofNat_of_zero_le (show 0 ≤ k by omega)
    rw [Int.toNat_natCast, Int.toNat_natCast]
    have h1 : ¬ (a : Int) < 0 := by omega
    have h2 : ¬ (64 : Int) < a := by omega
    have h3 : ¬ (b : Int) < 0 := by omega
    have h4 : ¬ (64 : Int) < b := by omega
    have HC := Lib.hid (choose_any a b (by omega) (by omega) w)
    clear hb
    go_enter Tryd.func4, Tryd.ntmps4
    go_wp2_with (fail)
    refine HC.out.mono ?_
    rintro e w1 ⟨rfl, hs⟩
    have HS := Lib.hid hs
    clear hs HC
    go_wp2
    go_ret2
    exact ⟨rfl, HS.out⟩
/-! After -/
def afR (s : Nat) : Nat :=
  if s = 0 then 0 else
    if (s + (s &&& (18446744073709551616 - s))) % 18446744073709551616 = 0 then 0
    else ((s + (s &&& (18446744073709551616 - s))) % 18446744073709551616) ||| ((s ^^^ ((s + (s &&& (18446744073709551616 - s))) % 18446744073709551616)) / 4 / (s &&& (18446744073709551616 - s)))
theorem after_any (s : Nat) (hs : s < 18446744073709551616) (w : World) : Calls Tryd.prog 10 #[.int .u64 s] w fun e w' => e = .returned (.int .u64 ((afR s : Nat) : Int)) ∧ w' = w := by
  unfold afR
  by_cases h0 : s = 0
  · subst h0
    rw [if_pos rfl]
    go_enter Tryd.func10, Tryd.ntmps10
    go_wp2
    go_ret
    exact ⟨rfl, rfl⟩
  · rw [if_neg h0]
    have hb : ((s : Int) == 0) = false := by rw [beq_eq_false_iff_ne]; omega
    have hneg : IntKind.u64.wrap (-(s : Int)) = ((18446744073709551616 - s : Nat) : Int) := by rw [IntKind.wrap_u64]; omega
    obtain ⟨low, hlow⟩ : ∃ z, z = s &&& (18446744073709551616 - s) := ⟨_, rfl⟩
    have hand : bits .and .u64 (s : Int) (IntKind.u64.wrap (-(s : Int))) = (low : Int) := by rw [hneg, hlow]; exact u64_and_nat s _ hs (by omega)
    have hand2 : bits .and .u64 (s : Int) ((18446744073709551616 - s : Nat) : Int) = (low : Int) := by rw [hlow]; exact u64_and_nat s _ hs (by omega)
    have hl0 : ¬ low = 0 := by
      rw [hlow]
      obtain ⟨h1, h2⟩ := Lib.lowest_bit 64 s h0 hs
      have h3 : s &&& (18446744073709551616 - s) = 2 ^ Lib.ctz 64 s := h1
      rw [h3]
      exact Nat.pos_iff_ne_zero.1 (Nat.pow_pos (by omega))
    have hll : low < 18446744073709551616 := by rw [hlow]; exact Nat.lt_of_le_of_lt Nat.and_le_left hs
    rw [← hlow]
    clear hlow
    obtain ⟨up, hup⟩ : ∃ z, z = (s + low) % 18446744073709551616 := ⟨_, rfl⟩
    have hadd : IntKind.u64.wrap ((s : Int) + (low : Int)) = (up : Int) := by rw [hup, IntKind.wrap_u64]; omega
    have hul : up < 18446744073709551616 := by rw [hup]; exact Nat.mod_lt _ (by decide)
    rw [← hup]
    clear hup
    by_cases hu0 : up = 0
    · rw [if_pos hu0]
      have hub : ((up : Int) == 0) = true := by rw [hu0]; rfl
      clear hu0
      go_enter Tryd.func10, Tryd.ntmps10
      go_wp2
      go_ret
      exact ⟨rfl, rfl⟩
    · rw [if_neg hu0]
      have hub : ((up : Int) == 0) = false := by rw [beq_eq_false_iff_ne]; omega
      have hl1 : ¬ (low : Int) = 0 := by omega
      obtain ⟨x, hx⟩ : ∃ z, z = s ^^^ up := ⟨_, rfl⟩
      have hxor : bits .xor .u64 (s : Int) (up : Int) = (x : Int) := by rw [hx]; exact u64_xor_nat s up hs hul
      have hxl : x < 18446744073709551616 := by rw [hx]; exact Nat.xor_lt_two_pow (n := 64) hs hul
      rw [← hx]
      obtain ⟨y, hy⟩ : ∃ z, z = x / 4 := ⟨_, rfl⟩
      have hsh : (x : Int) / 4 = (y : Int) := by omega
      have hyl : y < 18446744073709551616 := by omega
      rw [← hy]
      obtain ⟨q, hq⟩ : ∃ z, z = y / low := ⟨_, rfl⟩
      have hql : q ≤ y := by rw [hq]; exact Nat.div_le_self _ _
      have e1 : (y : Int) / (low : Int) = (q : Int) := by rw [hq, Int.natCast_ediv]
      have e2 : (y : Int).tdiv (low : Int) = (q : Int) := by rw [Int.tdiv_eq_ediv_of_nonneg (Int.natCast_nonneg _), e1]
      have hqw : IntKind.u64.wrap (q : Int) = q := IntWalk.u64_in _ (by clear e1 e2; omega)
      rw [← hq]
      have hor := u64_or_nat up q hul (by clear e1 e2; omega)
      clear hx hy hq hneg hql hxl hyl
      go_enter Tryd.func10, Tryd.ntmps10
      go_wp2
      go_ret
      exact ⟨rfl, rfl⟩
/-! Next -/
def nxR (s : Nat) (i : Int) : Int :=
  if 63 ≤ i then -1 else if s &&& (18446744073709551615 - belN (i + 1)) = 0 then -1 else (Lib.ctz 64 (s &&& (18446744073709551615 - belN (i + 1))) : Nat)
theorem belN_lt (n : Int) : belN n < 18446744073709551616 := by
  unfold belN
  split
  · decide
  · split
    · decide
    · have : 2 ^ n.toNat ≤ 2 ^ 63 := Nat.pow_le_pow_right (by omega) (by omega)
      omega
theorem next_any (s : Nat) (i : Int) (hs : s < 18446744073709551616) (hi1 : -9223372036854775808 ≤ i) (hi2 : i ≤ 9223372036854775807) (w : World) (hT : Tab64 w) : Calls Tryd.prog 13 #[.int .u64 s, .int .i64 i] w fun e w' => e = .returned (.int .i64 (nxR s i)) ∧ w' = w := by
  unfold nxR
  by_cases h1 : 63 ≤ i
  · rw [if_pos h1]
    obtain ⟨b, hb⟩ : ∃ z, z = IntKind.i64.wrap (i + 1) := ⟨_, rfl⟩
    have HB := Lib.hid (below_any b w)
    have hand := u64_andNot_nat s (belN b) hs (belN_lt b)
    obtain ⟨t, ht⟩ : ∃ z, z = s &&& (18446744073709551615 - belN b) := ⟨_, rfl⟩
    rw [← ht] at hand
    obtain ⟨c, hc⟩ : ∃ z, z = belN b := ⟨_, rfl⟩
    rw [← hc] at hand HB
    have hb2 : wrap64 (i + 1) = b := by rw [hb]; simp [IntKind.wrap_i64, wrap64]
    clear ht hc
    go_enter Tryd.func13, Tryd.ntmps13
    go_wp2_with (fail)
    first | rw [hb2] | rw [← hb] | skip
    refine HB.out.mono ?_
    rintro e w' ⟨rfl, rfl⟩
    clear hb hb2 HB
    go_wp2
    go_ret
    exact ⟨rfl, rfl⟩
  · rw [if_neg h1]
    have HB := Lib.hid (below_any (i + 1) w)
    have hand := u64_andNot_nat s (belN (i + 1)) hs (belN_lt (i + 1))
    obtain ⟨t, ht⟩ : ∃ z, z = s &&& (18446744073709551615 - belN (i + 1)) := ⟨_, rfl⟩
    have htl : t < 18446744073709551616 := by rw [ht]; exact Nat.lt_of_le_of_lt Nat.and_le_left hs
    rw [← ht] at hand ⊢
    obtain ⟨c, hc⟩ : ∃ z, z = belN (i + 1) := ⟨_, rfl⟩
    rw [← hc] at hand HB
    have HTZ := Lib.hid (tz64_any t htl w hT)
    have h2 : ¬ (63 : Int) ≤ i := h1
    clear ht hc
    by_cases ht0 : t = 0
    · rw [if_pos ht0]
      have hb0 : ((t : Int) == 0) = true := by rw [ht0]; rfl
      clear ht0
      go_enter Tryd.func13, Tryd.ntmps13
      go_wp2_with (fail)
      refine HB.out.mono ?_
      rintro e w' ⟨rfl, rfl⟩
      go_wp2
      go_ret
      exact ⟨rfl, rfl⟩
    · rw [if_neg ht0]
      have hb0 : ((t : Int) == 0) = false := by rw [beq_eq_false_iff_ne]; omega
      clear ht0
      go_enter Tryd.func13, Tryd.ntmps13
      go_wp2_with (fail)
      refine HB.out.mono ?_
      rintro e w' ⟨rfl, rfl⟩
      go_wp2_with (fail)
      refine HTZ.out.mono ?_
      rintro e w'' ⟨rfl, rfl⟩
      go_wp2
      go_ret
      exact ⟨rfl, rfl⟩
end Go.Proofs.YtiojbmcjcefdkaaDoor


/- Masks: lists that are answered. -/
namespace Go.Tk
open Go.RowKit
theorem Same.app {w0 w wa wb : World} {A : Option Addr} {N C : Nat} (h : Same w0 w) (ha : Same w wa) (hg : wa.grownBy wb (Value.slice A N C).ownBlock) (hA : Fresh w0.heap.size A) : Same w0 wb :=
  (h.trans ha (fun _ _ h => h)).grown hg (fun g hg => .inr (hA g (ownBlock_row.1 hg)))
theorem fresh_app {w0 w wa : World} {A : Option Addr} {N C g : Nat} (h : Same w0 w) (ha : Same w wa) (hA : Fresh w0.heap.size A) (hat : (Value.slice A N C).ownBlock = some g ∨ g = wa.heap.size) : Fresh w0.heap.size (some ⟨g, 0, none⟩) := by
  refine fresh_some ?_
  have := h.size
  have := ha.size
  rcases hat with h | h
  · exact hA g (ownBlock_row.1 h)
  · omega
theorem take_snoc {α : Type} {xs : List α} {k : Nat} {x : α} (h : xs[k]? = some x) : xs.take (k + 1) = xs.take k ++ [x] := by
  rw [List.take_add_one, h]; rfl
end Go.Tk
namespace Go.Proofs.YtiojbmcjcefdkaaDoor
open Go.RowKit Go.Tk
theorem info_int : (Tryd.prog.info? 3).map (fun i => (i.zero, i.size, i.bytes)) = some (some (.int .i64 0), 1, 8) := by kernel_rfl
/-- a list of the call's own -/
def NewL (w : World) (ys : List Int) (A : Option Addr) (C : Nat) (w' : World) : Prop := OwnI w' 3 A ys.length C ys ∧ Fresh w.heap.size A ∧ Same w w'
theorem NewL.nil (w : World) : NewL w [] none 0 w := ⟨Own.nil _ _ _ _, fresh_none _, Frm.refl _ _⟩
theorem NewL.il {w w' : World} {ys : List Int} {A : Option Addr} {C : Nat} (h : NewL w ys A C w') : IL w' A ys.length ys := Own.il h.1
/-- the members, as numbers -/
def memI (s n : Nat) : List Int := (mems s n).map fun (i : Nat) => (i : Int)
theorem memI_succ (s n : Nat) : memI s (n + 1) = memI s n ++ (if s / 2 ^ n % 2 = 1 then [(n : Int)] else []) := by
  unfold memI
  rw [mems_succ, List.map_append, Nat.testBit_eq_decide_div_mod_eq]
  by_cases h : s / 2 ^ n % 2 = 1
  · rw [if_pos h, if_pos (by simpa using h)]; rfl
  · rw [if_neg h, if_neg (by simpa using h)]; rfl
theorem memI_le (s : Nat) : ∀ n, (memI s n).length ≤ n := by
  intro n
  unfold memI mems
  rw [List.length_map]
  exact Nat.le_trans (List.length_filter_le _ _) (by simp)
end Go.Proofs.YtiojbmcjcefdkaaDoor


/- Masks: Unrank, Of. -/
namespace Go.Proofs.YtiojbmcjcefdkaaDoor
open Go.RowKit Go.Tk Go.Shelf

def unE (k : Int) (r : Nat) : Int := if k < 0 ∨ 64 < k ∨ chs 64 k.toNat ≤ r then 1 else 0
def unV (k : Int) (r : Nat) : Nat := if k < 0 ∨ 64 < k ∨ chs 64 k.toNat ≤ r then 0 else unS 64 k.toNat r
theorem or_up {S M : Nat} (h : S % 2 ^ (M + 1) = 0) : S ||| 2 ^ M = S + 2 ^ M := by
  have h2 : 2 ^ M < 2 ^ (M + 1) := Nat.pow_lt_pow_right (by omega) (by omega)
  have h3 : S = 2 ^ (M + 1) * (S / 2 ^ (M + 1)) := by have := Nat.div_add_mod S (2 ^ (M + 1)); omega
  rw [h3]
  exact (Nat.two_pow_add_eq_or_of_lt h2 _).symm
theorem mod_down {S M : Nat} (h : S % 2 ^ (M + 1) = 0) : S % 2 ^ M = 0 ∧ (S + 2 ^ M) % 2 ^ M = 0 := by
  have h1 : S % 2 ^ M = 0 := by
    have := Nat.mod_mod_of_dvd S (Nat.pow_dvd_pow 2 (show M ≤ M + 1 by omega))
    rw [h] at this
    simpa using this.symm
  exact ⟨h1, by rw [Nat.add_mod, Nat.mod_self, h1]; simp⟩
set_option maxRecDepth 10000 in
set_option maxHeartbeats 8000000 in
theorem unrank_any (k : Int) (r : Nat) (_hr : r < 18446744073709551616) (w : World) : Calls Tryd.prog 6 #[.int .i64 k, .int .u64 r] w fun e w' => e = .returned (.tuple #[.int .u64 ((unV k r : Nat) : Int), .int .i64 (unE k r)]) ∧ Same w w' := by
  unfold unV unE
  by_cases h1 : k < 0
  · rw [if_pos (.inl h1), if_pos (.inl h1)]
    go_enter Tryd.func6, Tryd.ntmps6
    go_wp2
    go_ret2
    exact ⟨rfl, Frm.refl _ _⟩
  by_cases h2 : 64 < k
  · rw [if_pos (.inr (.inl h2)), if_pos (.inr (.inl h2))]
    go_enter Tryd.func6, Tryd.ntmps6
    go_wp2
    go_ret2
    exact ⟨rfl, Frm.refl _ _⟩
  obtain ⟨n, rfl⟩ := Int.eq_ofNat_of_zero_le (show 0 ≤ k by omega)
  rw [Int.toNat_natCast]
  have h3 : ¬ (n : Int) < 0 := h1
  have h4 : ¬ (64 : Int) < n := h2
  have hn : n ≤ 64 := by omega
  have HC := Lib.hid (choose_any 64 n (by omega) hn w)
  by_cases h5 : chs 64 n ≤ r
  · rw [if_pos (.inr (.inr h5)), if_pos (.inr (.inr h5))]
    obtain ⟨c, hc⟩ : ∃ z, z = chs 64 n := ⟨_, rfl⟩
    rw [← hc] at HC h5
    clear hc
    go_enter Tryd.func6, Tryd.ntmps6
    go_wp2_with (fail)
    refine HC.out.mono ?_
    rintro e w1 ⟨rfl, hs⟩
    have HS := Lib.hid hs
    have h6 : (r : Int) ≥ c := by omega
    clear hs HC
    go_wp2
    go_ret2
    exact ⟨rfl, HS.out⟩
  · have hno : ¬ ((n : Int) < 0 ∨ 64 < (n : Int) ∨ chs 64 n ≤ r) := by omega
    rw [if_neg hno, if_neg hno]
    have hru : r < chs 64 n := by omega
    obtain ⟨c, hc⟩ : ∃ z, z = chs 64 n := ⟨_, rfl⟩
    rw [← hc] at HC h5
    obtain ⟨U, hU⟩ : ∃ z, z = unS 64 n r := ⟨_, rfl⟩
    have hUl : U < 2 ^ 64 := by rw [hU]; exact unS_lt 64 n r
    rw [← hU]
    have HU := Lib.hid (show 0 + unS 64 n r = U by rw [hU, Nat.zero_add])
    have HRU := Lib.hid hru
    clear hc hno hU hru
    go_enter Tryd.func6, Tryd.ntmps6
    go_wp2_with (fail)
    refine HC.out.mono ?_
    rintro e w1 ⟨rfl, hs⟩
    have HS := Lib.hid hs
    have h6 : ¬ (r : Int) ≥ c := by omega
    clear hs HC
    go_wp2
    go_loopw [0, 1, 6, 7] (fun a b s m wr => ∃ (K R S M : Nat) (mi : Int), a = .int .i64 K ∧ b = .int .u64 R ∧ s = .int .u64 S ∧ m = .int .i64 mi ∧ mi + 1 = M ∧ M ≤ 64 ∧ K ≤ 64 ∧ R < chs M K ∧ S % 2 ^ M = 0 ∧ S + unS M K R = U ∧ Same w wr) (fun _ _ _ m _ => (intOf m + 1).toNat)
    case atStart => exact ⟨n, r, 0, 64, 63, rfl, rfl, rfl, rfl, by omega, by omega, hn, HRU.out, by simp, HU.out, HS.out⟩
    case round =>
      clear HS h6 h5 h3 h4 h1 h2 HU HRU
      obtain ⟨K, R, S, M, mi, rfl, rfl, rfl, rfl, hmi, hM, hK, hR, hS, hSU, hs⟩ := hrel
      have HSW := Lib.hid hs
      clear hs
      by_cases hK0 : 0 < K
      · obtain ⟨j, rfl⟩ : ∃ j, K = j + 1 := ⟨K - 1, by omega⟩
        obtain ⟨M', rfl⟩ : ∃ j, M = j + 1 := by
          cases M with
          | zero => rw [show chs 0 (j + 1) = 0 from rfl] at hR; omega
          | succ M => exact ⟨M, rfl⟩
        obtain rfl : mi = (M' : Int) := by omega
        have HCM := Lib.hid (choose_any M' (j + 1) (by omega) hK wr)
        rw [unS_succ] at hSU
        rw [chs_succ] at hR
        obtain ⟨hd1, hd2⟩ := mod_down hS
        have hor := or_up hS
        have hp63 : 2 ^ M' ≤ 2 ^ 63 := Nat.pow_le_pow_right (by omega) (by omega)
        have hpi : (2 : Int) ^ M' = ((2 ^ M' : Nat) : Int) := by rw [Int.natCast_pow]; rfl
        have hul := unS_lt M' j (R - chs M' (j + 1))
        obtain ⟨P, hP⟩ : ∃ z, z = 2 ^ M' := ⟨_, rfl⟩
        rw [← hP] at hd1 hd2 hor hp63 hpi hSU hul
        obtain ⟨cm, hcm⟩ : ∃ z, z = chs M' (j + 1) := ⟨_, rfl⟩
        have hcl : cm < 18446744073709551616 := by rw [hcm]; exact chs_u64 (by omega)
        rw [← hcm] at HCM hSU hR hul
        have HP := Lib.hid hP
        have HCMD := Lib.hid hcm
        have hmm : min M' 64 = M' := by omega
        have hPw : IntKind.u64.wrap ((2 : Int) ^ M') = (P : Int) := by rw [hpi]; exact IntWalk.u64_in _ (by omega)
        obtain ⟨k1, hk1⟩ : ∃ z, z = j + 1 := ⟨_, rfl⟩
        have hkj : (k1 : Int) - 1 = (j : Int) := by omega
        rw [← hk1] at HCM ⊢
        have HK1 := Lib.hid hk1
        have hk0 : (0 : Int) < k1 := by omega
        have hM0 : (0 : Int) ≤ M' := by omega
        by_cases hge : cm ≤ R
        · rw [if_pos hge] at hSU
          have hge1 : (R : Int) ≥ cm := by omega
          have hsub : (R : Int) - (cm : Int) = ((R - cm : Nat) : Int) := by omega
          have hRl : R - cm < 18446744073709551616 := by
            have : chs M' j < 18446744073709551616 := chs_u64 (by omega)
            omega
          have hsw : IntKind.u64.wrap ((R - cm : Nat) : Int) = ((R - cm : Nat) : Int) := IntWalk.u64_in _ (by omega)
          have hor2 : bits .or .u64 (S : Int) (P : Int) = ((S + P : Nat) : Int) := by rw [← hor]; exact u64_or_nat S P (by omega) (by omega)
          have hS2 : S + P + unS M' j (R - cm) = U := by omega
          have HS2 := Lib.hid hS2
          have HR2 := Lib.hid (show R - cm < chs M' j by omega)
          have HD2 := Lib.hid (show (S + P) % 2 ^ M' = 0 by rw [← HP.out]; exact hd2)
          obtain ⟨R', hR'⟩ : ∃ z, z = R - cm := ⟨_, rfl⟩
          rw [← hR'] at hsub hsw HS2 HR2
          obtain ⟨S', hS'⟩ : ∃ z, z = S + P := ⟨_, rfl⟩
          rw [← hS'] at hor2 HS2 HD2
          clear hSU hR hS hd1 hd2 hor hpi hul hP hcm hk1 hge hS2 hR' hS' HCMD hp63 hcl
          go_wp2_with (fail)
          refine HCM.out.mono ?_
          rintro e w2 ⟨rfl, hs⟩
          have HSX := Lib.hid (HSW.out.trans hs (fun _ _ h => h))
          clear hs HCM
          go_wp2
          go_roundw
          case rel => exact ⟨j, R', S', M', (M' : Int) - 1, by go_num, rfl, rfl, by go_num, by omega, by omega, by omega, HR2.out, HD2.out, HS2.out, HSX.out⟩
          case measure => simp [intOf]
        · rw [if_neg hge] at hSU
          have hge1 : ¬ (R : Int) ≥ cm := by omega
          have HS2 := Lib.hid hSU
          have HR2 := Lib.hid (show R < chs M' k1 by rw [HK1.out, ← HCMD.out]; omega)
          have HD2 := Lib.hid (show S % 2 ^ M' = 0 by rw [← HP.out]; exact hd1)
          rw [← HK1.out] at HS2
          have hk64 : k1 ≤ 64 := by omega
          clear hSU hR hS hd1 hd2 hor hpi hul hP hcm hk1 hge HCMD hp63 hcl hPw hkj
          go_wp2_with (fail)
          refine HCM.out.mono ?_
          rintro e w2 ⟨rfl, hs⟩
          have HSX := Lib.hid (HSW.out.trans hs (fun _ _ h => h))
          clear hs HCM
          go_wp2
          go_roundw
          case rel => exact ⟨k1, R, S, M', (M' : Int) - 1, rfl, rfl, rfl, by go_num, by omega, by omega, hk64, HR2.out, HD2.out, HS2.out, HSX.out⟩
          case measure => simp [intOf]
      · obtain rfl : K = 0 := by omega
        rw [unS_zero, Nat.add_zero] at hSU
        subst hSU
        clear hR hS hmi hM hK hK0 hUl
        go_wp2
        go_ret2
        exact ⟨rfl, HSW.out⟩
/-! Of -/
def setOf (xs : List Int) : Nat := xs.foldl (fun s i => s ||| 2 ^ i.toNat) 0
def inR (xs : List Int) : Bool := xs.all fun i => decide (0 ≤ i) && decide (i ≤ 63)
theorem setOf_snoc (xs : List Int) (x : Int) : setOf (xs ++ [x]) = setOf xs ||| 2 ^ x.toNat := by simp [setOf]
theorem setOf_lt : ∀ (xs : List Int) (s : Nat), s < 18446744073709551616 → inR xs = true → xs.foldl (fun s i => s ||| 2 ^ i.toNat) s < 18446744073709551616
  | [], _, h, _ => h
  | x :: xs, s, h, hr => by
    have hr2 : (decide (0 ≤ x) && decide (x ≤ 63)) = true ∧ inR xs = true := by
      unfold inR at hr ⊢
      rw [List.all_cons, Bool.and_eq_true] at hr
      exact hr
    have hx : 0 ≤ x ∧ x ≤ 63 := by simpa using hr2.1
    refine setOf_lt xs _ ?_ hr2.2
    have hp : 2 ^ x.toNat < 2 ^ 64 := Nat.pow_lt_pow_right (by omega) (by omega)
    exact Nat.or_lt_two_pow (n := 64) h hp
def ofV (xs : List Int) : Nat := if inR xs then setOf xs else 0
def ofE1 (xs : List Int) : Int := if inR xs then 0 else 2
set_option maxRecDepth 10000 in
set_option maxHeartbeats 4000000 in
theorem of1_any (A : Option Addr) (n C : Nat) (xs : List Int) (w : World) (h : IL w A n xs) (hn : n ≤ 1000000000000000000) : Calls Tryd.prog 12 #[.slice A n C] w fun e w' => e = .returned (.tuple #[.int .u64 ((ofV xs : Nat) : Int), .int .i64 (ofE1 xs)]) ∧ Same w w' := by
  have H := Lib.hid h
  have HL := Lib.hid h.len
  clear h
  go_enter Tryd.func12, Tryd.ntmps12
  go_wp2
  go_loopw [4, 9] (fun s i wr => ∃ k : Nat, k ≤ n ∧ i = .int .i64 k ∧ inR (xs.take k) = true ∧ s = .int .u64 ((setOf (xs.take k) : Nat) : Int) ∧ Same w wr) (fun _ i _ => n - (intOf i).toNat)
  case atStart => exact ⟨0, by omega, rfl, rfl, rfl, Frm.refl _ _⟩
  case round =>
    obtain ⟨k, hk, rfl, hin, rfl, hs⟩ := hrel
    have HIN := Lib.hid hin
    have HS := Lib.hid hs
    by_cases hlt : k < n
    · obtain ⟨x, hx⟩ : ∃ x, xs[k]? = some x := ⟨_, List.getElem?_eq_getElem (by rw [← HL.out]; exact hlt)⟩
      obtain ⟨b, o, rfl, hb, hc⟩ := (Sl.same H.out hs).at1 hx
      have hk0 : (0 : Int) ≤ k := by omega
      have hk1 : (k : Int) < n := by omega
      by_cases h0 : x < 0 ∨ 63 < x
      · have hbad : inR xs = false := by
          unfold inR
          rw [List.all_eq_false]
          exact ⟨x, List.mem_of_getElem? hx, by simp <;> omega⟩
        have HV := Lib.hid (show ofV xs = 0 by unfold ofV; rw [hbad]; rfl)
        have HE := Lib.hid (show ofE1 xs = 2 by unfold ofE1; rw [hbad]; rfl)
        clear hbad hin hs hx
        by_cases h1 : x < 0
        · clear h0
          go_wp2
          go_ret2
          exact ⟨by rw [HV.out, HE.out]; rfl, HS.out⟩
        · have h2 : 63 < x := by omega
          clear h0
          go_wp2
          go_ret2
          exact ⟨by rw [HV.out, HE.out]; rfl, HS.out⟩
      · have h1 : ¬ x < 0 := by omega
        have h2 : ¬ 63 < x := by omega
        obtain ⟨v, rfl⟩ := Int.eq_ofNat_of_zero_le (show 0 ≤ x by omega)
        have hv : v ≤ 63 := by omega
        have htk : xs.take (k + 1) = xs.take k ++ [(v : Int)] := by rw [List.take_add_one, hx]; rfl
        have HSN := Lib.hid (show setOf (xs.take (k + 1)) = setOf (xs.take k) ||| 2 ^ v by rw [htk, setOf_snoc, Int.toNat_natCast])
        have HIN2 := Lib.hid (show inR (xs.take (k + 1)) = true by
          rw [htk]
          unfold inR at hin ⊢
          rw [List.all_append, hin]
          simp
          omega)
        have hsl := setOf_lt (xs.take k) 0 (by omega) hin
        obtain ⟨s, hsd⟩ : ∃ z, z = setOf (xs.take k) := ⟨_, rfl⟩
        have hsl2 : s < 18446744073709551616 := by rw [hsd]; exact hsl
        have hp : 2 ^ v < 2 ^ 64 := Nat.pow_lt_pow_right (by omega) (by omega)
        have hpi : (2 : Int) ^ v = ((2 ^ v : Nat) : Int) := by rw [Int.natCast_pow]; rfl
        rw [← hsd] at HSN
        obtain ⟨P, hP⟩ : ∃ z, z = 2 ^ v := ⟨_, rfl⟩
        rw [← hP] at HSN hp hpi
        have hPw : IntKind.u64.wrap ((2 : Int) ^ v) = (P : Int) := by rw [hpi]; exact IntWalk.u64_in _ (by omega)
        have hmm : min v 64 = v := by omega
        have hv0 : (0 : Int) ≤ v := by omega
        have hor := u64_or_nat s P hsl2 (by omega)
        rw [← hsd]
        clear hin hs hx h0 htk hsl hsd hpi hP hp
        go_wp2
        go_roundw
        case rel => exact ⟨k + 1, by omega, by go_num, HIN2.out, by rw [HSN.out], HS.out⟩
        case measure => simp [intOf] <;> omega
    · obtain rfl : k = n := by omega
      have htk : xs.take k = xs := List.take_of_length_le (by rw [← HL.out]; exact Nat.le_refl _)
      rw [htk] at hin ⊢
      have HV := Lib.hid (show ofV xs = setOf xs by unfold ofV; rw [hin]; rfl)
      have HE := Lib.hid (show ofE1 xs = 0 by unfold ofE1; rw [hin]; rfl)
      clear hin htk hs
      go_wp2
      go_ret2
      exact ⟨by rw [HV.out, HE.out]; rfl, HS.out⟩
end Go.Proofs.YtiojbmcjcefdkaaDoor


/- Masks: the reference's Set. -/
namespace Go.Proofs.YtiojbmcjcefdkaaDoor
open Go.RowKit Go.Tk

/-- the set, from the top -/
def stF (l : List Int) : Nat → Nat
  | 0 => 0
  | m + 1 => 2 * stF l m + (if ((63 : Int) - m) ∈ l then 1 else 0)
theorem stF_lt (l : List Int) : ∀ m, stF l m < 2 ^ m
  | 0 => by show 0 < 1; omega
  | m + 1 => by
    have := stF_lt l m
    show 2 * stF l m + (if _ then 1 else 0) < 2 ^ (m + 1)
    rw [Nat.pow_succ]
    split <;> omega
theorem stF_bit (l : List Int) : ∀ (m k : Nat), m ≤ 64 → (stF l m).testBit k = decide (k < m ∧ ((64 : Int) - m + k) ∈ l)
  | 0, k, _ => by show (0 : Nat).testBit k = _; simp
  | m + 1, k, hm => by
    show (2 * stF l m + (if ((63 : Int) - m) ∈ l then 1 else 0)).testBit k = _
    have hb : (if ((63 : Int) - m) ∈ l then 1 else 0) < 2 ^ 1 := by split <;> decide
    rw [show 2 * stF l m + (if ((63 : Int) - m) ∈ l then 1 else 0) = 2 ^ 1 * stF l m + (if ((63 : Int) - m) ∈ l then 1 else 0) from rfl, Nat.testBit_two_pow_mul_add _ hb]
    cases k with
    | zero =>
      rw [if_pos (by omega)]
      rw [show (64 : Int) - ((m + 1 : Nat) : Int) + ((0 : Nat) : Int) = 63 - m by omega]
      by_cases h : ((63 : Int) - m) ∈ l <;> simp [h]
    | succ k =>
      rw [if_neg (by omega), Nat.add_sub_cancel, stF_bit l m k (by omega)]
      rw [show (64 : Int) - ((m + 1 : Nat) : Int) + ((k + 1 : Nat) : Int) = 64 - m + k by omega]
      simp
theorem setOf_bit0 : ∀ (l : List Int) (s : Nat), inR l = true → ∀ k : Nat, (l.foldl (fun s i => s ||| 2 ^ i.toNat) s).testBit k = (s.testBit k || decide ((k : Int) ∈ l))
  | [], s, _, k => by simp
  | x :: l, s, h, k => by
    unfold inR at h
    rw [List.all_cons, Bool.and_eq_true] at h
    have h1 := h.1
    simp at h1
    rw [List.foldl_cons, setOf_bit0 l _ h.2 k, Nat.testBit_or, Nat.testBit_two_pow]
    have : decide (x.toNat = k) = decide ((k : Int) = x) := by
      rw [decide_eq_decide]; omega
    rw [this]
    by_cases a : (k : Int) ∈ l <;> simp [a]
theorem setOf_bit (l : List Int) (h : inR l = true) (k : Nat) : (setOf l).testBit k = decide ((k : Int) ∈ l) := by
  unfold setOf
  rw [setOf_bit0 l 0 h k]
  simp
theorem stF_setOf {l : List Int} (h : inR l = true) : stF l 64 = setOf l := by
  refine Nat.eq_of_testBit_eq fun k => ?_
  rw [stF_bit l 64 k (by omega), setOf_bit l h k]
  rw [decide_eq_decide]
  constructor
  · rintro ⟨_, h1⟩
    rwa [show (64 : Int) - ((64 : Nat) : Int) + k = k by omega] at h1
  · intro h1
    refine ⟨?_, by rwa [show (64 : Int) - ((64 : Nat) : Int) + k = k by omega]⟩
    unfold inR at h
    have := List.all_eq_true.1 h _ h1
    simp at this
    omega
end Go.Proofs.YtiojbmcjcefdkaaDoor


/- Masks: the reference's DocNext, DocBelow. -/
namespace Go.Proofs.YtiojbmcjcefdkaaDoor
open Go.RowKit Go.Tk

/-- the first member above i -/
def fnd (i : Int) (l : List Int) : Int := (l.find? fun j => decide (i < j)).getD (-1)
theorem fnd_none {i : Int} {l : List Int} (h : ∀ x ∈ l, ¬ i < x) : fnd i l = -1 := by
  unfold fnd
  rw [List.find?_eq_none.2 (by simpa using h)]
  rfl
theorem fnd_at {i : Int} {l : List Int} {k : Nat} {x : Int} (hx : l[k]? = some x) (h : ∀ y ∈ l.take k, ¬ i < y) (hi : i < x) : fnd i l = x := by
  have e : l = l.take k ++ x :: l.drop (k + 1) := by
    obtain ⟨hlt, rfl⟩ := List.getElem?_eq_some_iff.1 hx
    rw [List.getElem_cons_drop, List.take_append_drop]
  unfold fnd
  rw [e, List.find?_append, List.find?_eq_none.2 (by simpa using h)]
  simp [hi]
/-- the numbers below n -/
def blL (n : Int) (k : Nat) : List Int := ((List.range k).map fun (i : Nat) => (i : Int)).filter fun i => decide (i < n)
theorem blL_succ (n : Int) (k : Nat) : blL n (k + 1) = blL n k ++ (if (k : Int) < n then [(k : Int)] else []) := by
  unfold blL
  rw [List.range_succ, List.map_append, List.filter_append]
  by_cases h : (k : Int) < n <;> simp [h]
theorem blL_le (n : Int) (k : Nat) : (blL n k).length ≤ k := by
  unfold blL
  exact Nat.le_trans (List.length_filter_le _ _) (by simp)
theorem blL_mem (n : Int) (k : Nat) (x : Int) : x ∈ blL n k ↔ 0 ≤ x ∧ x < k ∧ x < n := by
  unfold blL
  rw [List.mem_filter, List.mem_map]
  constructor
  · rintro ⟨⟨a, h1, rfl⟩, h2⟩
    have := List.mem_range.1 h1
    simp at h2
    omega
  · rintro ⟨h1, h2, h3⟩
    exact ⟨⟨x.toNat, List.mem_range.2 (by omega), by omega⟩, by simpa using h3⟩
theorem belN_doc (n : Int) : stF (blL n 64) 64 = belN n := by
  refine Nat.eq_of_testBit_eq fun k => ?_
  rw [stF_bit _ _ _ (Nat.le_refl _)]
  have e : (18446744073709551615 : Nat) = 2 ^ 64 - 1 := by decide
  unfold belN
  by_cases h1 : n < 1
  · rw [if_pos h1]
    simp
    intro _ h
    have := (blL_mem n 64 _).1 h
    omega
  · rw [if_neg h1]
    by_cases h2 : 63 < n
    · rw [if_pos h2, e, Nat.testBit_two_pow_sub_one, decide_eq_decide]
      constructor
      · exact fun h => h.1
      · exact fun h => ⟨h, (blL_mem n 64 _).2 (by omega)⟩
    · rw [if_neg h2, Nat.testBit_two_pow_sub_one, decide_eq_decide]
      constructor
      · rintro ⟨_, h⟩
        have := (blL_mem n 64 _).1 h
        omega
      · exact fun h => ⟨by omega, (blL_mem n 64 _).2 (by omega)⟩
end Go.Proofs.YtiojbmcjcefdkaaDoor


/- Masks: the reference's Choose. -/
namespace Go.Proofs.YtiojbmcjcefdkaaDoor
open Go.RowKit Go.Tk

theorem eff_world {P : Program} {ops : Array Oper} {C : World → Prop} {Q : Exit → Act → World → Prop} {l : List Oper} {a : Act} {w : World} (h : ∀ w', w' = w → wpEff P ops C Q l a w') : wpEff P ops C Q l a w := h w rfl
def u8c (c : Nat) : Value := .int .u64 (c : Int)
abbrev OwnU (w : World) (A : Option Addr) (N C : Nat) (xs : List Nat) : Prop := Row1 w 22 u8c A N C xs
theorem info_u64 : (Tryd.prog.info? 22).map (fun i => (i.zero, i.size, i.bytes)) = some (some (.int .u64 0), 1, 8) := by kernel_rfl
/-- the beginning of a row of the triangle -/
def pas (i j : Nat) : List Nat := (List.range j).map (chs i)
theorem pas_succ (i j : Nat) : pas i (j + 1) = pas i j ++ [chs i j] := by unfold pas; rw [List.range_succ, List.map_append]; rfl
theorem pas_len (i j : Nat) : (pas i j).length = j := by simp [pas]
theorem pas_get {i j k : Nat} (h : k < j) : (pas i j)[k]? = some (chs i k) := by
  unfold pas
  rw [List.getElem?_map, List.getElem?_range h]
  rfl
theorem ne_of_blk {A : Option Addr} {w : World} {g : Nat} (h : ∀ b, rowOf A b → b < w.heap.size) (hg : g = w.heap.size) : ∀ b, rowOf A b → ¬ rowOf (some ⟨g, 0, none⟩) b := by
  rintro b hb ⟨a, ha, rfl⟩
  injection ha with ha
  subst ha
  have h2 : g < w.heap.size := h _ hb
  omega
end Go.Proofs.YtiojbmcjcefdkaaDoor


/- Masks: the reference's DocRank. -/
namespace Go.Proofs.YtiojbmcjcefdkaaDoor
open Go.RowKit Go.Tk

theorem mems_bound {s n x : Nat} (h : x ∈ mems s n) : x < n := by
  unfold mems at h
  exact List.mem_range.1 (List.mem_filter.1 h).1
end Go.Proofs.YtiojbmcjcefdkaaDoor


/- Masks: same: are two lists alike? -/
namespace Go.Proofs.YtiojbmcjcefdkaaDoor
open Go.RowKit Go.Tk
end Go.Proofs.YtiojbmcjcefdkaaDoor


/- Masks: Next is the reference's. -/
namespace Go.Proofs.YtiojbmcjcefdkaaDoor
open Go.RowKit Go.Tk

theorem nx_bits (s : Nat) (i : Int) (_hi : i < 63) (k : Nat) (hk : k < 64) : (s &&& (18446744073709551615 - belN (i + 1))).testBit k = (s.testBit k && decide (i < (k : Int))) := by
  have hlt : belN (i + 1) < 2 ^ 64 := belN_lt _
  have e : 18446744073709551615 - belN (i + 1) = 2 ^ 64 - (belN (i + 1) + 1) := by
    have : (2 : Nat) ^ 64 = 18446744073709551616 := by decide
    omega
  rw [Nat.testBit_and, e, Nat.testBit_two_pow_sub_succ hlt]
  have h2 : (belN (i + 1)).testBit k = decide (¬ i < (k : Int)) := by
    rw [← belN_doc, stF_bit _ _ _ (Nat.le_refl _), decide_eq_decide]
    rw [show (64 : Int) - ((64 : Nat) : Int) + k = k by omega, blL_mem]
    constructor
    · rintro ⟨_, _, _, h⟩; omega
    · intro h; omega
  rw [h2]
  by_cases h : i < (k : Int) <;> simp [h, hk]
theorem next_doc (s : Nat) (hs : s < 18446744073709551616) (i : Int) : nxR s i = fnd i (memI s 64) := by
  unfold nxR
  have hf : fnd i (memI s 64) = ((memI s 64).filter fun j => decide (i < j)).head?.getD (-1) := by unfold fnd; rw [List.head?_filter]
  by_cases h1 : 63 ≤ i
  · rw [if_pos h1]
    refine (fnd_none ?_).symm
    intro x hx
    unfold memI at hx
    obtain ⟨a, ha, rfl⟩ := List.mem_map.1 hx
    have := mems_bound ha
    omega
  · rw [if_neg h1, hf]
    have hb := nx_bits s i (by omega)
    have htl : s &&& (18446744073709551615 - belN (i + 1)) < 18446744073709551616 := Nat.lt_of_le_of_lt Nat.and_le_left hs
    generalize s &&& (18446744073709551615 - belN (i + 1)) = t at hb htl ⊢
    have hm : ((memI s 64).filter fun j => decide (i < j)) = memI t 64 := by
      unfold memI mems
      rw [List.filter_map, List.filter_filter]
      congr 1
      refine List.filter_congr fun k hk => ?_
      rw [hb k (List.mem_range.1 hk), Bool.and_comm]
      rfl
    rw [hm]
    by_cases h0 : t = 0
    · rw [if_pos h0, h0]
      unfold memI
      rw [mems_zero]
      rfl
    · rw [if_neg h0]
      unfold memI
      rw [mems_clr h0 htl]
      rfl
end Go.Proofs.YtiojbmcjcefdkaaDoor


/- Masks: has. -/
namespace Go.Proofs.YtiojbmcjcefdkaaDoor
open Go.RowKit Go.Tk

def hasB (s : Nat) (i : Int) : Bool := decide (0 ≤ i ∧ i < 64) && s.testBit i.toNat
end Go.Proofs.YtiojbmcjcefdkaaDoor


/- Masks: a set by its lowest run. -/
namespace Go.Proofs.YtiojbmcjcefdkaaDoor
open Go.RowKit Go.Tk

theorem odd_form : ∀ (n : Nat), 0 < n → ∃ c h, n = 2 ^ c * (2 * h + 1)
  | n, hn => by
    by_cases h : n % 2 = 1
    · exact ⟨0, n / 2, by rw [Nat.pow_zero]; omega⟩
    · obtain ⟨c, q, hq⟩ := odd_form (n / 2) (by omega)
      exact ⟨c + 1, q, by rw [Nat.pow_succ, Nat.mul_comm (2 ^ c) 2, Nat.mul_assoc, ← hq]; omega⟩
termination_by n => n
/-- a set: its lowest run of c members begins at j -/
theorem run_form {s : Nat} (h0 : s ≠ 0) (h : s < 18446744073709551616) : ∃ c q, s + 2 ^ Lib.ctz 64 s = 2 ^ (Lib.ctz 64 s + c + 1) * (2 * q + 1) ∧ Lib.ctz 64 s < 64 := by
  obtain ⟨m, hs, hj⟩ := low_form h0 h
  obtain ⟨c, q, hq⟩ := odd_form (m + 1) (by omega)
  refine ⟨c, q, ?_, hj⟩
  generalize Lib.ctz 64 s = j at hs hj ⊢
  rw [show j + c + 1 = (j + 1) + c by omega, Nat.pow_add, Nat.mul_assoc, ← hq, Nat.mul_add, Nat.mul_one]
  have : 2 ^ (j + 1) = 2 ^ j * 2 := Nat.pow_succ ..
  omega
/-- the set from its run: bits -/
theorem run_bits {s j c q : Nat} (hs : s + 2 ^ j = 2 ^ (j + c + 1) * (2 * q + 1)) (i : Nat) : s.testBit i = if i < j + c + 1 then decide (j ≤ i) else q.testBit (i - (j + c + 2)) && decide (j + c + 2 ≤ i) := by
  have e1 : 2 ^ (j + c + 1 + 1) = 2 ^ (j + c + 1) * 2 := Nat.pow_succ ..
  have hp : 2 ^ j ≤ 2 ^ (j + c + 1) := Nat.pow_le_pow_right (by omega) (by omega)
  have hj0 : 0 < 2 ^ j := Nat.pow_pos (by omega)
  have e2 : s = 2 ^ (j + c + 2) * q + (2 ^ (j + c + 1) - 2 ^ j) := by
    rw [show j + c + 2 = j + c + 1 + 1 by omega, e1, Nat.mul_assoc]
    rw [Nat.mul_add, Nat.mul_one] at hs
    omega
  have hlt : 2 ^ (j + c + 1) - 2 ^ j < 2 ^ (j + c + 2) := by rw [show j + c + 2 = j + c + 1 + 1 by omega, e1]; omega
  have e3 : 2 ^ (j + c + 1) - 2 ^ j = 2 ^ (j + c + 1) - ((2 ^ j - 1) + 1) := by omega
  rw [e2, Nat.testBit_two_pow_mul_add _ hlt, e3, Nat.testBit_two_pow_sub_succ (by omega), Nat.testBit_two_pow_sub_one]
  by_cases h1 : i < j + c + 1
  · rw [if_pos h1, if_pos (by omega), decide_eq_true h1, Bool.true_and]
    by_cases hij : j ≤ i
    · rw [decide_eq_true hij, decide_eq_false (by omega)]; rfl
    · rw [decide_eq_false hij, decide_eq_true (by omega)]; rfl
  · rw [if_neg h1]
    by_cases h2 : i < j + c + 2
    · rw [if_pos h2, decide_eq_false h1, Bool.false_and, decide_eq_false (show ¬ j + c + 2 ≤ i by omega), Bool.and_false]
    · rw [if_neg h2, decide_eq_true (show j + c + 2 ≤ i by omega), Bool.and_true]
theorem up_bits (T q i : Nat) : (2 ^ T * (2 * q + 1)).testBit i = if i < T + 1 then decide (i = T) else q.testBit (i - (T + 1)) := by
  have e1 : 2 ^ (T + 1) = 2 ^ T * 2 := Nat.pow_succ ..
  have hlt : 2 ^ T < 2 ^ (T + 1) := Nat.pow_lt_pow_right (by omega) (by omega)
  have e2 : 2 ^ T * (2 * q + 1) = 2 ^ (T + 1) * q + 2 ^ T := by rw [e1, Nat.mul_add, Nat.mul_one, Nat.mul_assoc]
  rw [e2, Nat.testBit_two_pow_mul_add _ hlt, Nat.testBit_two_pow]
  by_cases h : i < T + 1
  · rw [if_pos h, if_pos h, decide_eq_decide]; omega
  · rw [if_neg h, if_neg h]
theorem up_lt {j c q s : Nat} (h : s < 2 ^ 64) (hj : j < 64) (hs : s + 2 ^ j = 2 ^ (j + c + 1) * (2 * q + 1)) : s + 2 ^ j ≤ 2 ^ 64 := by
  have e : (2 : Nat) ^ 64 = 2 ^ j * 2 ^ (64 - j) := by rw [← Nat.pow_add]; congr 1; omega
  have e2 : s + 2 ^ j = 2 ^ j * (2 ^ (c + 1) * (2 * q + 1)) := by rw [hs, show j + c + 1 = j + (c + 1) by omega, Nat.pow_add, Nat.mul_assoc]
  have hp : 0 < 2 ^ j := Nat.pow_pos (by omega)
  rw [e2, e]
  refine Nat.mul_le_mul_left _ ?_
  refine Nat.le_of_lt_succ ?_
  refine Nat.lt_of_mul_lt_mul_left (a := 2 ^ j) ?_
  rw [← e2, Nat.mul_succ, ← e]
  omega
theorem af_bits {s c q : Nat} (h0 : s ≠ 0) (h : s < 18446744073709551616) (hs : s + 2 ^ Lib.ctz 64 s = 2 ^ (Lib.ctz 64 s + c + 1) * (2 * q + 1)) :
    (Lib.ctz 64 s + c + 1 = 64 → afR s = 0) ∧ (Lib.ctz 64 s + c + 1 < 64 → ∀ i, (afR s).testBit i = (decide (i < c) || (if i < Lib.ctz 64 s + c + 2 then decide (i = Lib.ctz 64 s + c + 1) else q.testBit (i - (Lib.ctz 64 s + c + 2))))) := by
  obtain ⟨hlb, hj⟩ := Lib.lowest_bit 64 s h0 h
  have hrb := run_bits hs
  have hub := up_bits (Lib.ctz 64 s + c + 1) q
  have hul := up_lt h hj hs
  unfold afR
  rw [if_neg h0, show (18446744073709551616 : Nat) = 2 ^ 64 by decide, hlb]
  generalize Lib.ctz 64 s = j at *
  have hp : 0 < 2 ^ j := Nat.pow_pos (by omega)
  constructor
  · intro hT
    rw [hT] at hs
    have hq : q = 0 := by
      rcases Nat.eq_zero_or_pos q with h1 | h1
      · exact h1
      · exfalso
        have : 2 ^ 64 * 3 ≤ 2 ^ 64 * (2 * q + 1) := Nat.mul_le_mul_left _ (by omega)
        omega
    subst hq
    rw [hs, Nat.mul_zero, Nat.zero_add, Nat.mul_one, Nat.mod_self, if_pos rfl]
  · intro hT i
    have hne : s + 2 ^ j ≠ 2 ^ 64 := by
      intro e
      rw [e] at hs
      have e1 : (2 : Nat) ^ 64 = 2 ^ (j + c + 1) * (2 * 2 ^ (63 - (j + c + 1))) := by
        rw [← Nat.pow_succ', ← Nat.pow_add]; congr 1; omega
      rw [e1] at hs
      have := Nat.eq_of_mul_eq_mul_left (Nat.pow_pos (by omega)) hs
      omega
    have hU : (s + 2 ^ j) % 2 ^ 64 = 2 ^ (j + c + 1) * (2 * q + 1) := by rw [Nat.mod_eq_of_lt (by omega), hs]
    rw [hU]
    have hpos : 2 ^ (j + c + 1) * (2 * q + 1) ≠ 0 := by rw [← hs]; omega
    rw [if_neg hpos, Nat.testBit_or, hub]
    have hd : (s ^^^ (2 ^ (j + c + 1) * (2 * q + 1))) / 4 / 2 ^ j = (s ^^^ (2 ^ (j + c + 1) * (2 * q + 1))) / 2 ^ (j + 2) := by
      have e4 : 2 ^ (j + 2) = 4 * 2 ^ j := by rw [Nat.pow_add]; omega
      rw [Nat.div_div_eq_div_mul, e4]
    rw [hd, Nat.testBit_div_two_pow, Nat.testBit_xor, hub, hrb, Bool.or_comm]
    congr 1
    by_cases h1 : i < c
    · rw [decide_eq_true h1]
      by_cases h2 : i + 1 < c
      · rw [if_pos (by omega), if_pos (by omega), decide_eq_true (by omega), decide_eq_false (by omega)]
        rfl
      · rw [if_neg (by omega), if_pos (by omega), decide_eq_false (by omega), Bool.and_false, decide_eq_true (by omega)]
        rfl
    · rw [decide_eq_false h1, if_neg (by omega), if_neg (by omega), decide_eq_true (by omega), Bool.and_true, Bool.xor_self]
end Go.Proofs.YtiojbmcjcefdkaaDoor


/- Masks: the iterator each. -/
namespace Go.Proofs.YtiojbmcjcefdkaaDoor
open Go.RowKit Go.Tk Go.Shelf

attribute [local go_sem] Oper.semAt_some

theorem clr_low {s : Nat} (h : s ≠ 0) : s &&& (s - 1) < s := Nat.lt_of_le_of_lt Nat.and_le_right (by omega)
def cellN (b : Nat) (w : World) : Nat := match w.cell? ⟨b, 0, none⟩ with | some (.int _ x) => x.toNat | _ => 0
set_option maxHeartbeats 4000000 in
/-- the iterator, with whatever rounds leave its own cell as it was -/
theorem each1_in (n l Bn : Nat) (J Jm : Nat → World → Prop) (hn : 1 ≤ n)
    (hJ : ∀ s W, J s W → s < 18446744073709551616 ∧ W.cell? ⟨Bn, 0, none⟩ = some (.int .u64 s) ∧ Tab64 W)
    (hM : ∀ s W, Jm s W → s ≠ 0 ∧ s < 18446744073709551616 ∧ W.cell? ⟨Bn, 0, none⟩ = some (.int .u64 s) ∧ W.frozen? ⟨Bn, 0, none⟩ = false ∧ J (s &&& (s - 1)) (W.setCell ⟨Bn, 0, none⟩ (.int .u64 ((s &&& (s - 1) : Nat) : Int))))
    (hY : ∀ s W, s ≠ 0 → J s W → YieldAt Fence.wide (n - 1) Tryd.prog l #[.int .i64 (Lib.ctz 64 s : Nat)] W fun e W' => e = .returned (.bool true) ∧ Jm s W')
    (s0 : Nat) (W : World) (h0 : J s0 W) :
    CallsIn Fence.wide n Tryd.prog 21 #[.func (.yield l) #[] #[], .pointer (some ⟨Bn, 0, none⟩)] W fun e W' => (∃ v, e = .returned v) ∧ J 0 W' := by
  refine callsIn_of_wp Tryd.func21 rfl trivial ?_ rfl
  simp only [Tryd.ntmps21, List.size_toArray, List.length_cons, List.length_nil, Nat.reduceAdd, Nat.reduceSub, Array.replicate_succ, Array.replicate_zero, List.push_toArray, List.append_toArray, List.nil_append, List.cons_append]
  gi_wp2
  gi_loopw [3] (fun _ wr => ∃ s, J s wr) (fun _ wr => cellN Bn wr)
  case atStart => exact ⟨s0, h0⟩
  case round =>
    obtain ⟨s, hs⟩ := hrel
    obtain ⟨hsl, hc, hT⟩ := hJ s wr hs
    have hcm : cellN Bn wr = s := by unfold cellN; rw [hc]; simp
    by_cases hz : s = 0
    · subst hz
      gi_wp2
      go_end0
      exact ⟨⟨_, rfl⟩, hs⟩
    · have hb : ((s : Int) != 0) = true := by simp <;> omega
      obtain ⟨fn, tmps, assign, body, hy, hR⟩ := hY s wr hz hs
      have HTZ := Lib.hid (tz64_any s hsl wr hT)
      have hne : ¬ (s : Int) = 0 := by omega
      gi_wp2_with (refine ⟨trivial, ?_⟩; gi_at_call 18; refine (callsIn_wide.2 HTZ.out).mono ?_; rintro e w' ⟨rfl, rfl⟩)
      refine hR.mono ?_
      rintro e W3 ⟨rfl, hm⟩
      obtain ⟨_, hsl3, hc3, hf3, hj3⟩ := hM s W3 hm
      have hs1 : (s : Int) - 1 = ((s - 1 : Nat) : Int) := by omega
      have hs2 : IntKind.u64.wrap ((s - 1 : Nat) : Int) = ((s - 1 : Nat) : Int) := IntWalk.u64_in _ (by omega)
      have hs3 : IntKind.u64.wrap ((s : Int) - 1) = ((s - 1 : Nat) : Int) := by rw [hs1]; exact hs2
      have hand := u64_and_nat s (s - 1) hsl (by omega)
      obtain ⟨t, ht⟩ : ∃ z, z = s &&& (s - 1) := ⟨_, rfl⟩
      rw [← ht] at hand hj3
      have htl : t < s := by rw [ht]; exact clr_low hz
      obtain ⟨s1, hs1e⟩ : ∃ z, z = s - 1 := ⟨_, rfl⟩
      rw [← hs1e] at hs1 hs2 hs3 hand
      have HJ3 := Lib.hid hj3
      clear ht hs1e hj3 hm hc hs HTZ hT
      gi_wp2
      go_roundw
      case rel => exact ⟨t, HJ3.out⟩
      case measure =>
        have h1 := (hJ t _ HJ3.out).2.1
        have h3 : cellN Bn (W3.setCell ⟨Bn, 0, none⟩ (.int .u64 (t : Int))) = t := by unfold cellN; rw [h1]; simp
        rw [hcm, h3]
        exact htl
end Go.Proofs.YtiojbmcjcefdkaaDoor


/- Masks: a range over each(s). -/
namespace Go.Proofs.YtiojbmcjcefdkaaDoor
open Go.RowKit Go.Tk Go.Shelf

attribute [local go_sem] Oper.semAt_some

theorem each_any (s : Nat) (w : World) : Calls Tryd.prog 16 #[.int .u64 s] w fun e w' => e = .returned (.func (.func 21) #[] #[.pointer (some ⟨w.heap.size, 0, none⟩)]) ∧ w' = w.alloc (.cells #[.int .u64 s] 22) := by
  have hmf : ∀ (fn : Fn) (first cap : Array Value) (w : World), (Instr.makeFunc fn first cap).run Tryd.prog w = .ok (.func fn first cap) w := fun _ _ _ _ => rfl
  go_enter Tryd.func16, Tryd.ntmps16
  go_wp2
  go_ret
  exact ⟨rfl, rfl⟩

theorem below_putObj {n₀ : Nat} {A W : World} (h : Below n₀ A W) {l : Nat} (hl : n₀ ≤ l) (o : Obj) : Below n₀ A (W.putObj l o) :=
  ⟨h.os, h.tape, h.output, by simpa using h.size, fun k hk => (World.putObj_heap_other (by omega)).trans (h.block k hk)⟩
theorem boxed_putObj {W : World} {B : Nat} {t : TypeId} {v : Value} (h : Boxed W B t v) {l : Nat} (hl : B ≠ l) (o : Obj) : Boxed (W.putObj l o) B t v :=
  (World.putObj_heap_other hl).trans h
theorem boxed_setCell {W : World} {B : Nat} {t : TypeId} {v : Value} (h : Boxed W B t v) {a : Addr} (ha : B ≠ a.block) (u : Value) : Boxed (W.setCell a u) B t v :=
  (Below.heap_setCell _ _ _ B ha).trans h
theorem boxed_same {W W' : World} {B : Nat} {t : TypeId} {v : Value} (h : Boxed W B t v) (e : W'.heap[B]? = W.heap[B]?) : Boxed W' B t v := e.trans h
theorem tab64_below {n₀ : Nat} {A W : World} (h : Below n₀ A W) (hn : 0 < n₀) (hT : Tab64 A) : Tab64 W := fun j hj => (h.cell (p := ⟨0, j, none⟩) hn).trans (hT j hj)

def eachPost (B : Nat) (I : Nat → World → Prop) (s : Nat) (W : World) : Exit → Act → World → Prop
  | .normal, _, W' => KeepsOthers W W' ∧ W'.heap[B]? = W.heap[B]? ∧ I (s &&& (s - 1)) W'
  | _, _, _ => False

set_option maxHeartbeats 2000000 in
theorem range_each {n : Nat} (h1 : 2 ≤ n) {g : Operand} {p : Tmp} {assign body : Code} {Q : Exit → Act → World → Prop} {a : Act} {w : World} {B s0 : Nat}
    (hg : a.eval g = .func (.func 21) #[] #[.pointer (some ⟨B, 0, none⟩)])
    (hB0 : Boxed w B 22 (.int .u64 s0)) (hs0 : s0 < 18446744073709551616)
    (I : Nat → World → Prop) (hIT : ∀ s W, I s W → Tab64 W)
    (hIa : ∀ s W o, w.heap.size ≤ W.heap.size → I s W → I s (W.alloc o))
    (hIp : ∀ s W l o o', w.heap.size ≤ l → W.heap[l]? = some o' → o'.isCells = false → I s W → I s (W.putObj l o))
    (hIc : ∀ s W u v, Boxed W B 22 u → I s W → I s (W.setCell ⟨B, 0, none⟩ v))
    (h0 : I s0 w) (a₁ : Nat → Act)
    (hassign : ∀ (l s : Nat) (W : World) (K : Act → World → Prop), K (a₁ s) W →
      assign.wpIn (Fence.wide.inRound l) (n - 1 - 1) Tryd.prog (Exit.then K (fun _ _ _ => False)) { tmps := a.tmps.setIfInBounds p (.int .i64 (Lib.ctz 64 s : Nat)), defers := [] } W)
    (hbody : ∀ (l s : Nat) (W : World), s ≠ 0 → s < 18446744073709551616 → I s W → w.heap.size ≤ W.heap.size → Boxed W B 22 (.int .u64 s) → body.wpIn (Fence.wide.inRound l) (n - 1 - 1) Tryd.prog (eachPost B I s W) (a₁ s) W)
    (hdone : ∀ (D : Nat) (W : World), w.heap.size ≤ D → I 0 W → W.heap[D]? = some (.deferred (some [])) → Q .normal { a with defers := { target := .collected D, args := #[] } :: a.defers } W) :
    (Code.rangeFunc g #[p] assign body).wpIn Fence.wide n Tryd.prog Q a w := by
  refine wpIn_rangeFunc ?_
  intro fn hfn
  obtain ⟨rec, hrec⟩ : ∃ rec : LoopState → Option Code → Loop, rec = fun st pe => { state := st, pending := pe, fn, tmps := a.tmps, params := #[p], assign, body, defers := w.heap.size } := ⟨_, rfl⟩
  obtain ⟨W1, hW1⟩ : ∃ W1, (w.alloc (.deferred (some []))).alloc (.loop (rec .ready none)) = W1 := ⟨_, rfl⟩
  have hL1 : W1.heap[w.heap.size + 1]? = some (.loop (rec .ready none)) := by
    rw [← hW1]; have := World.alloc_heap_new (w.alloc (.deferred (some []))) (.loop (rec .ready none)); rwa [World.size_alloc] at this
  have hK1 : W1.heap[w.heap.size]? = some (.deferred (some [])) := by
    rw [← hW1]; exact (Below.heap_alloc _ _ _ (by simp)).trans (World.alloc_heap_new w _)
  have hI1 : I s0 W1 := by rw [← hW1]; exact hIa _ _ _ (by simp) (hIa _ _ _ (Nat.le_refl _) h0)
  have hB1 : Boxed W1 B 22 (.int .u64 s0) := by rw [← hW1]; exact (hB0.alloc _).alloc _
  have hBlt := hB0.lt
  have hsz1 : W1.heap.size = w.heap.size + 2 := by rw [← hW1]; simp
  refine ⟨w.heap.size + 1, [{ target := .collected w.heap.size, args := #[] }], W1, { target := .fn (.func 21) #[.pointer (some ⟨B, 0, none⟩)], args := #[.func (.yield (w.heap.size + 1)) #[] #[]] }, W1, 21,
    #[.func (.yield (w.heap.size + 1)) #[] #[]] ++ #[.pointer (some ⟨B, 0, none⟩)], W1, ?_, ?_, ?_, ?_, fun _ => by omega, ?_⟩
  · rw [← hW1, hrec]; exact run_enterLoop_outer _ _ _ _ _
  · simp only [resolve, hg]
    simp [go_sem]
  · intro f' _; exact trivial
  · simp [invoke, go_sem]
  · refine (each1_in (n - 1) (w.heap.size + 1) B
      (fun s W => s < 18446744073709551616 ∧ Boxed W B 22 (.int .u64 s) ∧ I s W ∧ W.heap[w.heap.size + 1]? = some (.loop (rec .ready none)) ∧ W.heap[w.heap.size]? = some (.deferred (some [])))
      (fun s W => s ≠ 0 ∧ s < 18446744073709551616 ∧ Boxed W B 22 (.int .u64 s) ∧ I (s &&& (s - 1)) W ∧ W.heap[w.heap.size + 1]? = some (.loop (rec .ready none)) ∧ W.heap[w.heap.size]? = some (.deferred (some [])))
      (by omega)
      (fun s W h => ⟨h.1, h.2.1.cell, hIT _ _ h.2.2.1⟩)
      (fun s W h => ⟨h.1, h.2.1, h.2.2.1.cell, h.2.2.1.frozen, Nat.lt_trans (clr_low h.1) h.2.1, h.2.2.1.set _, hIc _ _ _ _ h.2.2.1 h.2.2.2.1,
        (Below.heap_setCell _ _ _ _ (by simp <;> omega)).trans h.2.2.2.2.1, (Below.heap_setCell _ _ _ _ (by simp <;> omega)).trans h.2.2.2.2.2⟩)
      ?_ s0 W1 ⟨hs0, hB1, hI1, hL1, hK1⟩).mono ?_
    · rintro s W hz ⟨hs, hb, hi, hl, hk⟩
      have hlt : w.heap.size + 1 < W.heap.size := (Array.getElem?_eq_some_iff.1 hl).1
      have hy := run_yield (P := Tryd.prog) (args := #[.int .i64 (Lib.ctz 64 s : Nat)]) hl (by rw [hrec]; rfl)
      rw [hrec] at hy
      have hfold : (#[p].zip #[Value.int .i64 (Lib.ctz 64 s : Nat)]).foldl (fun tmps (t, a) => tmps.setIfInBounds t a) a.tmps = a.tmps.setIfInBounds p (.int .i64 (Lib.ctz 64 s : Nat)) := by simp
      simp only [hfold] at hy
      refine ⟨fn, _, assign, body, hy, roundIn_of_wpIn hfn ?_⟩
      refine hassign _ s W _ ?_
      refine ⟨_, run_beginRound hl (by rw [hrec]), ?_⟩
      have hl2 : (W.putObj (w.heap.size + 1) (.loop { rec .ready none with state := .busy })).heap[w.heap.size + 1]? = some (.loop { rec .ready none with state := .busy }) := World.putObj_heap_same hlt
      have hk2 : (W.putObj (w.heap.size + 1) (.loop { rec .ready none with state := .busy })).heap[w.heap.size]? = some (.deferred (some [])) := (World.putObj_heap_other (by omega)).trans hk
      have hb2 : (W.putObj (w.heap.size + 1) (.loop { rec .ready none with state := .busy })).heap[B]? = some (.cells #[.int .u64 s] 22 (0, 0)) := boxed_putObj hb (by omega) _
      refine wpIn_mono (hbody _ s _ hz hs (hIp _ _ _ _ _ (by omega) hl rfl hi) (by simp <;> omega) hb2) ?_
      rintro e a3 W3 hp
      cases e with
      | normal =>
        obtain ⟨hk3, hb3, hi3⟩ := hp
        have hl3 := hk3.same _ _ hl2 rfl
        have hr := run_endRound (P := Tryd.prog) none hl3
        have hB3 : Boxed W3 B 22 (.int .u64 s) := hb3.trans hb2
        refine ⟨_, _, hr, rfl, hz, hs, boxed_putObj hB3 (by omega) _, hIp _ _ _ _ _ (by omega) hl3 rfl hi3, ?_, (World.putObj_heap_other (by omega)).trans (hk3.same _ _ hk2 rfl)⟩
        rw [World.putObj_heap_same (Array.getElem?_eq_some_iff.1 hl3).1, hrec]
        rfl
      | _ => exact hp.elim
    · rintro e W2 ⟨⟨v, rfl⟩, _, hb, hi, hl, hk⟩
      exact ⟨none, _, by have := run_endLoop (P := Tryd.prog) hl (by rw [hrec]; simp); rw [hrec] at this; exact this, hdone _ _ (Nat.le_refl _) (hIp _ _ _ _ _ (by omega) hl rfl hi) ((World.putObj_heap_other (by omega)).trans hk)⟩
end Go.Proofs.YtiojbmcjcefdkaaDoor


/- Masks: Rank. -/
namespace Go.Proofs.YtiojbmcjcefdkaaDoor
open Go.RowKit Go.Tk Go.Shelf

attribute [local go_sem] Oper.semAt_some

structure RkI (w : World) (s0 s : Nat) (W : World) : Prop where
  b : Below w.heap.size w W
  rest : ∃ pre, mems s0 64 = pre ++ mems s 64 ∧ Boxed W w.heap.size 22 (.int .u64 (rkF 0 pre : Nat)) ∧ Boxed W (w.heap.size + 1) 3 (.int .i64 (pre.length : Nat))

set_option maxHeartbeats 400000 in
theorem rank_in (s : Nat) (hs : s < 18446744073709551616) (w : World) (h0 : 0 < w.heap.size) (hT : Tab64 w) : CallsIn Fence.wide 4 Tryd.prog 7 #[.int .u64 s] w fun e w' => e = .returned (.int .u64 ((rkF 0 (mems s 64) : Nat) : Int)) ∧ Below w.heap.size w w' := by
  refine callsIn_of_wp_marks Tryd.func7 rfl trivial ?_ rfl
  simp only [Tryd.ntmps7, List.size_toArray, List.length_cons, List.length_nil, Nat.reduceAdd, Nat.reduceSub, Array.replicate_succ, Array.replicate_zero, List.push_toArray, List.append_toArray, List.nil_append, List.cons_append]
  gi_wp2_with (refine ⟨trivial, ?_⟩; gi_at_call 16; refine (callsIn_wide.2 (each_any s _)).mono ?_; rintro e w' ⟨rfl, rfl⟩)
  refine range_each (B := w.heap.size + 1 + 1) (s0 := s) (by omega) ?_ ?_ hs (RkI w s) ?_ ?_ ?_ ?_ ?_ (fun s' => { tmps := #[Value.int IntKind.u64 ↑s, undef, Value.int IntKind.u64 0, Value.pointer (some { block := w.heap.size, off := 0 }), Value.pointer (some { block := w.heap.size + 1, off := 0 }), .int .i64 (Lib.ctz 64 s' : Nat), Value.int IntKind.u64 ↑s, Value.func (Fn.func 21) #[] #[Value.pointer (some { block := w.heap.size + 1 + 1, off := 0 })], .int .i64 (Lib.ctz 64 s' : Nat), undef, undef, undef, undef, undef, undef, undef, undef], defers := [] }) ?_ ?_ ?_
  · rfl
  · have := Boxed.new ((w.alloc (.cells #[.int .u64 0] 22)).alloc (.cells #[.int .i64 0] 3)) 22 (.int .u64 (s : Nat))
    simpa using this
  · intro s' W h; exact tab64_below h.b h0 hT
  · intro s' W o hW h
    obtain ⟨hb, pre, h1, h2, h3⟩ := h
    exact ⟨hb.alloc (by simp at hW; omega) o, pre, h1, h2.alloc o, h3.alloc o⟩
  · intro s' W l o _ hl _ _ h
    obtain ⟨hb, pre, h1, h2, h3⟩ := h
    simp at hl
    exact ⟨below_putObj hb (by omega) o, pre, h1, boxed_putObj h2 (by omega) o, boxed_putObj h3 (by omega) o⟩
  · intro s' W _ v _ h
    obtain ⟨hb, pre, h1, h2, h3⟩ := h
    exact ⟨hb.setCell (p := ⟨w.heap.size + 1 + 1, 0, none⟩) (by show w.heap.size ≤ w.heap.size + 1 + 1; omega) v, pre, h1, boxed_setCell h2 (by show w.heap.size ≠ w.heap.size + 1 + 1; omega) v, boxed_setCell h3 (by show w.heap.size + 1 ≠ w.heap.size + 1 + 1; omega) v⟩
  · refine ⟨(((Below.refl _ w).alloc (Nat.le_refl _) _).alloc (by simp) _).alloc (by simp <;> omega) _, [], rfl, ?_, ?_⟩
    · exact ((Boxed.new w _ _).alloc _).alloc _
    · have := ((Boxed.new (w.alloc (.cells #[.int .u64 0] 22)) 3 (.int .i64 0)).alloc (.cells #[.int .u64 s] 22))
      simpa using this
  · intro l s' W K hK
    simp only [List.setIfInBounds_toArray, List.set_cons_succ, List.set_cons_zero]
    gi_wp2
    exact hK
  · intro l s' W hz hs' h hW _
    obtain ⟨hb, pre, h1, h2, h3⟩ := h
    have hm := mems_clr hz hs'
    obtain ⟨m, _, hm64⟩ := low_form hz hs'
    have hle := mems_len_le s
    rw [h1, hm] at hle
    simp at hle
    have hu := Nat.lt_of_le_of_lt (rkF_pre 0 (pre ++ [Lib.ctz 64 s']) (mems (s' &&& (s' - 1)) 64)) (by rw [show pre ++ [Lib.ctz 64 s'] ++ mems (s' &&& (s' - 1)) 64 = mems s 64 by rw [h1, hm]; simp]; exact rk_u64 s)
    rw [rkF_snoc] at hu
    have h1' : mems s 64 = (pre ++ [Lib.ctz 64 s']) ++ mems (s' &&& (s' - 1)) 64 := by rw [h1, hm]; simp
    have hr' := rkF_snoc 0 pre (Lib.ctz 64 s')
    generalize Lib.ctz 64 s' = j at *
    obtain ⟨R, hR⟩ : ∃ z, z = rkF 0 pre := ⟨_, rfl⟩
    obtain ⟨k, hk⟩ : ∃ z, z = pre.length := ⟨_, rfl⟩
    rw [← hR] at h2 hu hr'
    rw [← hk] at h3 hu hr' hle
    have hc2 := h2.cell
    have hf2 := h2.frozen
    have hc3 := h3.cell
    have hf3 := h3.frozen
    obtain ⟨c, hc⟩ : ∃ z, z = chs j (k + 1) := ⟨_, rfl⟩
    have hCh0 : ∀ W', CallsIn (Fence.wide.inRound l) 1 Tryd.prog 14 #[.int .i64 j, .int .i64 ((k + 1 : Nat) : Int)] W' fun e w' => e = .returned (.int .u64 (c : Nat)) ∧ Same W' w' := fun W' => CallsIn.inRound l (callsIn_wide.2 (hc ▸ choose_any j (k + 1) (by omega) (by omega) W'))
    have hCh := Lib.hid hCh0
    clear hCh0
    have hkw : wrap64 ((k : Int) + 1) = ((k + 1 : Nat) : Int) := by unfold wrap64; omega
    have hu1 : R + c < 18446744073709551616 := by rw [hc]; rw [Nat.zero_add] at hu; exact hu
    have hRw : IntKind.u64.wrap ((R : Int) + (c : Int)) = ((R + c : Nat) : Int) := IntWalk.u64_in _ (by omega)
    obtain ⟨k1, hk1⟩ : ∃ z, z = k + 1 := ⟨_, rfl⟩
    obtain ⟨R1, hR1⟩ : ∃ z, z = R + c := ⟨_, rfl⟩
    rw [← hk1] at hkw hCh
    rw [← hR1] at hRw
    have HI := Lib.hid h1'
    have HR := Lib.hid hr'
    have HK1 := Lib.hid hk1
    have HR1 := Lib.hid hR1
    have HC := Lib.hid hc
    have HK := Lib.hid hk
    clear h1 h1' hm hu hr' hR hk1 hR1 hc hu1 hle hm64 hz hs' hk
    simp only [Nat.reduceSub]
    gi_wp2
    have hb2 : Below w.heap.size w (W.setCell ⟨w.heap.size + 1, 0, none⟩ (.int .i64 (k1 : Nat))) := hb.setCell (p := ⟨w.heap.size + 1, 0, none⟩) (by show w.heap.size ≤ w.heap.size + 1; omega) _
    have hko := KeepsOthers.setCell W ⟨w.heap.size + 1, 0, none⟩ (.int .i64 (k1 : Nat))
    have hBB := Below.heap_setCell W ⟨w.heap.size + 1, 0, none⟩ (.int .i64 (k1 : Nat)) (w.heap.size + 1 + 1) (by show w.heap.size + 1 + 1 ≠ w.heap.size + 1; omega)
    have h22 := boxed_setCell h2 (a := ⟨w.heap.size + 1, 0, none⟩) (by show w.heap.size ≠ w.heap.size + 1; omega) (.int .i64 (k1 : Nat))
    have h32 := h3.set (.int .i64 (k1 : Nat))
    obtain ⟨W2, hW2⟩ : ∃ W2, W2 = W.setCell ⟨w.heap.size + 1, 0, none⟩ (.int .i64 (k1 : Nat)) := ⟨_, rfl⟩
    rw [← hW2] at hb2 hko hBB h22 h32 ⊢
    clear hc2 hf2 hc3 hf3 h2 h3 hb
    have hc2 := h22.cell
    have hf2 := h22.frozen
    have hc3 := h32.cell
    have hlt := h32.lt
    have hfin0 : ∀ (w' : World) (a : Act), Same W2.drew w' → eachPost (w.heap.size + 1 + 1) (RkI w s) s' W .normal a (w'.setCell ⟨w.heap.size, 0, none⟩ (.int .u64 (R1 : Nat))) := by
      intro w' a hs
      have hsz : w.heap.size + 1 + 1 + 1 ≤ W2.drew.heap.size := by
        have h1 : W2.drew.heap.size = W.heap.size := by rw [hW2]; exact World.size_setCell _ _ _
        rw [h1]; simpa using hW
      have hk : KeepsOthers W2.drew w' := ⟨hs.size, fun i o hi ho => (hs.block i (Array.getElem?_eq_some_iff.1 hi).1 (fun h => h)).trans hi⟩
      refine ⟨((hko.trans (KeepsOthers.drew W2)).trans hk).trans (KeepsOthers.setCell _ _ _), ?_, ?_, pre ++ [j], HI.out, ?_, ?_⟩
      · exact (Below.heap_setCell _ _ _ _ (by show w.heap.size + 1 + 1 ≠ w.heap.size; omega)).trans ((hs.block _ (by omega) (fun h => h)).trans hBB)
      · exact (hb2.drew.trans (hs.to_below (by omega) (fun _ _ h => h))).setCell (p := ⟨w.heap.size, 0, none⟩) (Nat.le_refl _) _
      · have := (boxed_same h22 ((hs.block w.heap.size (by omega) (fun h => h)))).set (.int .u64 (R1 : Nat))
        rw [HR.out, Nat.zero_add, ← HK1.out] 
        have e : R + chs j k1 = R1 := by rw [HR1.out, HC.out, HK1.out]
        rw [e]; exact this
      · have := boxed_setCell (boxed_same h32 ((hs.block (w.heap.size + 1) (by omega) (fun h => h)))) (a := ⟨w.heap.size, 0, none⟩) (by show w.heap.size + 1 ≠ w.heap.size; omega) (.int .u64 (R1 : Nat))
        rw [List.length_append, List.length_singleton, ← HK.out, ← HK1.out]; exact this
    have hfin := Lib.hid hfin0
    have h220 := Lib.hid h22
    have HSZ := Lib.hid h22.lt
    clear hW2 hfin0 h22 h32 hko hBB hb2 hW hlt
    have hmix : Tryd.prog.follows .mixedOrders = true := by kernel_rfl
    gi_region_with_o (first | (refine ⟨trivial, ?_⟩; gi_at_call 14; refine (hCh.out _).mono ?_; rintro e w' ⟨rfl, hs⟩; have hc2' := (boxed_same h220.out (hs.block w.heap.size HSZ.out (fun h => h))).cell; have hf2' := (boxed_same h220.out (hs.block w.heap.size HSZ.out (fun h => h))).frozen; have HSame := Lib.hid hs; clear hs) | (gi_at_call 14; refine (hCh.out _).mono ?_; rintro e w' ⟨rfl, hs⟩; have hc2' := (boxed_same h220.out (hs.block w.heap.size HSZ.out (fun h => h))).cell; have hf2' := (boxed_same h220.out (hs.block w.heap.size HSZ.out (fun h => h))).frozen; have HSame := Lib.hid hs; clear hs))
    all_goals (simp only [Exit.inBlock]; exact hfin.out _ _ HSame.out)
  · intro D W hD h hK
    obtain ⟨hb, pre, h1, h2, h3⟩ := h
    rw [mems_zero, List.append_nil] at h1
    subst h1
    have hc2 := h2.cell
    simp only [Exit.inBlock, Exit.then]
    gi_wp2
    refine ⟨by simp, .inl ⟨_, _, rfl, run_takeDeferred hK, ?_⟩⟩
    refine ⟨_, results_tmp rfl _ _ _, rfl, below_putObj hb (by simp at hD; omega) _⟩
theorem rank_any (s : Nat) (hs : s < 18446744073709551616) (w : World) (h0 : 0 < w.heap.size) (hT : Tab64 w) : Calls Tryd.prog 7 #[.int .u64 s] w fun e w' => e = .returned (.int .u64 ((rkF 0 (mems s 64) : Nat) : Int)) ∧ Below w.heap.size w w' :=
  callsIn_wide.1 (rank_in s hs w h0 hT)
end Go.Proofs.YtiojbmcjcefdkaaDoor


/- Masks: Members. -/
namespace Go.Proofs.YtiojbmcjcefdkaaDoor
open Go.RowKit Go.Tk Go.Shelf

attribute [local go_sem] Oper.semAt_some

def memC (i : Nat) : Value := .int .i64 (i : Int)
structure MmI (w : World) (s0 s : Nat) (W : World) : Prop where
  b : Below w.heap.size w W
  rest : ∃ pre v, mems s0 64 = pre ++ mems s 64 ∧ Boxed W w.heap.size 33 v ∧ W.ownsRow w.heap.size 3 1 v pre.length (pre.map memC)

set_option maxHeartbeats 400000 in
theorem members_in (s : Nat) (hs : s < 18446744073709551616) (w : World) (h0 : 0 < w.heap.size) (hT : Tab64 w) : CallsIn Fence.wide 4 Tryd.prog 11 #[.int .u64 s] w fun e w' => ∃ v, e = .returned v ∧ w'.ownsRow w.heap.size 3 1 v (mems s 64).length ((mems s 64).map memC) ∧ Below w.heap.size w w' := by
  have hinf : (Tryd.prog.info? 3).map (fun i => (i.zero, i.size, i.bytes)) = some (some (.int .i64 0), 1, 8) := by kernel_rfl
  have hund : Tryd.prog.underlying 33 = some (.slice 3) := by kernel_rfl
  obtain ⟨i0, hi, hz0, hz1, hz2⟩ := info_parts hinf
  refine callsIn_of_wp_marks Tryd.func11 rfl trivial ?_ rfl
  simp only [Tryd.ntmps11, List.size_toArray, List.length_cons, List.length_nil, Nat.reduceAdd, Nat.reduceSub, Array.replicate_succ, Array.replicate_zero, List.push_toArray, List.append_toArray, List.nil_append, List.cons_append]
  gi_wp2_with (refine ⟨trivial, ?_⟩; gi_at_call 16; refine (callsIn_wide.2 (each_any s _)).mono ?_; rintro e w' ⟨rfl, rfl⟩)
  refine range_each (B := w.heap.size + 1) (s0 := s) (by omega) ?_ ?_ hs (MmI w s) ?_ ?_ ?_ ?_ ?_ (fun s' => { tmps := #[Value.int IntKind.u64 ↑s, undef, .slice none 0 0, Value.pointer (some { block := w.heap.size, off := 0 }), .int .i64 (Lib.ctz 64 s' : Nat), Value.int IntKind.u64 ↑s, Value.func (Fn.func 21) #[] #[Value.pointer (some { block := w.heap.size + 1, off := 0 })], .int .i64 (Lib.ctz 64 s' : Nat), undef, undef, undef, undef, undef], defers := [] }) ?_ ?_ ?_
  · rfl
  · have := Boxed.new (w.alloc (.cells #[.slice none 0 0] 33)) 22 (.int .u64 (s : Nat))
    simpa using this
  · intro s' W h; exact tab64_below h.b h0 hT
  · intro s' W o hW h
    obtain ⟨hb, pre, v, h1, h2, h3⟩ := h
    exact ⟨hb.alloc (by simp at hW; omega) o, pre, v, h1, h2.alloc o, h3.alloc o⟩
  · intro s' W l o o' hl hl' hc h
    obtain ⟨hb, pre, v, h1, h2, h3⟩ := h
    simp at hl
    exact ⟨below_putObj hb (by omega) o, pre, v, h1, boxed_putObj h2 (by omega) o, ownsRow_putObj h3 o hl' hc⟩
  · intro s' W u v hB h
    obtain ⟨hb, pre, v', h1, h2, h3⟩ := h
    exact ⟨hb.setCell (p := ⟨w.heap.size + 1, 0, none⟩) (by show w.heap.size ≤ w.heap.size + 1; omega) v, pre, v', h1, boxed_setCell h2 (by show w.heap.size ≠ w.heap.size + 1; omega) v, h3.kept (grownBy_setCell' W _ v) (.inr (hB.not_row (by decide) h3).symm)⟩
  · refine ⟨((Below.refl _ w).alloc (Nat.le_refl _) _).alloc (by simp) _, [], .slice none 0 0, rfl, (Boxed.new w _ _).alloc _, ?_⟩
    simpa using World.ownsRow_nil _ _ _ _
  · intro l s' W K hK
    simp only [List.setIfInBounds_toArray, List.set_cons_succ, List.set_cons_zero]
    gi_wp2
    exact hK
  · intro l s' W hz hs' h hW hBx
    obtain ⟨hb, pre, v, h1, h2, h3⟩ := h
    have hm := mems_clr hz hs'
    have hle := mems_len_le s
    rw [h1, hm] at hle
    simp at hle
    have h1' : mems s 64 = (pre ++ [Lib.ctz 64 s']) ++ mems (s' &&& (s' - 1)) 64 := by rw [h1, hm]; simp
    clear h1 hm
    generalize Lib.ctz 64 s' = j at *
    have hc2 := h2.cell
    have hf2 := h2.frozen
    have HI := Lib.hid h1'
    clear h1' hz hs'
    have h3a := h3.alloc (.cells #[memC j] 3)
    have hsz := hb.size
    have hl1 : pre.length + 1 ≤ maxLen := Nat.le_trans (by omega : pre.length + 1 ≤ 64) (by decide)
    have hl2 : (pre.length + 1) * 8 ≤ 140737488355328 := by omega
    obtain ⟨N, hN⟩ : ∃ z, z = pre.length := ⟨_, rfl⟩
    rw [← hN] at h3 h3a hl1 hl2
    have HN := Lib.hid hN
    have HLE := Lib.hid hle
    have HW := Lib.hid hW
    clear hle hN hW
    simp only [Nat.reduceSub]
    gi_wp2_with (first
      | (gi_at_builtin; refine wpListIn_append_own _ rfl _ _ 33 rfl w.heap.size 3 i0 (.int .i64 0) 1 8 hund hi hz0 hz1 hz2 rfl (by decide) _ _ _ rfl h3a ⟨W.heap.size, 0, none⟩ 1 1 [memC j] rfl rfl (cell_one_new _ _ _) (by simp [Value.oneCell', memC]) hl1 hl2 (by simp <;> omega) ?_; intro v' w3 hown' hg3 hnil3
         obtain ⟨hv1, hv2, hv3, hv4, hv5⟩ := Boxed.appended h2 (by decide) h3 hsz (Nat.le_refl _) hown' hg3
         have hBx3 : w3.heap[w.heap.size + 1]? = W.heap[w.heap.size + 1]? := (hg3.block (w.heap.size + 1) (by have := hBx.lt; simp <;> omega) (hBx.not_row (by decide) h3)).trans (Below.heap_alloc _ _ _ hBx.lt)
         obtain ⟨g', cap', rfl⟩ := ownsRow_succ hown'
         have hc3 := hv1.cell
         have hf3 := hv1.frozen
         go_frame))
    refine ⟨hv4, (Below.heap_setCell _ _ _ _ (by show w.heap.size + 1 ≠ w.heap.size; omega)).trans hBx3, hb.trans hv5, pre ++ [j], _, HI.out, hv2, ?_⟩
    rw [List.length_append, List.length_singleton, ← HN.out, List.map_append, List.map_singleton]
    exact hv3
  · intro D W hD h hK
    obtain ⟨hb, pre, v, h1, h2, h3⟩ := h
    rw [mems_zero, List.append_nil] at h1
    subst h1
    have hc2 := h2.cell
    simp only [Exit.inBlock, Exit.then]
    gi_wp2
    refine ⟨by simp, .inl ⟨_, _, rfl, run_takeDeferred hK, ?_⟩⟩
    refine ⟨_, results_tmp rfl _ _ _, v, rfl, ownsRow_putObj h3 _ hK rfl, below_putObj hb (by simp at hD; omega) _⟩
/-- Members: a row of the call's own -/
theorem members_any (s : Nat) (hs : s < 18446744073709551616) (w : World) (h0 : 0 < w.heap.size) (hT : Tab64 w) : Calls Tryd.prog 11 #[.int .u64 s] w fun e w' => ∃ A C, e = .returned (.slice A (mems s 64).length C) ∧ OwnI w' 3 A (mems s 64).length C ((mems s 64).map fun (i : Nat) => (i : Int)) ∧ Below w.heap.size w w' := by
  refine (callsIn_wide.1 (members_in s hs w h0 hT)).mono ?_
  rintro e w' ⟨v, rfl, hr, hb⟩
  have hsh : ∃ A C, v = .slice A (mems s 64).length C := by
    rcases hr.2 with ⟨rfl, h⟩ | ⟨g, cap, cur, rfl, _⟩
    · exact ⟨none, 0, by rw [h]⟩
    · exact ⟨_, _, rfl⟩
  obtain ⟨A, C, rfl⟩ := hsh
  refine ⟨A, C, rfl, ⟨by simp, ?_⟩, hb⟩
  have e1 : ((mems s 64).map fun (i : Nat) => (i : Int)).flatMap icell = (mems s 64).map memC := by
    rw [List.flatMap_map]
    induction mems s 64 with
    | nil => rfl
    | cons x l ih => simp only [List.flatMap_cons, List.map_cons, ih]; rfl
  rw [e1]
  rcases hr with ⟨h1, h2⟩
  refine ⟨h1, ?_⟩
  rcases h2 with h2 | ⟨g, cap, cur, h3, _, h4⟩
  · exact .inl h2
  · exact .inr ⟨g, cap, cur, h3, Nat.zero_le _, h4⟩
end Go.Proofs.YtiojbmcjcefdkaaDoor


/- math/bits.OnesCount64: walked. -/
namespace Go.Proofs.YtiojbmcjcefdkaaDoor
open Go.RowKit Go.Tk

theorem i64_and_nat (a b : Nat) (ha : a < 9223372036854775808) (hb : b < 9223372036854775808) : bits .and .i64 (a : Int) (b : Int) = ((a &&& b : Nat) : Int) := by
  have hx : a &&& b < 2 ^ 63 := Nat.and_lt_two_pow _ (by omega)
  show IntKind.i64.wrap ((BitVec.ofInt 64 (a : Int) &&& BitVec.ofInt 64 (b : Int)).toNat : Int) = _
  rw [BitVec.toNat_and, ofInt_u64 a (by omega), ofInt_u64 b (by omega)]
  exact IntWalk.i64_in _ (by omega)
set_option maxRecDepth 100000 in
set_option maxHeartbeats 2000000 in
theorem ones_any (x : Nat) (w : World) (hx : x < 18446744073709551616) : Calls Tryd.prog 17 #[.int .u64 x] w fun e w' => e = .returned (.int .i64 (popc x : Nat)) ∧ w = w' := by
  obtain ⟨x1, e1⟩ : ∃ v, v = ((x / 2) &&& 6148914691236517205) + (x &&& 6148914691236517205) := ⟨_, rfl⟩
  obtain ⟨x2, e2⟩ : ∃ v, v = ((x1 / 4) &&& 3689348814741910323) + (x1 &&& 3689348814741910323) := ⟨_, rfl⟩
  obtain ⟨x3, e3⟩ : ∃ v, v = (x2 / 16 + x2) &&& 1085102592571150095 := ⟨_, rfl⟩
  obtain ⟨x4, e4⟩ : ∃ v, v = x3 + x3 / 256 := ⟨_, rfl⟩
  obtain ⟨x5, e5⟩ : ∃ v, v = x4 + x4 / 65536 := ⟨_, rfl⟩
  obtain ⟨x6, e6⟩ : ∃ v, v = x5 + x5 / 4294967296 := ⟨_, rfl⟩
  obtain ⟨l1, l2, l23, l3, l4, l5, l6, hp⟩ := popc_steps x x1 x2 x3 x4 x5 x6 hx e1 e2 e3 e4 e5 e6
  have a1 := u64_and_nat (x / 2) 6148914691236517205 (by omega) (by omega)
  have a2 := u64_and_nat x 6148914691236517205 (by omega) (by omega)
  have b1 := u64_and_nat (x1 / 4) 3689348814741910323 (by omega) (by omega)
  have b2 := u64_and_nat x1 3689348814741910323 (by omega) (by omega)
  have c1 := u64_and_nat (x2 / 16 + x2) 1085102592571150095 (by omega) (by omega)
  rw [← e3] at c1
  have d1 := i64_and_nat x6 127 l6 (by omega)
  rw [show x6 &&& 127 = x6 % 128 from Nat.and_two_pow_sub_one_eq_mod x6 7, hp] at d1
  generalize (x / 2) &&& 6148914691236517205 = v1 at *
  generalize x &&& 6148914691236517205 = v2 at *
  generalize (x1 / 4) &&& 3689348814741910323 = v3 at *
  generalize x1 &&& 3689348814741910323 = v4 at *
  have w1 : IntKind.u64.wrap ((v1 : Int) + v2) = (x1 : Int) := by rw [IntWalk.u64_in _ (by omega)]; omega
  have w2 : IntKind.u64.wrap ((v3 : Int) + v4) = (x2 : Int) := by rw [IntWalk.u64_in _ (by omega)]; omega
  have w3 : IntKind.u64.wrap ((x2 : Int) / 16 + x2) = ((x2 / 16 + x2 : Nat) : Int) := by rw [IntWalk.u64_in _ (by omega)]; omega
  have w4 : IntKind.u64.wrap ((x3 : Int) + (x3 : Int) / 256) = (x4 : Int) := by rw [IntWalk.u64_in _ (by omega)]; omega
  have w5 : IntKind.u64.wrap ((x4 : Int) + (x4 : Int) / 65536) = (x5 : Int) := by rw [IntWalk.u64_in _ (by omega)]; omega
  have w6 : IntKind.u64.wrap ((x5 : Int) + (x5 : Int) / 4294967296) = (x6 : Int) := by rw [IntWalk.u64_in _ (by omega)]; omega
  have w7 : IntKind.i64.wrap (x6 : Int) = (x6 : Int) := IntWalk.i64_in _ (by omega)
  have i1 : ((x / 2 : Nat) : Int) = (x : Int) / 2 := by omega
  have i2 : ((x1 / 4 : Nat) : Int) = (x1 : Int) / 4 := by omega
  have i3 : ((x2 / 16 + x2 : Nat) : Int) = (x2 : Int) / 16 + x2 := by omega
  rw [i1] at a1
  rw [i2] at b1
  rw [i3] at c1 w3
  have a1' : bits .and .u64 ((x : Int) / 2) 6148914691236517205 = (v1 : Int) := a1
  have a2' : bits .and .u64 (x : Int) 6148914691236517205 = (v2 : Int) := a2
  have b1' : bits .and .u64 ((x1 : Int) / 4) 3689348814741910323 = (v3 : Int) := b1
  have b2' : bits .and .u64 (x1 : Int) 3689348814741910323 = (v4 : Int) := b2
  have c1' : bits .and .u64 ((x2 : Int) / 16 + x2) 1085102592571150095 = (x3 : Int) := c1
  have d1' : bits .and .i64 (x6 : Int) 127 = (popc x : Int) := d1
  clear a1 a2 b1 b2 c1 d1
  clear i1 i2 i3 e1 e2 e3 e4 e5 e6 hp
  go_enter Tryd.func17, Tryd.ntmps17
  go_wp2
  go_ret
  exact ⟨rfl, rfl⟩
theorem popc_mems (s : Nat) : popc s = (mems s 64).length := by
  have h : ∀ n, cntB s.testBit n = (mems s n).length := by
    intro n
    induction n with
    | zero => rfl
    | succ n ih =>
      rw [mems_succ, List.length_append, ← ih]
      show cntB s.testBit n + _ = _
      split <;> simp_all
  exact h 64
theorem count_any (x : Nat) (w : World) (hx : x < 18446744073709551616) : Calls Tryd.prog 8 #[.int .u64 x] w fun e w' => e = .returned (.int .i64 ((mems x 64).length : Nat)) ∧ w' = w := by
  have H0 := ones_any x w hx
  rw [popc_mems] at H0
  have H := Lib.hid H0
  clear H0
  go_enter Tryd.func8, Tryd.ntmps8
  go_wp2_with (go_at_call 17; refine H.out.mono ?_; rintro e w' ⟨rfl, rfl⟩)
  go_ret
  exact ⟨rfl, rfl⟩
end Go.Proofs.YtiojbmcjcefdkaaDoor


/- Masks: awake. -/
namespace Go.Proofs.YtiojbmcjcefdkaaDoor
open Go.RowKit Go.Tk Go.Shelf

theorem tab64_same {w w' : World} (h0 : 0 < w.heap.size) (hs : Same w w') (hT : Tab64 w) : Tab64 w' := fun j hj => (hs.cell (p := ⟨0, j, none⟩) h0 (fun h => h)).trans (hT j hj)
end Go.Proofs.YtiojbmcjcefdkaaDoor


/- Masks: MaskOfs. -/
namespace Go.Tk
open Go.RowKit
theorem IL.src {w : World} {A : Option Addr} {n : Nat} {xs : List Int} (h : IL w A n xs) (hne : xs ≠ []) : ∃ ad, A = some ad ∧ ∀ j u, (xs.flatMap icell)[j]? = some u → w.cell? (ad.add j) = some u := by
  have h0 : 0 < xs.length := List.length_pos_iff.2 hne
  obtain ⟨b, off, rfl, _, _⟩ := h.at1 (List.getElem?_eq_getElem h0)
  refine ⟨_, rfl, fun j u hj => ?_⟩
  have hfl : ∀ l : List Int, l.flatMap icell = l.map (fun x => Value.int .i64 x) := by
    intro l
    induction l with
    | nil => rfl
    | cons x l ih => rw [List.flatMap_cons, ih]; rfl
  rw [hfl, List.getElem?_map] at hj
  cases hx : xs[j]? with
  | none => rw [hx] at hj; cases hj
  | some x =>
    rw [hx] at hj
    simp at hj
    subst hj
    obtain ⟨b', off', h1, _, h3⟩ := h.at1 hx
    injection h1 with h1
    injection h1 with h1 h2
    subst h1 h2
    have : (⟨b, off, none⟩ : Addr).add j = ⟨b, off + j, none⟩ := by unfold Addr.add; split <;> simp_all
    rw [this]
    exact h3
theorem IL.nil {w : World} {n : Nat} {xs : List Int} (h : IL w none n xs) : xs = [] := by
  cases xs with
  | nil => rfl
  | cons x xs =>
    obtain ⟨b, off, h1, _⟩ := h.at1 (i := 0) (x := x) rfl
    cases h1
end Go.Tk
namespace Go.Proofs.YtiojbmcjcefdkaaDoor
open Go.RowKit Go.Tk
end Go.Proofs.YtiojbmcjcefdkaaDoor


/- Masks: the reference's DocAfter. -/
namespace Go.Tk
open Go.RowKit
theorem flat_icell : ∀ l : List Int, l.flatMap icell = l.map (fun x => Value.int .i64 x)
  | [] => rfl
  | x :: l => by rw [List.flatMap_cons, flat_icell l]; rfl
theorem IL.src_drop {w : World} {b o n : Nat} {xs : List Int} (h : IL w (some ⟨b, o, none⟩) n xs) (m : Nat) : ∀ j u, ((xs.drop m).flatMap icell)[j]? = some u → w.cell? ((⟨b, o + m, none⟩ : Addr).add j) = some u := by
  intro j u hj
  rw [flat_icell, List.map_drop, List.getElem?_drop, List.getElem?_map] at hj
  cases hx : xs[m + j]? with
  | none => rw [hx] at hj; cases hj
  | some x =>
    rw [hx] at hj
    simp at hj
    subst hj
    obtain ⟨b', o', h1, _, h3⟩ := h.at1 hx
    injection h1 with h1
    injection h1 with h1 h2
    subst h1 h2
    have : (⟨b, o + m, none⟩ : Addr).add j = ⟨b, o + (m + j), none⟩ := by unfold Addr.add; split <;> simp_all <;> omega
    rw [this]
    exact h3
end Go.Tk
namespace Go.Proofs.YtiojbmcjcefdkaaDoor
open Go.RowKit Go.Tk

/-- the numbers below k, all of them -/
def rgL (k : Nat) : List Int := (List.range k).map fun (i : Nat) => (i : Int)
theorem rgL_succ (k : Nat) : rgL (k + 1) = rgL k ++ [(k : Int)] := by
  unfold rgL
  rw [List.range_succ, List.map_append]
  rfl
theorem rgL_len (k : Nat) : (rgL k).length = k := by unfold rgL; simp
/-- what DocAfter answers from place i on, n places left -/
def dAf (l : List Int) : Nat → Nat → Nat
  | 0, _ => 0
  | n + 1, i => if l.getD i 0 + 1 < l.getD (i + 1) 64 then stF (rgL i ++ [l.getD i 0 + 1] ++ l.drop (i + 1)) 64 else dAf l n (i + 1)
end Go.Proofs.YtiojbmcjcefdkaaDoor


/- Masks: the document's After is the program's. -/
namespace Go.Proofs.YtiojbmcjcefdkaaDoor
open Go.RowKit Go.Tk Go.Shelf

theorem dAf_skip {l : List Int} {c n : Nat} (h : ∀ i, i < c → ¬ (l.getD i 0 + 1 < l.getD (i + 1) 64)) : ∀ i, i ≤ c → dAf l (n + i) (c - i) = dAf l n c
  | 0, _ => rfl
  | i + 1, hi => by
    show (if l.getD (c - (i + 1)) 0 + 1 < l.getD (c - (i + 1) + 1) 64 then _ else _) = _
    rw [if_neg (h _ (by omega)), show c - (i + 1) + 1 = c - i by omega]
    exact dAf_skip h i (by omega)
/-- a set by its lowest run: its members -/
theorem run_mems {s j c : Nat} (hT : j + c + 1 ≤ 64) (h1 : ∀ i, i < j + c + 1 → s.testBit i = decide (j ≤ i)) :
    mems s 64 = List.range' j (c + 1) ++ (List.range' (j + c + 1) (64 - (j + c + 1))).filter fun i => s.testBit i := by
  unfold mems
  rw [List.range_eq_range']
  have e1 : List.range' 0 64 = List.range' 0 j ++ (List.range' j (c + 1) ++ List.range' (j + c + 1) (64 - (j + c + 1))) := by
    have h2 := List.range'_append_1 (s := j) (m := c + 1) (n := 64 - (j + c + 1))
    have h3 := List.range'_append_1 (s := 0) (m := j) (n := 64 - j)
    rw [Nat.zero_add] at h3
    rw [show j + (c + 1) = j + c + 1 by omega, show c + 1 + (64 - (j + c + 1)) = 64 - j by omega] at h2
    rw [h2, h3]
    congr 1
    omega
  rw [e1, List.filter_append, List.filter_append]
  have f1 : (List.range' 0 j).filter (fun i => s.testBit i) = [] := by
    rw [List.filter_eq_nil_iff]
    intro i hi
    rw [List.mem_range'_1] at hi
    rw [h1 i (by omega)]
    simp <;> omega
  have f2 : (List.range' j (c + 1)).filter (fun i => s.testBit i) = List.range' j (c + 1) := by
    rw [List.filter_eq_self]
    intro i hi
    rw [List.mem_range'_1] at hi
    rw [h1 i (by omega)]
    simp <;> omega
  rw [f1, f2, List.nil_append]
theorem doc_after {s : Nat} (hs : s < 18446744073709551616) : dAf (memI s 64) (memI s 64).length 0 = afR s := by
  by_cases h0 : s = 0
  · subst h0
    decide +kernel
  obtain ⟨c, q, hrun, hj⟩ := run_form h0 hs
  obtain ⟨ha1, ha2⟩ := af_bits h0 hs hrun
  have hrb := run_bits hrun
  have hul := up_lt hs hj hrun
  generalize Lib.ctz 64 s = j at hrun hj ha1 ha2 hrb hul
  have hT : j + c + 1 ≤ 64 := by
    refine Nat.le_of_not_lt fun h => ?_
    have h1 : 2 ^ 65 ≤ 2 ^ (j + c + 1) := Nat.pow_le_pow_right (by omega) (by omega)
    have h2 : 2 ^ (j + c + 1) * 1 ≤ 2 ^ (j + c + 1) * (2 * q + 1) := Nat.mul_le_mul_left _ (by omega)
    rw [← hrun] at h2
    have h3 : (2 : Nat) ^ 65 = 2 ^ 64 * 2 := by decide
    generalize 2 ^ (j + c + 1) = X at h1 h2
    generalize s + 2 ^ j = Y at h2 hul
    have h4 : (0 : Nat) < 2 ^ 64 := by decide
    generalize (2 : Nat) ^ 64 = Z at *
    omega
  have hm := run_mems (s := s) hT (fun i hi => by rw [hrb i, if_pos hi])
  obtain ⟨rest, hrest⟩ : ∃ z, z = (List.range' (j + c + 1) (64 - (j + c + 1))).filter fun i => s.testBit i := ⟨_, rfl⟩
  have hrm : ∀ x, x ∈ rest ↔ j + c + 1 ≤ x ∧ x < 64 ∧ s.testBit x = true := fun x => by
    rw [hrest, List.mem_filter, List.mem_range'_1]
    constructor
    · rintro ⟨h1, h2⟩; exact ⟨h1.1, by omega, h2⟩
    · rintro ⟨h1, h2, h3⟩; exact ⟨⟨h1, by omega⟩, h3⟩
  rw [← hrest] at hm
  obtain ⟨l, hl⟩ : ∃ z, z = memI s 64 := ⟨_, rfl⟩
  have hl2 : l = (List.range' j (c + 1)).map (fun (i : Nat) => (i : Int)) ++ rest.map (fun (i : Nat) => (i : Int)) := by rw [hl]; unfold memI; rw [hm, List.map_append]
  rw [← hl]
  have hge : ∀ i, i ≤ c → ∀ d, l.getD i d = ((j + i : Nat) : Int) := fun i hi d => by
    rw [hl2, List.getD_eq_getElem?_getD, List.getElem?_append_left (by simp <;> omega), List.getElem?_map, List.getElem?_range' (by omega)]
    simp
  have hlen : l.length = rest.length + 1 + c := by rw [hl2]; simp <;> omega
  have hgc : ∀ d, l.getD (c + 1) d = (rest.map (fun (i : Nat) => (i : Int))).getD 0 d := fun d => by
    rw [hl2, List.getD_eq_getElem?_getD, List.getElem?_append_right (by simp), List.getD_eq_getElem?_getD]
    simp
  have hsk := dAf_skip (l := l) (c := c) (n := rest.length + 1) (fun i hi => by rw [hge i (by omega), hge (i + 1) (by omega)]; omega) c (Nat.le_refl _)
  rw [Nat.sub_self] at hsk
  rw [hlen, hsk]
  show (if l.getD c 0 + 1 < l.getD (c + 1) 64 then _ else _) = _
  rw [hge c (Nat.le_refl _), hgc]
  have hdr : l.drop (c + 1) = rest.map (fun (i : Nat) => (i : Int)) := by rw [hl2, List.drop_left' (by simp)]
  rcases Nat.lt_or_ge (j + c + 1) 64 with h64 | h64
  · have hnx : ((j + c : Nat) : Int) + 1 < (rest.map (fun (i : Nat) => (i : Int))).getD 0 64 := by
      cases hr : rest with
      | nil => simp <;> omega
      | cons x xs =>
        have h1 := (hrm x).1 (by rw [hr]; exact List.mem_cons_self ..)
        have h2 : x ≠ j + c + 1 := by
          rintro rfl
          have := h1.2.2
          rw [hrb, if_neg (by omega)] at this
          simp at this
        simp
        omega
    rw [if_pos hnx, hdr]
    refine Nat.eq_of_testBit_eq fun i => ?_
    rw [stF_bit _ _ _ (Nat.le_refl _), ha2 h64 i]
    rw [show (64 : Int) - ((64 : Nat) : Int) + (i : Int) = i by omega]
    have hmem : (i : Int) ∈ rgL c ++ [((j + c : Nat) : Int) + 1] ++ rest.map (fun (i : Nat) => (i : Int)) ↔ i < c ∨ i = j + c + 1 ∨ i ∈ rest := by
      rw [List.mem_append, List.mem_append, List.mem_singleton]
      unfold rgL
      simp only [List.mem_map, List.mem_range]
      constructor
      · rintro ((⟨a, h1, h2⟩ | h) | ⟨a, h1, h2⟩)
        · left; omega
        · right; left; omega
        · right; right
          obtain rfl : a = i := by omega
          exact h1
      · rintro (h | h | h)
        · exact .inl (.inl ⟨i, h, rfl⟩)
        · exact .inl (.inr (by omega))
        · exact .inr ⟨i, h, rfl⟩
    rw [show decide (i < 64 ∧ (i : Int) ∈ rgL c ++ [((j + c : Nat) : Int) + 1] ++ rest.map (fun (i : Nat) => (i : Int))) = decide (i < 64 ∧ (i < c ∨ i = j + c + 1 ∨ i ∈ rest)) by rw [decide_eq_decide, hmem]]
    have hqb : j + c + 2 ≤ i → s.testBit i = q.testBit (i - (j + c + 2)) := fun h => by
      rw [hrb, if_neg (by omega), decide_eq_true h, Bool.and_true]
    by_cases hic : i < c
    · rw [decide_eq_true hic, Bool.true_or, decide_eq_true_eq]
      exact ⟨by omega, .inl hic⟩
    · rw [decide_eq_false hic, Bool.false_or]
      by_cases hi2 : i < j + c + 2
      · rw [if_pos hi2, decide_eq_decide]
        constructor
        · rintro ⟨_, h | h | h⟩
          · exact absurd h hic
          · exact h
          · have h1 := (hrm i).1 h
            have h3 := h1.2.2
            rw [hrb, if_neg (by omega)] at h3
            simp at h3
            omega
        · intro h
          exact ⟨by omega, .inr (.inl h)⟩
      · rw [if_neg hi2, ← hqb (by omega)]
        cases hb : s.testBit i with
        | true =>
          rw [decide_eq_true_eq]
          have h1 : i < 64 := Nat.lt_of_not_le fun hge => by
            have h2 := Nat.testBit_lt_two_pow (Nat.lt_of_lt_of_le (show s < 2 ^ 64 from hs) (Nat.pow_le_pow_right (by omega) hge))
            rw [hb] at h2
            cases h2
          exact ⟨h1, .inr (.inr ((hrm i).2 ⟨by omega, h1, hb⟩))⟩
        | false =>
          rw [decide_eq_false_iff_not]
          rintro ⟨_, h | h | h⟩
          · exact hic h
          · omega
          · have h3 := ((hrm i).1 h).2.2
            rw [hb] at h3
            cases h3
  · have hr : rest = [] := List.eq_nil_iff_forall_not_mem.2 fun x hx => by have := (hrm x).1 hx; omega
    rw [hr]
    rw [if_neg (by simp <;> omega), ha1 (by omega)]
    rfl
end Go.Proofs.YtiojbmcjcefdkaaDoor


/- Masks: After is the set of the next rank. -/
namespace Go.Proofs.YtiojbmcjcefdkaaDoor
open Go.RowKit Go.Tk Go.Shelf

theorem rkF_append : ∀ (i : Nat) (a b : List Nat), rkF i (a ++ b) = rkF i a + rkF (i + a.length) b
  | i, [], b => by simp [rkF]
  | i, x :: a, b => by
    rw [List.cons_append, rkF, rkF, rkF_append (i + 1) a b, List.length_cons, show i + 1 + a.length = i + (a.length + 1) by omega]
    omega
theorem rk_run (j : Nat) : ∀ c, rkF 0 (List.range' j c) + 1 = chs (j + c) c
  | 0 => by rw [chs_zero]; rfl
  | c + 1 => by
    rw [List.range'_1_concat, rkF_snoc, List.length_range', show j + (c + 1) = j + c + 1 by omega, chs_succ, Nat.zero_add, ← rk_run j c]
    omega
theorem rk_bottom : ∀ c, rkF 0 (List.range' 0 c) = 0 := fun c => by
  have := rk_run 0 c
  rw [Nat.zero_add, chs_self] at this
  omega
theorem after_rank {s : Nat} (hs : s < 18446744073709551616) :
    (afR s = 0 ↔ rkF 0 (mems s 64) + 1 = chs 64 (mems s 64).length) ∧ (afR s ≠ 0 → (mems (afR s) 64).length = (mems s 64).length ∧ rkF 0 (mems (afR s) 64) = rkF 0 (mems s 64) + 1 ∧ s < afR s) ∧ afR s < 18446744073709551616 := by
  by_cases h0 : s = 0
  · subst h0
    decide +kernel
  obtain ⟨c, q, hrun, hj⟩ := run_form h0 hs
  obtain ⟨ha1, ha2⟩ := af_bits h0 hs hrun
  have hrb := run_bits hrun
  have hul := up_lt hs hj hrun
  generalize Lib.ctz 64 s = j at hrun hj ha1 ha2 hrb hul
  have hT : j + c + 1 ≤ 64 := by
    refine Nat.le_of_not_lt fun h => ?_
    have h1 : 2 ^ 65 ≤ 2 ^ (j + c + 1) := Nat.pow_le_pow_right (by omega) (by omega)
    have h2 : 2 ^ (j + c + 1) * 1 ≤ 2 ^ (j + c + 1) * (2 * q + 1) := Nat.mul_le_mul_left _ (by omega)
    rw [← hrun] at h2
    have h3 : (2 : Nat) ^ 65 = 2 ^ 64 * 2 := by decide
    generalize 2 ^ (j + c + 1) = X at h1 h2
    generalize s + 2 ^ j = Y at h2 hul
    have h4 : (0 : Nat) < 2 ^ 64 := by decide
    generalize (2 : Nat) ^ 64 = Z at *
    omega
  have hm := run_mems (s := s) hT (fun i hi => by rw [hrb i, if_pos hi])
  have hst : s.testBit (j + c + 1) = false := by rw [hrb, if_neg (by omega)]; simp
  have hhi : ∀ i, 64 ≤ i → s.testBit i = false := fun i hi => Nat.testBit_lt_two_pow (Nat.lt_of_lt_of_le (show s < 2 ^ 64 from hs) (Nat.pow_le_pow_right (by omega) hi))
  obtain ⟨rest, hrest⟩ : ∃ z, z = (List.range' (j + c + 1) (64 - (j + c + 1))).filter fun i => s.testBit i := ⟨_, rfl⟩
  rw [← hrest] at hm
  have hk : (mems s 64).length = c + 1 + rest.length := by rw [hm]; simp
  have hr : rkF 0 (mems s 64) + 1 = chs (j + c + 1) (c + 1) + rkF (c + 1) rest := by
    have := rk_run j (c + 1)
    rw [hm, rkF_append, List.length_range', Nat.zero_add, show j + c + 1 = j + (c + 1) by omega]
    omega
  rcases Nat.lt_or_ge (j + c + 1) 64 with h64 | h64
  · have hb := ha2 h64
    have hq : ∀ i, j + c + 2 ≤ i → s.testBit i = q.testBit (i - (j + c + 2)) := fun i h => by
      rw [hrb, if_neg (by omega), decide_eq_true h, Bool.and_true]
    have hup : ∀ i, j + c + 2 ≤ i → (afR s).testBit i = s.testBit i := fun i h => by
      rw [hb i, decide_eq_false (by omega), Bool.false_or, if_neg (by omega), hq i h]
    have hne : afR s ≠ 0 := fun h => by
      have h1 := hb (j + c + 1)
      rw [h, Nat.zero_testBit, if_pos (by omega), decide_eq_true rfl, Bool.or_true] at h1
      cases h1
    have hlt : afR s < 18446744073709551616 := by
      refine Nat.lt_pow_two_of_testBit (n := 64) _ fun i hi => ?_
      rw [hup i (by omega)]
      exact hhi i hi
    have hma : mems (afR s) 64 = List.range' 0 c ++ ([j + c + 1] ++ rest) := by
      unfold mems
      rw [List.range_eq_range']
      have e1 : List.range' 0 64 = List.range' 0 c ++ (List.range' c (j + 1) ++ ([j + c + 1] ++ List.range' (j + c + 2) (64 - (j + c + 2)))) := by
        have h3 := List.range'_append_1 (s := 0) (m := c) (n := 64 - c)
        have h2 := List.range'_append_1 (s := c) (m := j + 1) (n := 64 - (j + c + 1))
        have h1 := List.range'_append_1 (s := j + c + 1) (m := 1) (n := 64 - (j + c + 2))
        rw [Nat.zero_add, show c + (64 - c) = 64 by omega] at h3
        rw [show c + (j + 1) = j + c + 1 by omega, show j + 1 + (64 - (j + c + 1)) = 64 - c by omega] at h2
        rw [show 1 + (64 - (j + c + 2)) = 64 - (j + c + 1) by omega] at h1
        rw [← h3, ← h2, ← h1]
        rfl
      have e2 : rest = (List.range' (j + c + 2) (64 - (j + c + 2))).filter fun i => s.testBit i := by
        have h1 := List.range'_append_1 (s := j + c + 1) (m := 1) (n := 64 - (j + c + 2))
        rw [show 1 + (64 - (j + c + 2)) = 64 - (j + c + 1) by omega] at h1
        rw [hrest, ← h1, List.filter_append]
        rw [show (List.range' (j + c + 1) 1).filter (fun i => s.testBit i) = [] by simp [hst]]
        rfl
      rw [e1, List.filter_append, List.filter_append, List.filter_append, e2]
      have f1 : (List.range' 0 c).filter (fun i => (afR s).testBit i) = List.range' 0 c := by
        rw [List.filter_eq_self]
        intro i hi
        rw [List.mem_range'_1] at hi
        rw [hb i, decide_eq_true (by omega), Bool.true_or]
      have f2 : (List.range' c (j + 1)).filter (fun i => (afR s).testBit i) = [] := by
        rw [List.filter_eq_nil_iff]
        intro i hi
        rw [List.mem_range'_1] at hi
        rw [hb i, decide_eq_false (by omega), Bool.false_or, if_pos (by omega), decide_eq_false (by omega)]
        decide
      have f3 : [j + c + 1].filter (fun i => (afR s).testBit i) = [j + c + 1] := by
        rw [List.filter_eq_self]
        intro i hi
        rw [List.mem_singleton.1 hi, hb, if_pos (by omega), decide_eq_true rfl, Bool.or_true]
      have f4 : (List.range' (j + c + 2) (64 - (j + c + 2))).filter (fun i => (afR s).testBit i) = (List.range' (j + c + 2) (64 - (j + c + 2))).filter (fun i => s.testBit i) := by
        refine List.filter_congr fun i hi => ?_
        rw [List.mem_range'_1] at hi
        exact hup i hi.1
      rw [f1, f2, f3, f4, List.nil_append]
    have hka : (mems (afR s) 64).length = (mems s 64).length := by rw [hma, hk]; simp <;> omega
    have hra : rkF 0 (mems (afR s) 64) = rkF 0 (mems s 64) + 1 := by
      rw [hr, hma, rkF_append, rk_bottom, List.length_range', Nat.zero_add, Nat.zero_add]
      rfl
    refine ⟨⟨fun h => absurd h hne, fun h => ?_⟩, fun _ => ⟨hka, hra, ?_⟩, hlt⟩
    · have h1 := rk_below (afR s) 64
      rw [hka, hra, h] at h1
      exact absurd h1 (Nat.lt_irrefl _)
    · exact (rk_order hs hlt hka.symm).1.1 (by rw [hra]; omega)
  · have hz := ha1 (by omega)
    have hrn : rest = [] := by
      rw [hrest, show 64 - (j + c + 1) = 0 by omega]
      rfl
    refine ⟨⟨fun _ => ?_, fun _ => hz⟩, fun h => absurd hz h, by rw [hz]; decide⟩
    rw [hr, hk, hrn, show j + c + 1 = 64 by omega]
    rw [show rkF (c + 1) [] = 0 from rfl, List.length_nil, Nat.add_zero, Nat.add_zero]
end Go.Proofs.YtiojbmcjcefdkaaDoor


/- Masks: the sets that Subsets gives, by rank: plain. -/
namespace Go.Proofs.YtiojbmcjcefdkaaDoor
open Go.RowKit Go.Tk Go.Shelf

theorem mems_up {s n : Nat} (hs : s < 2 ^ n) : ∀ j, mems s (n + j) = mems s n
  | 0 => rfl
  | j + 1 => by
    rw [show n + (j + 1) = n + j + 1 by omega, mems_succ, mems_up hs j, Nat.testBit_lt_two_pow (Nat.lt_of_lt_of_le hs (Nat.pow_le_pow_right (by omega) (by omega)))]
    simp
theorem mems_up64 {s n : Nat} (hs : s < 2 ^ n) (hn : n ≤ 64) : mems s 64 = mems s n := by
  have := mems_up hs (64 - n)
  rwa [show n + (64 - n) = 64 by omega] at this
theorem sub_u64 {n k r : Nat} (hn : n ≤ 64) : unS n k r < 18446744073709551616 :=
  Nat.lt_of_lt_of_le (unS_lt n k r) (Nat.le_trans (Nat.pow_le_pow_right (by omega) hn) (by decide))
theorem sub_rk {n k r : Nat} (hn : n ≤ 64) (hr : r < chs n k) : (mems (unS n k r) 64).length = k ∧ rkF 0 (mems (unS n k r) 64) = r := by
  rw [mems_up64 (unS_lt n k r) hn]
  exact rk_un n k r hr
/-- a set by its count and rank -/
theorem sub_eq {n k r s : Nat} (hn : n ≤ 64) (hr : r < chs n k) (hs : s < 18446744073709551616) (h1 : (mems s 64).length = k) (h2 : rkF 0 (mems s 64) = r) : s = unS n k r := by
  obtain ⟨g1, g2⟩ := sub_rk hn hr
  exact (rk_order hs (sub_u64 hn) (by rw [h1, g1])).2.1 (by rw [h2, g2])
theorem sub_step {n k r : Nat} (hn : n ≤ 64) (hr : r + 1 < chs n k) : afR (unS n k r) = unS n k (r + 1) := by
  obtain ⟨g1, g2⟩ := sub_rk (n := n) (k := k) (r := r) hn (by omega)
  obtain ⟨a1, a2, a3⟩ := after_rank (sub_u64 (k := k) (r := r) hn)
  have hne : afR (unS n k r) ≠ 0 := fun h => by
    have := a1.1 h
    rw [g1, g2] at this
    have h3 : chs n k ≤ chs 64 k := chs_mono2 hn
    omega
  obtain ⟨b1, b2, _⟩ := a2 hne
  exact sub_eq hn hr a3 (by rw [b1, g1]) (by rw [b2, g2])
theorem range_mems {s j c : Nat} (hT : j + c ≤ 64) (h1 : ∀ i, i < 64 → s.testBit i = decide (j ≤ i ∧ i < j + c)) : mems s 64 = List.range' j c := by
  unfold mems
  rw [List.range_eq_range']
  have e1 : List.range' 0 64 = List.range' 0 j ++ (List.range' j c ++ List.range' (j + c) (64 - (j + c))) := by
    have h2 := List.range'_append_1 (s := j) (m := c) (n := 64 - (j + c))
    have h3 := List.range'_append_1 (s := 0) (m := j) (n := 64 - j)
    rw [Nat.zero_add, show j + (64 - j) = 64 by omega] at h3
    rw [show c + (64 - (j + c)) = 64 - j by omega] at h2
    rw [h2, h3]
  rw [e1, List.filter_append, List.filter_append]
  have f1 : (List.range' 0 j).filter (fun i => s.testBit i) = [] := by
    rw [List.filter_eq_nil_iff]
    intro i hi
    rw [List.mem_range'_1] at hi
    rw [h1 i (by omega)]
    simp <;> omega
  have f2 : (List.range' j c).filter (fun i => s.testBit i) = List.range' j c := by
    rw [List.filter_eq_self]
    intro i hi
    rw [List.mem_range'_1] at hi
    rw [h1 i (by omega)]
    simp <;> omega
  have f3 : (List.range' (j + c) (64 - (j + c))).filter (fun i => s.testBit i) = [] := by
    rw [List.filter_eq_nil_iff]
    intro i hi
    rw [List.mem_range'_1] at hi
    rw [h1 i (by omega)]
    simp <;> omega
  rw [f1, f2, f3, List.nil_append, List.append_nil]
theorem bel_bit (n : Int) (i : Nat) (hi : i < 64) : (belN n).testBit i = decide ((i : Int) < n) := by
  rw [← belN_doc, stF_bit _ _ _ (Nat.le_refl _), decide_eq_decide, show (64 : Int) - ((64 : Nat) : Int) + (i : Int) = i by omega, blL_mem]
  omega
theorem sub_first {n k : Nat} (hk : k ≤ n) (hn : n ≤ 64) : belN k = unS n k 0 := by
  have hm : mems (belN k) 64 = List.range' 0 k := range_mems (by omega) fun i hi => by rw [bel_bit _ i hi, decide_eq_decide]; omega
  exact sub_eq hn (chs_pos hk) (belN_lt _) (by rw [hm]; simp) (by rw [hm, rk_bottom])
theorem sub_last {n k : Nat} (hk : k ≤ n) (hn : n ≤ 64) : belN n &&& (18446744073709551615 - belN ((n : Int) - k)) = unS n k (chs n k - 1) := by
  have hp := chs_pos hk
  have hlt : belN ((n : Int) - k) < 2 ^ 64 := belN_lt _
  have e : 18446744073709551615 - belN ((n : Int) - k) = 2 ^ 64 - (belN ((n : Int) - k) + 1) := by
    have : (2 : Nat) ^ 64 = 18446744073709551616 := by decide
    omega
  have hm : mems (belN n &&& (18446744073709551615 - belN ((n : Int) - k))) 64 = List.range' (n - k) k := range_mems (by omega) fun i hi => by
    rw [Nat.testBit_and, e, Nat.testBit_two_pow_sub_succ hlt, bel_bit _ i hi, bel_bit _ i hi, decide_eq_true hi, Bool.true_and, ← decide_not, ← Bool.decide_and, decide_eq_decide]
    omega
  have hr := rk_run (n - k) k
  rw [show n - k + k = n by omega] at hr
  exact sub_eq hn (by omega) (Nat.lt_of_le_of_lt Nat.and_le_left (belN_lt _)) (by rw [hm]; simp) (by rw [hm]; omega)
theorem sub_inj {n k r q : Nat} (hn : n ≤ 64) (hr : r < chs n k) (hq : q < chs n k) (h : unS n k r = unS n k q) : r = q := by
  have h1 := (sub_rk hn hr).2
  have h2 := (sub_rk hn hq).2
  rw [h] at h1
  omega
/-- behind the last -/
theorem sub_end {n k : Nat} (hk : k ≤ n) (hn : n ≤ 64) : afR (unS n k (chs n k - 1)) = 0 ∨ (n < 64 ∧ 2 ^ n ≤ afR (unS n k (chs n k - 1))) := by
  have hp := chs_pos hk
  obtain ⟨g1, g2⟩ := sub_rk (n := n) (k := k) (r := chs n k - 1) hn (by omega)
  obtain ⟨a1, a2, a3⟩ := after_rank (sub_u64 (k := k) (r := chs n k - 1) hn)
  by_cases h0 : afR (unS n k (chs n k - 1)) = 0
  · exact .inl h0
  · obtain ⟨b1, b2, _⟩ := a2 h0
    have hge : 2 ^ n ≤ afR (unS n k (chs n k - 1)) := Nat.le_of_not_lt fun hlt => by
      have h1 := rk_below (afR (unS n k (chs n k - 1))) n
      rw [← mems_up64 hlt hn, b1, b2, g1, g2] at h1
      omega
    refine .inr ⟨Nat.lt_of_le_of_ne hn ?_, hge⟩
    rintro rfl
    have : (2 : Nat) ^ 64 = 18446744073709551616 := by decide
    omega
end Go.Proofs.YtiojbmcjcefdkaaDoor


/- Masks: Subsets, its iterator, and a range over it. -/
namespace Go.Proofs.YtiojbmcjcefdkaaDoor
open Go.RowKit Go.Tk Go.Shelf

attribute [local go_sem] Oper.semAt_some

/-- how many sets Subsets gives; the set of a rank -/
def subM (n k : Int) : Nat := if 0 ≤ n ∧ n ≤ 64 ∧ 0 ≤ k ∧ k ≤ n then chs n.toNat k.toNat else 0
def subS (n k : Int) (r : Nat) : Nat := unS n.toNat k.toNat r
theorem subsets_any (n k : Int) (w : World) : Calls Tryd.prog 5 #[.int .i64 n, .int .i64 k] w fun e w' => e = .returned (.func (.func 15) #[] #[.pointer (some ⟨w.heap.size, 0, none⟩), .pointer (some ⟨w.heap.size + 1, 0, none⟩)]) ∧ w' = (w.alloc (.cells #[.int .i64 n] 3)).alloc (.cells #[.int .i64 k] 3) := by
  have hmf : ∀ (fn : Fn) (first cap : Array Value) (w : World), (Instr.makeFunc fn first cap).run Tryd.prog w = .ok (.func fn first cap) w := fun _ _ _ _ => rfl
  go_enter Tryd.func5, Tryd.ntmps5
  go_wp2
  go_ret
  exact ⟨by simp, rfl⟩
set_option maxHeartbeats 8000000 in
/-- the iterator: the sets by rank, up to where a round says 'no more' -/
theorem sub1_good (d l b1 b2 : Nat) (N K : Nat) (hKN : K ≤ N) (hN64 : N ≤ 64) (J Jx : Nat → World → Prop) (hd : 1 ≤ d) (hJd : ∀ r W, J r W → J r W.drew)
    (hY : ∀ r W, r < chs N K → J r W → YieldAt Fence.wide (d - 1) Tryd.prog l #[.int .u64 (unS N K r : Nat)] W fun e W' => (e = .returned (.bool true) ∧ J (r + 1) W') ∨ (e = .returned (.bool false) ∧ Jx r W'))
    (W : World) (hc1 : W.cell? ⟨b1, 0, none⟩ = some (.int .i64 N)) (hc2 : W.cell? ⟨b2, 0, none⟩ = some (.int .i64 K)) (h0 : J 0 W) :
    CallsIn Fence.wide d Tryd.prog 15 #[.func (.yield l) #[] #[], .pointer (some ⟨b1, 0, none⟩), .pointer (some ⟨b2, 0, none⟩)] W fun e W' => (∃ v, e = .returned v) ∧ (J (chs N K) W' ∨ ∃ r, r < chs N K ∧ Jx r W') := by
  have hpos := chs_pos hKN
  have hlast := sub_last hKN hN64
  have hfirst := sub_first hKN hN64
  have n1 : ¬ (N : Int) < 0 := by omega
  have n2 : ¬ (N : Int) > 64 := by omega
  have n3 : ¬ (K : Int) < 0 := by omega
  have n4 : ¬ (K : Int) > N := by omega
  have HB := Lib.hid (fun n w => callsIn_wide (n := d - 1).2 (below_any n w))
  have HB3 := Lib.hid (fun w => callsIn_wide (n := d - 1).2 (below_any (K : Int) w))
  rw [hfirst] at HB3
  have HA := Lib.hid (fun s hs w => callsIn_wide (n := d - 1).2 (after_any s hs w))
  have hand := u64_andNot_nat (belN N) (belN ((N : Int) - K)) (belN_lt _) (belN_lt _)
  rw [hlast] at hand
  obtain ⟨M, hM⟩ : ∃ z, z = chs N K := ⟨_, rfl⟩
  obtain ⟨L, hL⟩ : ∃ z, z = unS N K (chs N K - 1) := ⟨_, rfl⟩
  rw [← hL] at hand
  obtain ⟨S0, hS0⟩ : ∃ z, z = unS N K 0 := ⟨_, rfl⟩
  rw [← hS0] at HB3
  rw [hM.symm] at hY ⊢ hpos hL
  have HS0 := Lib.hid hS0
  have HL := Lib.hid hL
  have HM := Lib.hid hM
  have HY := Lib.hid hY
  clear hlast hfirst hS0 hL hM hY
  have hw : IntKind.i64.wrap ((N : Int) - K) = (N : Int) - K := IntWalk.i64_in _ (by omega)
  refine callsIn_of_wp Tryd.func15 rfl trivial ?_ rfl
  simp only [Tryd.ntmps15, List.size_toArray, List.length_cons, List.length_nil, Nat.reduceAdd, Nat.reduceSub, Array.replicate_succ, Array.replicate_zero, List.push_toArray, List.append_toArray, List.nil_append, List.cons_append]
  have hmix : Tryd.prog.follows .mixedOrders = true := by kernel_rfl
  gi_wp2
  gi_region_with_o (first | (refine ⟨trivial, ?_⟩; gi_at_call 9; refine (HB.out _ _).mono ?_; rintro e w' ⟨rfl, rfl⟩) | (gi_at_call 9; refine (HB.out _ _).mono ?_; rintro e w' ⟨rfl, rfl⟩))
  all_goals gi_wp2_with (refine ⟨trivial, ?_⟩; gi_at_call 9; refine (HB3.out _).mono ?_; rintro e w' ⟨rfl, rfl⟩)
  all_goals
    gi_loopw [5] (fun s wr => ∃ r, r < M ∧ s = .int .u64 (unS N K r : Nat) ∧ J r wr) (fun s _ => M - rkF 0 (mems (intOf s).toNat 64))
    case atStart => exact ⟨0, hpos, by rw [HS0.out], hJd _ _ h0⟩
    case round =>
      obtain ⟨r, hr, rfl, hj⟩ := hrel
      have hrk := (sub_rk (n := N) (k := K) (r := r) hN64 (by rw [← HM.out]; exact hr)).2
      obtain ⟨fn, tmps, assign, body, hy, hR⟩ := HY.out r wr hr hj
      obtain ⟨sv, hsv⟩ : ∃ z, z = unS N K r := ⟨_, rfl⟩
      have hsu : sv < 18446744073709551616 := by rw [hsv]; exact sub_u64 hN64
      have HAF := Lib.hid (fun w => HA.out sv hsu w)
      rw [← hsv] at hrk hy ⊢
      have HRK := Lib.hid hrk
      have HR0 := Lib.hid hr
      clear hj hrk
      by_cases hrl : r + 1 < M
      · have hst : afR sv = unS N K (r + 1) := by rw [hsv]; exact sub_step hN64 (by rw [← HM.out]; exact hrl)
        have hne : ¬ sv = L := by
          rw [hsv, HL.out]
          intro h
          have := sub_inj hN64 (by rw [← HM.out]; exact hr) (by rw [← HM.out]; omega) h
          omega
        have hne1 : ¬ (sv : Int) = (L : Int) := by omega
        have hne2 : ((sv : Int) != (L : Int)) = true := by simp <;> omega
        rw [hst] at HAF
        have hrk1 := (sub_rk (n := N) (k := K) (r := r + 1) hN64 (by rw [← HM.out]; exact hrl)).2
        obtain ⟨s1, hs1⟩ : ∃ z, z = unS N K (r + 1) := ⟨_, rfl⟩
        rw [← hs1] at HAF hrk1
        have HS1 := Lib.hid hs1
        have HRK1 := Lib.hid hrk1
        clear hsv hst hs1 hrk1
        gi_wp2
        refine hR.mono ?_
        rintro e W3 (⟨rfl, hj3⟩ | ⟨rfl, hx3⟩)
        · have HJ3 := Lib.hid hj3
          clear hj3
          gi_wp2_with (refine ⟨trivial, ?_⟩; gi_at_call 10; refine (HAF.out _).mono ?_; rintro e w' ⟨rfl, rfl⟩)
          go_roundw
          case rel => exact ⟨r + 1, hrl, by rw [HS1.out], HJ3.out⟩
          case measure => simp only [intOf, Int.toNat_natCast]; rw [HRK.out, HRK1.out]; omega
        · have HX3 := Lib.hid hx3
          clear hx3
          gi_wp2
          go_end0
          exact ⟨⟨_, rfl⟩, .inr ⟨r, HR0.out, HX3.out⟩⟩
      · obtain rfl : M = r + 1 := by omega
        have hsl : sv = L := by rw [hsv, HL.out, Nat.add_sub_cancel]
        clear hsv
        subst hsl
        gi_wp2
        refine hR.mono ?_
        rintro e W3 (⟨rfl, hj3⟩ | ⟨rfl, hx3⟩)
        · have HJ3 := Lib.hid hj3
          clear hj3
          gi_wp2
          go_end0
          exact ⟨⟨_, rfl⟩, .inl HJ3.out⟩
        · have HX3 := Lib.hid hx3
          clear hx3
          gi_wp2
          go_end0
          exact ⟨⟨_, rfl⟩, .inr ⟨r, HR0.out, HX3.out⟩⟩
end Go.Proofs.YtiojbmcjcefdkaaDoor


/- Masks: a range over Subsets. -/
namespace Go.Proofs.YtiojbmcjcefdkaaDoor
open Go.RowKit Go.Tk Go.Shelf

attribute [local go_sem] Oper.semAt_some

set_option maxHeartbeats 4000000 in
theorem sub1_bad (d l b1 b2 : Nat) (n k : Int) (hb : ¬ (0 ≤ n ∧ n ≤ 64 ∧ 0 ≤ k ∧ k ≤ n)) (_hd : 1 ≤ d)
    (W : World) (hc1 : W.cell? ⟨b1, 0, none⟩ = some (.int .i64 n)) (hc2 : W.cell? ⟨b2, 0, none⟩ = some (.int .i64 k)) :
    CallsIn Fence.wide d Tryd.prog 15 #[.func (.yield l) #[] #[], .pointer (some ⟨b1, 0, none⟩), .pointer (some ⟨b2, 0, none⟩)] W fun e W' => (∃ v, e = .returned v) ∧ W' = W := by
  refine callsIn_of_wp Tryd.func15 rfl trivial ?_ rfl
  simp only [Tryd.ntmps15, List.size_toArray, List.length_cons, List.length_nil, Nat.reduceAdd, Nat.reduceSub, Array.replicate_succ, Array.replicate_zero, List.push_toArray, List.append_toArray, List.nil_append, List.cons_append]
  by_cases h1 : n < 0
  · gi_wp2
    refine bodyPost_ret (results_none rfl _ _ _) rfl ?_
    exact ⟨⟨_, rfl⟩, rfl⟩
  by_cases h2 : n > 64
  · gi_wp2
    refine bodyPost_ret (results_none rfl _ _ _) rfl ?_
    exact ⟨⟨_, rfl⟩, rfl⟩
  by_cases h3 : k < 0
  · gi_wp2
    refine bodyPost_ret (results_none rfl _ _ _) rfl ?_
    exact ⟨⟨_, rfl⟩, rfl⟩
  have h4 : k > n := by omega
  clear hb
  gi_wp2
  refine bodyPost_ret (results_none rfl _ _ _) rfl ?_
  exact ⟨⟨_, rfl⟩, rfl⟩
theorem sub1_in (d l b1 b2 : Nat) (n k : Int) (J Jx : Nat → World → Prop) (hd : 1 ≤ d) (hJd : ∀ r W, J r W → J r W.drew)
    (hY : ∀ r W, r < subM n k → J r W → YieldAt Fence.wide (d - 1) Tryd.prog l #[.int .u64 (subS n k r : Nat)] W fun e W' => (e = .returned (.bool true) ∧ J (r + 1) W') ∨ (e = .returned (.bool false) ∧ Jx r W'))
    (W : World) (hc1 : W.cell? ⟨b1, 0, none⟩ = some (.int .i64 n)) (hc2 : W.cell? ⟨b2, 0, none⟩ = some (.int .i64 k)) (h0 : J 0 W) :
    CallsIn Fence.wide d Tryd.prog 15 #[.func (.yield l) #[] #[], .pointer (some ⟨b1, 0, none⟩), .pointer (some ⟨b2, 0, none⟩)] W fun e W' => (∃ v, e = .returned v) ∧ (J (subM n k) W' ∨ ∃ r, r < subM n k ∧ Jx r W') := by
  by_cases hg : 0 ≤ n ∧ n ≤ 64 ∧ 0 ≤ k ∧ k ≤ n
  · obtain ⟨g1, g2, g3, g4⟩ := hg
    obtain ⟨N, rfl⟩ := Int.eq_ofNat_of_zero_le g1
    obtain ⟨K, rfl⟩ := Int.eq_ofNat_of_zero_le g3
    have hM : subM (N : Int) (K : Int) = chs N K := by unfold subM; rw [if_pos ⟨g1, g2, g3, g4⟩, Int.toNat_natCast, Int.toNat_natCast]
    have hS : ∀ r, subS (N : Int) (K : Int) r = unS N K r := fun r => by unfold subS; rw [Int.toNat_natCast, Int.toNat_natCast]
    rw [hM] at hY ⊢
    simp only [hS] at hY
    exact sub1_good d l b1 b2 N K (by omega) (by omega) J Jx hd hJd hY W hc1 hc2 h0
  · have hM : subM n k = 0 := by unfold subM; rw [if_neg hg]
    rw [hM]
    refine (sub1_bad d l b1 b2 n k hg hd W hc1 hc2).mono ?_
    rintro e W' ⟨hv, rfl⟩
    exact ⟨hv, .inl h0⟩

def subPost (B : Nat) (I : Nat → World → Prop) (Ix : Code → Nat → World → Prop) (r : Nat) (W : World) : Exit → Act → World → Prop
  | .normal, _, W' => KeepsFrom B W W' ∧ I (r + 1) W'
  | .ret, _, W' => KeepsFrom B W W' ∧ Ix .ret r W'
  | .exit id, _, W' => KeepsFrom B W W' ∧ Ix (.exit id) r W'
  | _, _, _ => False

set_option maxHeartbeats 2000000 in
theorem range_subs {d : Nat} (h1 : 2 ≤ d) {g : Operand} {p : Tmp} {assign body : Code} {Q : Exit → Act → World → Prop} {a : Act} {w : World} {b1 b2 : Nat} {n k : Int}
    (hg : a.eval g = .func (.func 15) #[] #[.pointer (some ⟨b1, 0, none⟩), .pointer (some ⟨b2, 0, none⟩)])
    (hc1 : Boxed w b1 3 (.int .i64 n)) (hc2 : Boxed w b2 3 (.int .i64 k))
    (I : Nat → World → Prop) (Ix : Code → Nat → World → Prop)
    (hId : ∀ r W, I r W → I r W.drew)
    (hIa : ∀ r W o, w.heap.size ≤ W.heap.size → I r W → I r (W.alloc o))
    (hIp : ∀ r W l o o', w.heap.size ≤ l → W.heap[l]? = some o' → o'.isCells = false → I r W → I r (W.putObj l o))
    (hIxp : ∀ c r W l o o', w.heap.size ≤ l → W.heap[l]? = some o' → o'.isCells = false → Ix c r W → Ix c r (W.putObj l o))
    (h0 : I 0 w) (a₁ : Nat → Act)
    (hassign : ∀ (l r : Nat) (W : World) (K : Act → World → Prop), K (a₁ r) W →
      assign.wpIn (Fence.wide.inRound l) (d - 1 - 1) Tryd.prog (Exit.then K (fun _ _ _ => False)) { tmps := a.tmps.setIfInBounds p (.int .u64 (subS n k r : Nat)), defers := [] } W)
    (hbody : ∀ (l r : Nat) (W : World), r < subM n k → I r W → w.heap.size ≤ W.heap.size → body.wpIn (Fence.wide.inRound l) (d - 1 - 1) Tryd.prog (subPost w.heap.size I Ix r W) (a₁ r) W)
    (hdone : ∀ (D : Nat) (W : World), w.heap.size ≤ D → I (subM n k) W → W.heap[D]? = some (.deferred (some [])) → Q .normal { a with defers := { target := .collected D, args := #[] } :: a.defers } W)
    (hstop : ∀ (D : Nat) (c : Code) (r : Nat) (W : World), w.heap.size ≤ D → r < subM n k → Ix c r W → W.heap[D]? = some (.deferred (some [])) → c.wpIn Fence.wide d Tryd.prog Q { a with defers := { target := .collected D, args := #[] } :: a.defers } W) :
    (Code.rangeFunc g #[p] assign body).wpIn Fence.wide d Tryd.prog Q a w := by
  refine wpIn_rangeFunc ?_
  intro fn hfn
  obtain ⟨rec, hrec⟩ : ∃ rec : LoopState → Option Code → Loop, rec = fun st pe => { state := st, pending := pe, fn, tmps := a.tmps, params := #[p], assign, body, defers := w.heap.size } := ⟨_, rfl⟩
  obtain ⟨W1, hW1⟩ : ∃ W1, (w.alloc (.deferred (some []))).alloc (.loop (rec .ready none)) = W1 := ⟨_, rfl⟩
  have hL1 : W1.heap[w.heap.size + 1]? = some (.loop (rec .ready none)) := by
    rw [← hW1]; have := World.alloc_heap_new (w.alloc (.deferred (some []))) (.loop (rec .ready none)); rwa [World.size_alloc] at this
  have hK1 : W1.heap[w.heap.size]? = some (.deferred (some [])) := by
    rw [← hW1]; exact (Below.heap_alloc _ _ _ (by simp)).trans (World.alloc_heap_new w _)
  have hI1 : I 0 W1 := by rw [← hW1]; exact hIa _ _ _ (by simp) (hIa _ _ _ (Nat.le_refl _) h0)
  have hB1 : Boxed W1 b1 3 (.int .i64 n) := by rw [← hW1]; exact (hc1.alloc _).alloc _
  have hB2 : Boxed W1 b2 3 (.int .i64 k) := by rw [← hW1]; exact (hc2.alloc _).alloc _
  have hsz1 : W1.heap.size = w.heap.size + 2 := by rw [← hW1]; simp
  refine ⟨w.heap.size + 1, [{ target := .collected w.heap.size, args := #[] }], W1, { target := .fn (.func 15) #[.pointer (some ⟨b1, 0, none⟩), .pointer (some ⟨b2, 0, none⟩)], args := #[.func (.yield (w.heap.size + 1)) #[] #[]] }, W1, 15,
    #[.func (.yield (w.heap.size + 1)) #[] #[]] ++ #[.pointer (some ⟨b1, 0, none⟩), .pointer (some ⟨b2, 0, none⟩)], W1, ?_, ?_, ?_, ?_, fun _ => by omega, ?_⟩
  · rw [← hW1, hrec]; exact run_enterLoop_outer _ _ _ _ _
  · simp only [resolve, hg]
    simp [go_sem]
  · intro f' _; exact trivial
  · simp [invoke, go_sem]
  · refine (sub1_in (d - 1) (w.heap.size + 1) b1 b2 n k
      (fun r W => I r W ∧ W.heap[w.heap.size + 1]? = some (.loop (rec .ready none)) ∧ W.heap[w.heap.size]? = some (.deferred (some [])))
      (fun r W => ∃ c, Ix c r W ∧ W.heap[w.heap.size + 1]? = some (.loop (rec .done (some c))) ∧ W.heap[w.heap.size]? = some (.deferred (some [])))
      (by omega) (fun r W h => ⟨hId _ _ h.1, h.2.1, h.2.2⟩)
      ?_ W1 hB1.cell hB2.cell ⟨hI1, hL1, hK1⟩).mono ?_
    · rintro r W hr ⟨hi, hl, hk⟩
      have hlt : w.heap.size + 1 < W.heap.size := (Array.getElem?_eq_some_iff.1 hl).1
      have hy := run_yield (P := Tryd.prog) (args := #[.int .u64 (subS n k r : Nat)]) hl (by rw [hrec]; rfl)
      rw [hrec] at hy
      have hfold : (#[p].zip #[Value.int .u64 (subS n k r : Nat)]).foldl (fun tmps (t, a) => tmps.setIfInBounds t a) a.tmps = a.tmps.setIfInBounds p (.int .u64 (subS n k r : Nat)) := by simp
      simp only [hfold] at hy
      refine ⟨fn, _, assign, body, hy, roundIn_of_wpIn hfn ?_⟩
      refine hassign _ r W _ ?_
      refine ⟨_, run_beginRound hl (by rw [hrec]), ?_⟩
      have hl2 : (W.putObj (w.heap.size + 1) (.loop { rec .ready none with state := .busy })).heap[w.heap.size + 1]? = some (.loop { rec .ready none with state := .busy }) := World.putObj_heap_same hlt
      have hk2 : (W.putObj (w.heap.size + 1) (.loop { rec .ready none with state := .busy })).heap[w.heap.size]? = some (.deferred (some [])) := (World.putObj_heap_other (by omega)).trans hk
      refine wpIn_mono (hbody _ r _ hr (hIp _ _ _ _ _ (by omega) hl rfl hi) (by simp <;> omega)) ?_
      have fin : ∀ (jump : Option Code) (W3 : World), KeepsFrom w.heap.size (W.putObj (w.heap.size + 1) (.loop { rec .ready none with state := .busy })) W3 →
          (Instr.endRound (w.heap.size + 1) jump).run Tryd.prog W3 = .ok (.bool jump.isNone) (W3.putObj (w.heap.size + 1) (.loop (rec (if jump.isNone then .ready else .done) jump))) ∧
          W3.heap[w.heap.size + 1]? = some (.loop { rec .ready none with state := .busy }) ∧
          (W3.putObj (w.heap.size + 1) (.loop (rec (if jump.isNone then .ready else .done) jump))).heap[w.heap.size + 1]? = some (.loop (rec (if jump.isNone then .ready else .done) jump)) ∧
          (W3.putObj (w.heap.size + 1) (.loop (rec (if jump.isNone then .ready else .done) jump))).heap[w.heap.size]? = some (.deferred (some [])) := fun jump W3 hk3 => by
        have hl3 := hk3.same _ _ (by omega) hl2 rfl
        have := run_endRound (P := Tryd.prog) jump hl3
        rw [hrec] at this ⊢
        exact ⟨this, by rw [hrec] at hl3; exact hl3, World.putObj_heap_same (Array.getElem?_eq_some_iff.1 hl3).1, (World.putObj_heap_other (by omega)).trans (hk3.same _ _ (Nat.le_refl _) hk2 rfl)⟩
      rintro e a3 W3 hp
      cases e with
      | normal =>
        obtain ⟨hk3, hi3⟩ := hp
        obtain ⟨hr, hl3, hl4, hk4⟩ := fin none W3 hk3
        exact ⟨_, _, hr, .inl ⟨rfl, hIp _ _ _ _ _ (by omega) hl3 rfl hi3, hl4, hk4⟩⟩
      | ret =>
        obtain ⟨hk3, hi3⟩ := hp
        obtain ⟨hr, hl3, hl4, hk4⟩ := fin (some .ret) W3 hk3
        exact ⟨_, _, hr, .inr ⟨rfl, .ret, hIxp _ _ _ _ _ _ (by omega) hl3 rfl hi3, hl4, hk4⟩⟩
      | exit id =>
        obtain ⟨hk3, hi3⟩ := hp
        obtain ⟨hr, hl3, hl4, hk4⟩ := fin (some (.exit id)) W3 hk3
        exact ⟨_, _, hr, .inr ⟨rfl, .exit id, hIxp _ _ _ _ _ _ (by omega) hl3 rfl hi3, hl4, hk4⟩⟩
      | _ => exact hp.elim
    · rintro e W2 ⟨⟨v, rfl⟩, (⟨hi, hl, hk⟩ | ⟨r, hr, c, hi, hl, hk⟩)⟩
      · exact ⟨none, _, by have := run_endLoop (P := Tryd.prog) hl (by rw [hrec]; simp); rw [hrec] at this; exact this, hdone _ _ (Nat.le_refl _) (hIp _ _ _ _ _ (by omega) hl rfl hi) ((World.putObj_heap_other (by omega)).trans hk)⟩
      · exact ⟨some c, _, by have := run_endLoop (P := Tryd.prog) hl (by rw [hrec]; simp); rw [hrec] at this; exact this, hstop _ c r _ (Nat.le_refl _) hr (hIxp _ _ _ _ _ _ (by omega) hl rfl hi) ((World.putObj_heap_other (by omega)).trans hk)⟩
end Go.Proofs.YtiojbmcjcefdkaaDoor


/- Masks: MaskKeeps. -/
namespace Go.Proofs.YtiojbmcjcefdkaaDoor
open Go.RowKit Go.Tk Go.Shelf
/-- Members: a new list -/
theorem members2_any (s : Nat) (hs : s < 18446744073709551616) (w : World) (h0 : 0 < w.heap.size) (hT : Tab64 w) : Calls Tryd.prog 11 #[.int .u64 s] w fun e w' => ∃ A C, e = .returned (.slice A (memI s 64).length C) ∧ NewL w (memI s 64) A C w' := by
  refine (callsIn_wide.1 (members_in s hs w h0 hT)).mono ?_
  rintro e w' ⟨v, rfl, hr, hb⟩
  have hml : (memI s 64).length = (mems s 64).length := by unfold memI; rw [List.length_map]
  have hsh : ∃ A C, v = .slice A (mems s 64).length C := by
    rcases hr.2 with ⟨rfl, h⟩ | ⟨g, cap, cur, rfl, _⟩
    · exact ⟨none, 0, by rw [h]⟩
    · exact ⟨_, _, rfl⟩
  obtain ⟨A, C, rfl⟩ := hsh
  have e1 : (memI s 64).flatMap icell = (mems s 64).map memC := by
    unfold memI
    rw [List.flatMap_map]
    induction mems s 64 with
    | nil => rfl
    | cons x l ih => simp only [List.flatMap_cons, List.map_cons, ih]; rfl
  refine ⟨A, C, by rw [hml], ⟨?_, ?_⟩, ?_, Frm.of_below hb _⟩
  · exact rfl
  · rw [e1, hml]
    rcases hr with ⟨h1, h2⟩
    refine ⟨h1, ?_⟩
    rcases h2 with h2 | ⟨g, cap, cur, h3, _, h4⟩
    · exact .inl h2
    · exact .inr ⟨g, cap, cur, h3, Nat.zero_le _, h4⟩
  · rcases hr.2 with ⟨h, _⟩ | ⟨g, cap, cur, h3, h5, _⟩
    · injection h with h
      subst h
      exact fresh_none _
    · injection h3 with h3
      subst h3
      exact fresh_some h5
theorem OwnI.cellAt {w : World} {e : TypeId} {sb N C : Nat} {xs : List Int} (h : OwnI w e (some ⟨sb, 0, none⟩) N C xs) {i : Nat} {x : Int} (hi : xs[i]? = some x) : w.cell? ⟨sb, i, none⟩ = some (.int .i64 x) := by
  obtain ⟨b, off, h1, _, h3⟩ := (Own.il h).at1 hi
  injection h1 with h1
  injection h1 with h1 h2
  subst h1 h2
  rw [Nat.zero_add] at h3
  exact h3
end Go.Proofs.YtiojbmcjcefdkaaDoor


/- Masks: MaskWalks. -/
namespace Go.Proofs.YtiojbmcjcefdkaaDoor
open Go.RowKit Go.Tk Go.Shelf
theorem fnd_spec (i : Int) : ∀ (l : List Int), l.Pairwise (· < ·) → (fnd i l = -1 ∧ ∀ x ∈ l, ¬ i < x) ∨ (fnd i l ∈ l ∧ i < fnd i l ∧ ∀ x ∈ l, i < x → fnd i l ≤ x)
  | [], _ => .inl ⟨rfl, fun x hx => by cases hx⟩
  | y :: l, hp => by
    obtain ⟨h1, h2⟩ := List.pairwise_cons.1 hp
    by_cases hy : i < y
    · have hf : fnd i (y :: l) = y := by unfold fnd; rw [List.find?_cons_of_pos (by simpa using hy)]; rfl
      rw [hf]
      refine .inr ⟨List.mem_cons_self .., hy, fun x hx _ => ?_⟩
      rcases List.mem_cons.1 hx with rfl | hx
      · exact Int.le_refl _
      · exact Int.le_of_lt (h1 x hx)
    · have hf : fnd i (y :: l) = fnd i l := by unfold fnd; rw [List.find?_cons_of_neg (by simpa using hy)]
      rw [hf]
      rcases fnd_spec i l h2 with ⟨h3, h4⟩ | ⟨h3, h4, h5⟩
      · exact .inl ⟨h3, fun x hx => by rcases List.mem_cons.1 hx with rfl | hx; exact hy; exact h4 x hx⟩
      · exact .inr ⟨List.mem_cons_of_mem _ h3, h4, fun x hx hi => by rcases List.mem_cons.1 hx with rfl | hx; exact absurd hi hy; exact h5 x hx hi⟩
theorem memI_sorted (s n : Nat) : (memI s n).Pairwise (· < ·) := by
  unfold memI mems
  rw [List.pairwise_map]
  refine (List.Pairwise.filter _ List.pairwise_lt_range).imp fun h => by omega
theorem has_mem (s : Nat) (j : Int) : hasB s j = true ↔ j ∈ memI s 64 := by
  unfold hasB memI mems
  simp only [Bool.and_eq_true, decide_eq_true_eq, List.mem_map, List.mem_filter, List.mem_range]
  constructor
  · rintro ⟨⟨h1, h2⟩, h3⟩
    exact ⟨j.toNat, ⟨by omega, h3⟩, by omega⟩
  · rintro ⟨a, ⟨h1, h2⟩, rfl⟩
    exact ⟨by omega, by simpa using h2⟩
theorem memI_in {s : Nat} {x : Int} (h : x ∈ memI s 64) : 0 ≤ x ∧ x < 64 := by
  unfold memI at h
  obtain ⟨y, hy, rfl⟩ := List.mem_map.1 h
  have := mems_bound hy
  omega
theorem find_cg {p q : Int → Bool} : ∀ {l : List Int}, (∀ x ∈ l, p x = q x) → l.find? p = l.find? q
  | [], _ => rfl
  | x :: l, h => by
    rw [List.find?_cons, List.find?_cons, h x (List.mem_cons_self ..), find_cg (fun y hy => h y (List.mem_cons_of_mem _ hy))]
theorem fnd_low (s : Nat) (i : Int) : fnd i (memI s 64) = fnd (max i (-1)) (memI s 64) := by
  unfold fnd
  congr 1
  refine find_cg fun x hx => ?_
  have := memI_in hx
  rw [decide_eq_decide]
  omega
theorem of_memI {s : Nat} (hs : s < 18446744073709551616) : ofV (memI s 64) = s ∧ ofE1 (memI s 64) = 0 := by
  have hin : inR (memI s 64) = true := by
    unfold inR
    rw [List.all_eq_true]
    intro x hx
    have := memI_in hx
    simp
    omega
  unfold ofV ofE1
  rw [hin]
  refine ⟨?_, rfl⟩
  show setOf _ = s
  refine Nat.eq_of_testBit_eq fun k => ?_
  rw [setOf_bit _ hin]
  cases hb : s.testBit k with
  | true =>
    rw [decide_eq_true_eq]
    refine (has_mem s k).1 ?_
    have h1 : k < 64 := Nat.lt_of_not_le fun hge => by
      have h2 := Nat.testBit_lt_two_pow (Nat.lt_of_lt_of_le (show s < 2 ^ 64 from hs) (Nat.pow_le_pow_right (by omega) hge))
      rw [hb] at h2
      cases h2
    unfold hasB
    simp
    exact ⟨by omega, hb⟩
  | false =>
    rw [decide_eq_false_iff_not]
    intro h
    have h1 := (has_mem s k).2 h
    unfold hasB at h1
    simp at h1
    rw [hb] at h1
    exact absurd h1.2 (by decide)
end Go.Proofs.YtiojbmcjcefdkaaDoor


/- WholeSets: plain: the members, one behind the other. -/
namespace Go.Proofs.YtiojbmcjcefdkaaDoor
open Go.RowKit Go.Tk Go.Shelf

/-- the first above the one at a place is the one at the next place -/
theorem fnd_next {l : List Int} (hp : l.Pairwise (· < ·)) {j : Nat} {x : Int} (hx : l[j]? = some x) {p : Int} (hpre : j = 0 ∧ (∀ y ∈ l, p < y) ∨ ∃ i, j = i + 1 ∧ l[i]? = some p) : fnd p l = x := by
  have hj : j < l.length := (List.getElem?_eq_some_iff.1 hx).1
  have hord : ∀ a b : Nat, ∀ u v : Int, l[a]? = some u → l[b]? = some v → a < b → u < v := fun a b u v h1 h2 hab => by
    obtain ⟨ha, rfl⟩ := List.getElem?_eq_some_iff.1 h1
    obtain ⟨hb, rfl⟩ := List.getElem?_eq_some_iff.1 h2
    exact (List.pairwise_iff_getElem.1 hp) a b ha hb hab
  refine fnd_at hx (fun y hy => ?_) ?_
  · obtain ⟨b, hb⟩ := List.getElem?_of_mem hy
    rw [List.getElem?_take] at hb
    split at hb
    · rename_i hbj
      rcases hpre with ⟨rfl, _⟩ | ⟨i, rfl, hi⟩
      · omega
      · rcases Nat.lt_or_ge b i with h | h
        · have := hord b i y p hb hi h
          omega
        · obtain rfl : b = i := by omega
          rw [hi] at hb
          have := Option.some.inj hb
          omega
    · cases hb
  · rcases hpre with ⟨rfl, h⟩ | ⟨i, rfl, hi⟩
    · exact h x (List.mem_of_getElem? hx)
    · exact hord i (i + 1) p x hi hx (by omega)
theorem fnd_last {l : List Int} (hp : l.Pairwise (· < ·)) {p : Int} (hl : l = [] ∨ ∃ i, l.length = i + 1 ∧ l[i]? = some p) : fnd p l = -1 := by
  refine fnd_none fun y hy => ?_
  rcases hl with rfl | ⟨i, hli, hi⟩
  · cases hy
  · obtain ⟨b, hb⟩ := List.getElem?_of_mem hy
    have hbl := (List.getElem?_eq_some_iff.1 hb).1
    rcases Nat.lt_or_ge b i with h | h
    · obtain ⟨ha, rfl⟩ := List.getElem?_eq_some_iff.1 hb
      obtain ⟨hc, rfl⟩ := List.getElem?_eq_some_iff.1 hi
      have := (List.pairwise_iff_getElem.1 hp) b i ha hc h
      omega
    · obtain rfl : b = i := by omega
      rw [hi] at hb
      have := Option.some.inj hb
      omega
end Go.Proofs.YtiojbmcjcefdkaaDoor


/- WholeSets: the walk. -/
namespace Go.Proofs.YtiojbmcjcefdkaaDoor
open Go.RowKit Go.Tk Go.Shelf

attribute [local go_sem] Oper.semAt_some

theorem cut_region {F : Fence} {d : Nat} {P : Program} {c : Code} {Q : Exit → Act → World → Prop} {K : Act → World → Prop} {a : Act} {w : World} (S : World → Prop) (A : Act)
    (h1 : ∀ Kc : Act → World → Prop, (∀ w', S w' → Kc A w') → c.wpIn F d P (Exit.then Kc Q) a w) (h2 : ∀ w', S w' → K A w') : c.wpIn F d P (Exit.then K Q) a w := h1 K h2
theorem chw_in {N K : Nat} (hN : N ≤ 64) (hK : K ≤ 64) : chV N K = chs N K ∧ chE N K = 0 := by
  have h3 : ¬ ((N : Int) < 0 ∨ (64 : Int) < N ∨ (K : Int) < 0 ∨ 64 < (K : Int)) := by omega
  unfold chV chE
  rw [if_neg h3, if_neg h3, Int.toNat_natCast, Int.toNat_natCast]
  exact ⟨rfl, rfl⟩
structure WsI (w : World) (p g N K M r : Nat) (W : World) : Prop where
  b : Below w.heap.size w W
  x1 : Boxed W w.heap.size 4 (.bool false)
  x2 : Boxed W (w.heap.size + 1) 3 (.int .i64 N)
  x3 : Boxed W (w.heap.size + 1 + 1) 3 (.int .i64 K)
  x4 : Boxed W p 22 (.int .u64 M)
  x5 : Boxed W g 22 (.int .u64 r)
  x6 : Boxed W (g + 1) 22 (.int .u64 ((if r = 0 then 0 else unS N K (r - 1) : Nat) : Int))
theorem ws_res {tmps : Array Value} {w : World} {b : Nat} {v : Value} (ht : tmps.getD 6 undef = .pointer (some ⟨b, 0, none⟩)) (hc : w.cell? ⟨b, 0, none⟩ = some v) : (results Tryd.f3 tmps).run Tryd.prog w = .ok v w := by
  simp only [results, show Tryd.f3.results = #[.cell 6 4] from rfl]
  have ht' : tmps[6]?.getD undef = .pointer (some ⟨b, 0, none⟩) := by simpa using ht
  simp [ht', asAddr]
  go_simp
set_option maxRecDepth 100000 in
set_option maxHeartbeats 4000000 in
theorem wsets_in (a b s : Nat) (ha : a < 256) (hb : b < 256) (hs : s < 18446744073709551616) (w : World) (h0 : 0 < w.heap.size) (hT : Tab64 w) :
    CallsIn Fence.wide 6 Tryd.prog 3 #[.int .u8 a, .int .u8 b, .int .u64 s] w fun e w' => e = .returned (.bool true) ∧ Below w.heap.size w w' := by
  obtain ⟨a14, ha14⟩ : ∃ z, z = a % 14 := ⟨_, rfl⟩
  have hal : a14 < 14 := by rw [ha14]; exact Nat.mod_lt _ (by omega)
  have r1 : Int.tmod (a : Int) 14 = (a14 : Int) := by rw [ha14]; exact (Int.ofNat_tmod a 14).symm
  clear ha14
  have R1 := Lib.hid r1
  clear r1
  obtain ⟨N, hN⟩ : ∃ z, z = 1 + a14 := ⟨_, rfl⟩
  have hN64 : N ≤ 14 := by omega
  obtain ⟨N1, hN1⟩ : ∃ z, z = N + 1 := ⟨_, rfl⟩
  have r2 : (1 : Int) + (a14 : Int) = (N : Int) := by omega
  have r4 : ¬ ((N1 : Int) = 0) := by omega
  have r5 : wrap64 ((1 : Int) + (a14 : Int)) = (N : Int) := by rw [r2]; unfold wrap64; omega
  have r7 : (N : Int) + 1 = (N1 : Int) := by omega
  have r6 : wrap64 ((N : Int) + 1) = (N1 : Int) := by rw [r7]; unfold wrap64; omega
  obtain ⟨K, hK⟩ : ∃ z, z = b % N1 := ⟨_, rfl⟩
  have hKN : K ≤ N := by
    have h1 := Nat.mod_lt b (show N1 > 0 by rw [hN1]; exact Nat.succ_pos N)
    rw [← hK, hN1] at h1
    exact Nat.lt_succ_iff.1 h1
  have R3 := Lib.hid (show Int.tmod (b : Int) (N1 : Int) = (K : Int) by rw [hK]; exact (Int.ofNat_tmod b N1).symm)
  clear hK hN hN1
  obtain ⟨W0, hW0⟩ : ∃ W0, W0 = ((w.alloc (.cells #[.bool false] 4)).alloc (.cells #[.int .i64 N] 3)).alloc (.cells #[.int .i64 K] 3) := ⟨_, rfl⟩
  have hsz0 : W0.heap.size = w.heap.size + 3 := by rw [hW0]; simp
  have hb0 : Below w.heap.size w W0 := by rw [hW0]; exact (((Below.refl _ w).alloc (Nat.le_refl _) _).alloc (by simp) _).alloc (by simp <;> omega) _
  have hx1 : Boxed W0 w.heap.size 4 (.bool false) := by rw [hW0]; exact ((Boxed.new w _ _).alloc _).alloc _
  have hx2 : Boxed W0 (w.heap.size + 1) 3 (.int .i64 N) := by
    rw [hW0]
    have := (Boxed.new (w.alloc (.cells #[.bool false] 4)) 3 (.int .i64 N)).alloc (.cells #[.int .i64 K] 3)
    simpa using this
  have hx3 : Boxed W0 (w.heap.size + 1 + 1) 3 (.int .i64 K) := by
    rw [hW0]
    have := Boxed.new ((w.alloc (.cells #[.bool false] 4)).alloc (.cells #[.int .i64 N] 3)) 3 (.int .i64 K)
    simpa using this
  have HX1 := Lib.hid (fun w' (hs : Same W0 w') => boxed_same hx1 (hs.block _ hx1.lt (fun h => h)))
  have HX2 := Lib.hid (fun w' (hs : Same W0 w') => boxed_same hx2 (hs.block _ hx2.lt (fun h => h)))
  have HX3 := Lib.hid (fun w' (hs : Same W0 w') => boxed_same hx3 (hs.block _ hx3.lt (fun h => h)))
  have c2 := hx2.cell
  have c3 := hx3.cell
  have C1 := Lib.hid (fun w => callsIn_wide (n := 5).2 (chooseA_any N K w))
  rw [(chw_in (by omega) (by omega)).1, (chw_in (by omega) (by omega)).2] at C1
  have C2 := Lib.hid (fun w => callsIn_wide (n := 5).2 (chooseA_any 5 2 w))
  rw [show chV 5 2 = 10 by decide, show chE 5 2 = 0 by decide] at C2
  have HB0 := Lib.hid hb0
  have HSZ := Lib.hid hsz0
  have hcu : chs N K < 18446744073709551616 := chs_u64 (by omega)
  obtain ⟨M, hM⟩ : ∃ z, z = chs N K := ⟨_, rfl⟩
  rw [← hM] at C1 hcu
  have HM := Lib.hid hM
  clear hb0 hsz0 hx1 hx2 hx3 hM
  refine callsIn_of_wp_marks Tryd.func3 rfl trivial ?_ rfl
  simp only [Tryd.ntmps3, List.size_toArray, List.length_cons, List.length_nil, Nat.reduceAdd, Nat.reduceSub, Array.replicate_succ, Array.replicate_zero, List.push_toArray, List.append_toArray, List.nil_append, List.cons_append]
  rw [hW0] at c2 c3
  have r1 := R1.out
  have r3 := R3.out
  gi_wp2_with (fail)
  refine ⟨trivial, ?_⟩
  rw [← hW0]
  clear r1 r3 c2 c3 R1 R3 r2 r4 r5 r6 r7
  refine (C1.out W0).mono ?_
  rintro e wa ⟨rfl, hsa⟩
  have x1 := (HX1.out _ hsa).alloc (.cells #[.int .u64 M] 22)
  have x2 := (HX2.out _ hsa).alloc (.cells #[.int .u64 M] 22)
  have x3 := (HX3.out _ hsa).alloc (.cells #[.int .u64 M] 22)
  have x4 := Boxed.new wa 22 (.int .u64 M)
  have hwa : w.heap.size + 1 + 1 + 1 ≤ wa.heap.size := by have := hsa.size; rw [HSZ.out] at this; exact this
  have HBA := Lib.hid ((HB0.out.trans (hsa.to_below (by rw [HSZ.out]; exact Nat.le_add_right _ _) (fun _ _ h => h))).alloc (by have := hsa.size; rw [HSZ.out] at this; exact Nat.le_trans (Nat.le_add_right _ _) this) (.cells #[.int .u64 M] 22))
  have c4 := x4.cell
  gi_wp2_with (fail)
  refine ⟨trivial, ?_⟩
  refine (C2.out _).mono ?_
  rintro e wb ⟨rfl, hsb⟩
  have y1 := ((boxed_same x1 (hsb.block _ x1.lt (fun h => h))).alloc (.cells #[.int .u64 0] 22)).alloc (.cells #[.int .u64 0] 22)
  have y2 := ((boxed_same x2 (hsb.block _ x2.lt (fun h => h))).alloc (.cells #[.int .u64 0] 22)).alloc (.cells #[.int .u64 0] 22)
  have y3 := ((boxed_same x3 (hsb.block _ x3.lt (fun h => h))).alloc (.cells #[.int .u64 0] 22)).alloc (.cells #[.int .u64 0] 22)
  have y4 := ((boxed_same x4 (hsb.block _ x4.lt (fun h => h))).alloc (.cells #[.int .u64 0] 22)).alloc (.cells #[.int .u64 0] 22)
  have y5 := (Boxed.new wb 22 (.int .u64 0)).alloc (.cells #[.int .u64 0] 22)
  have y6 := Boxed.new (wb.alloc (.cells #[.int .u64 0] 22)) 22 (.int .u64 0)
  rw [World.size_alloc] at y6
  have hwb : wa.heap.size + 1 ≤ wb.heap.size := by have := hsb.size; rw [World.size_alloc] at this; exact this
  have HBB := Lib.hid (HBA.out.trans (hsb.to_below (by rw [World.size_alloc]; omega) (fun _ _ h => h)))
  have HBC := Lib.hid ((HBB.out.alloc HBB.out.size (.cells #[.int .u64 0] 22)).alloc (by have := HBB.out.size; rw [World.size_alloc]; omega) (.cells #[.int .u64 0] 22))
  have hszc : ((wb.alloc (.cells #[.int .u64 0] 22)).alloc (.cells #[.int .u64 0] 22)).heap.size = wb.heap.size + 1 + 1 := by simp
  have c2 := y2.cell
  have c3 := y3.cell
  have CS := Lib.hid (fun w => callsIn_wide (n := 5).2 (subsets_any N K w))
  have hwab : w.heap.size + 1 + 1 < wa.heap.size ∧ wa.heap.size < wb.heap.size := ⟨hwa, hwb⟩
  have HWAB := Lib.hid hwab
  clear hsa hsb x1 x2 x3 x4 c4 HBA HBB C1 C2 HX1 HX2 HX3 hwa hwb hwab
  gi_wp2_with (fail)
  obtain ⟨we, hwe⟩ : ∃ z, z = (wb.alloc (.cells #[.int .u64 0] 22)).alloc (.cells #[.int .u64 0] 22) := ⟨_, rfl⟩
  rw [← hwe] at y1 y2 y3 y4 y5 y6 HBC c2 c3 hszc ⊢
  refine ⟨trivial, ?_⟩
  refine (CS.out _).mono ?_
  rintro e wf ⟨rfl, hwf⟩
  rw [hszc]
  have z1 := (y1.alloc (.cells #[.int .i64 N] 3)).alloc (.cells #[.int .i64 K] 3)
  have z2 := (y2.alloc (.cells #[.int .i64 N] 3)).alloc (.cells #[.int .i64 K] 3)
  have z3 := (y3.alloc (.cells #[.int .i64 N] 3)).alloc (.cells #[.int .i64 K] 3)
  have z4 := (y4.alloc (.cells #[.int .i64 N] 3)).alloc (.cells #[.int .i64 K] 3)
  have z5 := (y5.alloc (.cells #[.int .i64 N] 3)).alloc (.cells #[.int .i64 K] 3)
  have z6 := (y6.alloc (.cells #[.int .i64 N] 3)).alloc (.cells #[.int .i64 K] 3)
  have z7 := (Boxed.new we 3 (.int .i64 N)).alloc (.cells #[.int .i64 K] 3)
  have z8 := Boxed.new (we.alloc (.cells #[.int .i64 N] 3)) 3 (.int .i64 K)
  have z9 := (HBC.out.alloc HBC.out.size (.cells #[.int .i64 N] 3)).alloc (by have := HBC.out.size; rw [World.size_alloc]; omega) (.cells #[.int .i64 K] 3)
  rw [World.size_alloc, hszc] at z8
  rw [hszc] at z7
  have hsf : wf.heap.size = wb.heap.size + 1 + 1 + 1 + 1 := by rw [hwf]; simp [hszc]
  rw [← hwf] at z1 z2 z3 z4 z5 z6 z7 z8 z9
  have Z0 := Lib.hid (show WsI w wa.heap.size wb.heap.size N K M 0 wf from ⟨z9, z1, z2, z3, z4, z5, z6⟩)
  have Z7 := Lib.hid z7
  have Z8 := Lib.hid z8
  have HSF := Lib.hid hsf
  clear y1 y2 y3 y4 y5 y6 z1 z2 z3 z4 z5 z6 z7 z8 z9 hszc hwe hwf c2 c3 HBC CS hsf
  gi_wp2_with (fail)
  obtain ⟨q1, q2⟩ := HWAB.out
  have q3 := HSF.out
  apply range_subs (d := 6) (b1 := wb.heap.size + 1 + 1) (b2 := wb.heap.size + 1 + 1 + 1) (n := N) (k := K) (by omega) rfl Z7.out Z8.out (WsI w wa.heap.size wb.heap.size N K M) (fun _ _ _ => False)
  case hassign =>
    intro l r W K' hK
    simp only [List.setIfInBounds_toArray, List.set_cons_succ, List.set_cons_zero]
    gi_wp2
    exact hK
  case hId => exact fun r W h => ⟨h.b.drew, h.x1, h.x2, h.x3, h.x4, h.x5, h.x6⟩
  case hIa => exact fun r W o _ h => ⟨h.b.alloc h.b.size o, h.x1.alloc o, h.x2.alloc o, h.x3.alloc o, h.x4.alloc o, h.x5.alloc o, h.x6.alloc o⟩
  case hIp => exact fun r W l o o' hl _ _ h => ⟨below_putObj h.b (by omega) o, boxed_putObj h.x1 (by omega) o, boxed_putObj h.x2 (by omega) o, boxed_putObj h.x3 (by omega) o, boxed_putObj h.x4 (by omega) o, boxed_putObj h.x5 (by omega) o, boxed_putObj h.x6 (by omega) o⟩
  case hIxp => exact fun _ _ _ _ _ _ _ _ _ h => h
  case h0 => exact Z0.out
  case hstop => exact fun _ _ _ _ _ _ h _ => h.elim
  case hdone =>
    intro D W hD h hK
    have hm : subM N K = M := by unfold subM; rw [if_pos ⟨by omega, by omega, by omega, by omega⟩, Int.toNat_natCast, Int.toNat_natCast, HM.out]
    rw [hm] at h
    have c4 := h.x4.cell
    have c5 := h.x5.cell
    have HH := Lib.hid h
    have HTW := Lib.hid (tab64_below h.b h0 hT)
    have HPW := Lib.hid (Nat.lt_of_lt_of_le h0 h.b.size)
    have CM := Lib.hid (fun w h0 hT => callsIn_wide (n := 5).2 (members2_any s hs w h0 hT))
    have CN := Lib.hid (fun w => callsIn_wide (n := 5).2 (count_any s w hs))
    have CX := Lib.hid (fun (j : Int) h1 h2 w hT => callsIn_wide (n := 5).2 (next_any s j hs h1 h2 w hT))
    clear h hm
    simp only [Exit.inBlock, Exit.then]
    gi_wp2_with (fail)
    refine ⟨trivial, ?_⟩
    refine (CM.out W HPW.out HTW.out).mono ?_
    rintro e w1 ⟨Am, Cm, rfl, hO, hF, hsm⟩
    have hml : (mems s 64).length = (memI s 64).length := by unfold memI; rw [List.length_map]
    rw [hml] at CN
    have COF := Lib.hid (callsIn_wide (n := 5).2 (of1_any Am (memI s 64).length Cm (memI s 64) w1 (Own.il hO) (Nat.le_trans (memI_le s 64) (by decide))))
    rw [(of_memI hs).1, (of_memI hs).2] at COF
    obtain ⟨L, hL⟩ : ∃ z, z = (memI s 64).length := ⟨_, rfl⟩
    rw [← hL] at CN COF ⊢
    have HLL := Lib.hid hL
    have HS1 := Lib.hid hsm
    have HO1 := Lib.hid hO
    clear hO hF hsm hml hL CM
    gi_wp2_with (fail)
    refine ⟨trivial, ?_⟩
    refine COF.out.mono ?_
    rintro e w2 ⟨rfl, hs2⟩
    have HS2 := Lib.hid (HS1.out.trans hs2 (fun _ _ h => h))
    have HS12 := Lib.hid hs2
    clear hs2 COF
    gi_wp2_with (fail)
    refine ⟨trivial, ?_⟩
    refine (CN.out _).mono ?_
    rintro e w3 ⟨rfl, rfl⟩
    gi_wp2_with (fail)
    have hsrt := memI_sorted s 64
    have hle := memI_le s 64
    have HIN := Lib.hid (fun x (h : x ∈ memI s 64) => memI_in h)
    have CY := Lib.hid (fun (j : Int) h1 h2 w hT => by have := CX.out j h1 h2 w hT; rw [next_doc s hs j] at this; exact this)
    obtain ⟨ms, hms⟩ : ∃ z, z = memI s 64 := ⟨_, rfl⟩
    rw [← hms] at hsrt hle HIN CY HO1 HLL
    have hL64 : L ≤ 64 := by rw [HLL.out]; exact hle
    have HSRT := Lib.hid hsrt
    clear hms hsrt hle CX CN
    gi_loopw [21, 22] (fun p j wr => ∃ (k : Nat) (q : Int), j = .int .i64 k ∧ p = .int .i64 q ∧ k ≤ L ∧ ((k = 0 ∧ q = -1) ∨ ∃ i, k = i + 1 ∧ ms[i]? = some q) ∧ Same W wr ∧ OwnI wr 3 Am L Cm ms) (fun _ j _ => 65 - (intOf j).toNat)
    case atStart => exact ⟨0, -1, rfl, rfl, Nat.zero_le _, .inl ⟨rfl, rfl⟩, HS2.out, by rw [HLL.out]; exact Own.frm HO1.out HS12.out (fun _ _ => id)⟩
    case round =>
      clear HS2 HS12 HO1 HS1
      obtain ⟨k, q, rfl, rfl, hk, hq, hsr, ho⟩ := hrel
      have HSR := Lib.hid hsr
      have HO := Lib.hid ho
      have hqb : -1 ≤ q ∧ q ≤ 63 := by
        rcases hq with ⟨_, rfl⟩ | ⟨i, _, hi⟩
        · omega
        · have := HIN.out q (List.mem_of_getElem? hi)
          omega
      have CQ := Lib.hid (CY.out q (by omega) (by omega) wr (tab64_same HPW.out hsr HTW.out))
      by_cases hlk : k < L
      · obtain ⟨x, hx⟩ : ∃ x, ms[k]? = some x := ⟨_, List.getElem?_eq_getElem (by rw [← HLL.out]; exact hlk)⟩
        have hfn : fnd q ms = x := fnd_next HSRT.out hx (by
          rcases hq with ⟨h1, rfl⟩ | h1
          · exact .inl ⟨h1, fun y hy => by have := HIN.out y hy; omega⟩
          · exact .inr h1)
        rw [hfn] at CQ
        obtain ⟨b', o', rfl, hb', hc'⟩ := (Own.il ho).at1 hx
        have hk0 : (0 : Int) ≤ k := by omega
        have hk1 : (k : Int) < L := by omega
        have HX := Lib.hid hx
        clear hq hqb hsr ho hx hfn
        gi_wp2_with (fail)
        refine ⟨trivial, ?_⟩
        refine CQ.out.mono ?_
        rintro e w4 ⟨rfl, rfl⟩
        gi_wp2
        go_roundw
        case rel => exact ⟨k + 1, x, by go_num, rfl, hlk, .inr ⟨k, rfl, HX.out⟩, HSR.out, HO.out⟩
        case measure => simp [intOf] <;> omega
      · obtain rfl : k = L := by omega
        have hfn : fnd q ms = -1 := fnd_last HSRT.out (by
          rcases hq with ⟨h1, rfl⟩ | ⟨i, h1, h2⟩
          · exact .inl (List.length_eq_zero_iff.1 (by rw [← HLL.out, h1]))
          · exact .inr ⟨i, by rw [← HLL.out, h1], h2⟩)
        rw [hfn] at CQ
        have x1 := boxed_same HH.out.x1 (hsr.block _ HH.out.x1.lt (fun h => h))
        have c1 := x1.cell
        have f1 := x1.frozen
        have HX1 := Lib.hid x1
        have HK := Lib.hid ((hsr.block D (Array.getElem?_eq_some_iff.1 hK).1 (fun h => h)).trans hK)
        clear hq hqb ho hfn hsr x1
        gi_wp2_with (fail)
        refine ⟨trivial, ?_⟩
        refine CQ.out.mono ?_
        rintro e w4 ⟨rfl, rfl⟩
        gi_wp2
        have hK2 := (KeepsOthers.setCell w4 ⟨w.heap.size, 0, none⟩ (.bool true)).same D _ HK.out rfl
        refine ⟨by simp, .inl ⟨_, _, rfl, run_takeDeferred hK2, ?_⟩⟩
        exact ⟨_, ws_res rfl (boxed_putObj (HX1.out.set (.bool true)) (by omega) _).cell, rfl, below_putObj ((HH.out.b.trans (HSR.out.to_below HH.out.b.size (fun _ _ h => h))).setCell (p := ⟨w.heap.size, 0, none⟩) (Nat.le_refl _) _) (by omega) _⟩
  case hbody =>
    intro l r W hr h hW
    have hm : subM N K = chs N K := by unfold subM; rw [if_pos ⟨by omega, by omega, by omega, by omega⟩, Int.toNat_natCast, Int.toNat_natCast]
    rw [hm] at hr
    have hS : subS N K r = unS N K r := by unfold subS; rw [Int.toNat_natCast, Int.toNat_natCast]
    rw [hS]
    have hN6 : N ≤ 64 := by omega
    obtain ⟨k1, k2⟩ := sub_rk (n := N) (k := K) (r := r) hN6 hr
    have hsu : unS N K r < 18446744073709551616 := sub_u64 hN6
    have hr64 : r < chs 64 K := Nat.lt_of_lt_of_le hr (chs_mono2 hN6)
    have hun : unS 64 K r = unS N K r := (sub_eq (n := 64) (Nat.le_refl _) hr64 hsu k1 k2).symm
    have hru : r < 18446744073709551616 := Nat.lt_trans hr64 (chs_u64 (Nat.le_refl _))
    have hno : ¬ ((K : Int) < 0 ∨ 64 < (K : Int) ∨ chs 64 (K : Int).toNat ≤ r) := by rw [Int.toNat_natCast]; omega
    have CU := Lib.hid (fun w => callsIn_wide (n := 3).2 (unrank_any (K : Int) r hru w))
    rw [show unV (K : Int) r = unS N K r by unfold unV; rw [if_neg hno, Int.toNat_natCast, hun], show unE (K : Int) r = 0 by unfold unE; rw [if_neg hno]] at CU
    have hand := u64_andNot_nat (unS N K r) (belN N) hsu (belN_lt _)
    have hz : unS N K r &&& (18446744073709551615 - belN N) = 0 := by
      have hlt : belN N < 2 ^ 64 := belN_lt _
      have e : 18446744073709551615 - belN N = 2 ^ 64 - (belN N + 1) := by
        have : (2 : Nat) ^ 64 = 18446744073709551616 := by decide
        omega
      refine Nat.eq_of_testBit_eq fun i => ?_
      rw [Nat.testBit_and, e, Nat.testBit_two_pow_sub_succ hlt, Nat.zero_testBit]
      by_cases hi : i < N
      · rw [bel_bit _ i (by omega), decide_eq_true (show (i : Int) < N by omega)]; simp
      · rw [Nat.testBit_lt_two_pow (Nat.lt_of_lt_of_le (unS_lt N K r) (Nat.pow_le_pow_right (by omega) (by omega)))]; simp
    rw [hz] at hand
    have CN := Lib.hid (fun w => callsIn_wide (n := 3).2 (count_any (unS N K r) w hsu))
    rw [k1] at CN
    have CB := Lib.hid (fun w => callsIn_wide (n := 3).2 (below_any N w))
    have CR := Lib.hid (fun w h0 hT => callsIn_wide (n := 3).2 (rank_any (unS N K r) hsu w h0 hT))
    rw [k2] at CR
    have HTW := Lib.hid (tab64_below h.b h0 hT)
    have HPW := Lib.hid (Nat.lt_of_lt_of_le h0 h.b.size)
    have HH := Lib.hid h
    have HHR := Lib.hid hr
    have c3 := h.x3.cell
    have c5 := h.x5.cell
    obtain ⟨bl, hbl⟩ : ∃ z, z = belN N := ⟨_, rfl⟩
    rw [← hbl] at hand CB
    obtain ⟨sv, hsv⟩ : ∃ z, z = unS N K r := ⟨_, rfl⟩
    rw [← hsv] at hand CU CN CR ⊢
    have HSV := Lib.hid hsv
    have XX := Lib.hid (fun w' (hs : Same W w') => (⟨(boxed_same h.x2 (hs.block _ h.x2.lt (fun h => h))).cell, (boxed_same h.x3 (hs.block _ h.x3.lt (fun h => h))).cell, (boxed_same h.x5 (hs.block _ h.x5.lt (fun h => h))).cell⟩ : w'.cell? ⟨w.heap.size + 1, 0, none⟩ = some (.int .i64 N) ∧ w'.cell? ⟨w.heap.size + 1 + 1, 0, none⟩ = some (.int .i64 K) ∧ w'.cell? ⟨wb.heap.size, 0, none⟩ = some (.int .u64 r)))
    clear hm hr hS k1 k2 hz hsv hbl h hun hno hr64 hru hsu
    simp only [Nat.reduceSub]
    have hmix : Tryd.prog.follows .mixedOrders = true := by kernel_rfl
    gi_wp2_with (fail)
    refine ⟨trivial, ?_⟩
    refine (CU.out W).mono ?_
    rintro e w5 ⟨rfl, hs5⟩
    have HS5 := Lib.hid hs5
    have HT5 := Lib.hid (tab64_same HPW.out hs5 HTW.out)
    have HP5 := Lib.hid (Nat.lt_of_lt_of_le HPW.out hs5.size)
    have c2 := (XX.out _ hs5).1
    have c3 := (XX.out _ hs5).2.1
    have c5 := (XX.out _ hs5).2.2
    clear hs5 CU
    gi_wp2
    apply cut_region (S := fun w' => Same w5 w')
    case h1 =>
      intro Kc hKc
      have HKC := Lib.hid hKc
      clear hKc
      gi_region_with_o (first
        | (refine ⟨trivial, ?_⟩; gi_at_call 8; refine (CN.out _).mono ?_; rintro e w' ⟨rfl, rfl⟩)
        | (gi_at_call 8; refine (CN.out _).mono ?_; rintro e w' ⟨rfl, rfl⟩)
        | (refine ⟨trivial, ?_⟩; gi_at_call 9; refine (CB.out _).mono ?_; rintro e w' ⟨rfl, rfl⟩)
        | (gi_at_call 9; refine (CB.out _).mono ?_; rintro e w' ⟨rfl, rfl⟩)
        | (refine ⟨trivial, ?_⟩; gi_at_call 7; refine (CR.out w5.drew HP5.out HT5.out).mono ?_; rintro e w' ⟨rfl, hb⟩; have hsm : Same w5 w' := (((Frm.refl _ w5).drew).trans (Frm.of_below hb _) (fun _ _ h => h)); have hsw : Same W w' := HS5.out.trans hsm (fun _ _ h => h); have c2 := (XX.out w' hsw).1; have c3 := (XX.out w' hsw).2.1; have c5 := (XX.out w' hsw).2.2; have HSM := Lib.hid hsm; clear hsm hsw hb)
        | (gi_at_call 7; refine (CR.out w5.drew HP5.out HT5.out).mono ?_; rintro e w' ⟨rfl, hb⟩; have hsm : Same w5 w' := (((Frm.refl _ w5).drew).trans (Frm.of_below hb _) (fun _ _ h => h)); have hsw : Same W w' := HS5.out.trans hsm (fun _ _ h => h); have c2 := (XX.out w' hsw).1; have c3 := (XX.out w' hsw).2.1; have c5 := (XX.out w' hsw).2.2; have HSM := Lib.hid hsm; clear hsm hsw hb))
      all_goals exact HKC.out _ HSM.out
    case h2 =>
      intro w6 hs6
      have HSW := Lib.hid (HS5.out.trans hs6 (fun _ _ h => h))
      have hrM : r < M := by have := HHR.out; rw [← HM.out] at this; exact this
      have hrw : IntKind.u64.wrap ((r : Int) + 1) = ((r + 1 : Nat) : Int) := by rw [IntWalk.u64_in _ (by omega)]; rfl
      have hrn : ¬ (M : Int) < ((r + 1 : Nat) : Int) := by omega
      have hrn2 : ¬ M < r + 1 := by omega
      obtain ⟨lv, hlv⟩ : ∃ z, z = (if r = 0 then 0 else unS N K (r - 1)) := ⟨_, rfl⟩
      have hlu : lv < 18446744073709551616 := by
        rw [hlv]
        by_cases h : r = 0
        · rw [if_pos h]; omega
        · rw [if_neg h]; exact sub_u64 (by omega)
      have hfacts : 0 < r → lv < sv ∧ afR lv = sv := by
        intro hp
        rw [hlv, if_neg (by omega), HSV.out]
        refine ⟨un_mono N K (by omega) HHR.out, ?_⟩
        have := sub_step (n := N) (k := K) (r := r - 1) (by omega) (by rw [Nat.sub_add_cancel hp]; exact HHR.out)
        rwa [Nat.sub_add_cancel hp] at this
      have x6 : Boxed W (wb.heap.size + 1) 22 (.int .u64 (lv : Nat)) := by rw [hlv]; exact HH.out.x6
      have hXX : ∀ w', Same W w' → Boxed w' w.heap.size 4 (.bool false) ∧ Boxed w' (w.heap.size + 1) 3 (.int .i64 N) ∧ Boxed w' (w.heap.size + 1 + 1) 3 (.int .i64 K) ∧ Boxed w' wa.heap.size 22 (.int .u64 M) ∧ Boxed w' wb.heap.size 22 (.int .u64 r) ∧ Boxed w' (wb.heap.size + 1) 22 (.int .u64 (lv : Nat)) := fun w' hs => ⟨boxed_same HH.out.x1 (hs.block _ HH.out.x1.lt (fun h => h)), boxed_same HH.out.x2 (hs.block _ HH.out.x2.lt (fun h => h)), boxed_same HH.out.x3 (hs.block _ HH.out.x3.lt (fun h => h)), boxed_same HH.out.x4 (hs.block _ HH.out.x4.lt (fun h => h)), boxed_same HH.out.x5 (hs.block _ HH.out.x5.lt (fun h => h)), boxed_same x6 (hs.block _ x6.lt (fun h => h))⟩
      obtain ⟨z1, z2, z3, z4, z5, z6⟩ := hXX _ HSW.out
      have c4 := z4.cell
      have c5 := z5.cell
      have c6 := z6.cell
      have f5 := z5.frozen
      have f6 := z6.frozen
      have hfin := Lib.hid (show ∀ (a : Act), subPost wf.heap.size (WsI w wa.heap.size wb.heap.size N K M) (fun _ _ _ => False) r W .normal a ((w6.setCell ⟨wb.heap.size + 1, 0, none⟩ (.int .u64 (sv : Nat))).setCell ⟨wb.heap.size, 0, none⟩ (.int .u64 ((r + 1 : Nat) : Int))) from by
        intro a
        have hs := HSW.out
        have hk : KeepsOthers W w6 := ⟨hs.size, fun i o hi ho => (hs.block i (Array.getElem?_eq_some_iff.1 hi).1 (fun h => h)).trans hi⟩
        have q1 := HWAB.out.1
        have q2 := HWAB.out.2
        refine ⟨((hk.trans (KeepsOthers.setCell _ _ _)).trans (KeepsOthers.setCell _ _ _)).from _, ?_, ?_, ?_, ?_, ?_, ?_, ?_⟩
        · exact ((HH.out.b.trans (hs.to_below HH.out.b.size (fun _ _ h => h))).setCell (p := ⟨wb.heap.size + 1, 0, none⟩) (by show w.heap.size ≤ wb.heap.size + 1; omega) _).setCell (p := ⟨wb.heap.size, 0, none⟩) (by show w.heap.size ≤ wb.heap.size; omega) _
        · exact boxed_setCell (boxed_setCell z1 (a := ⟨wb.heap.size + 1, 0, none⟩) (by show w.heap.size ≠ wb.heap.size + 1; omega) _) (a := ⟨wb.heap.size, 0, none⟩) (by show w.heap.size ≠ wb.heap.size; omega) _
        · exact boxed_setCell (boxed_setCell z2 (a := ⟨wb.heap.size + 1, 0, none⟩) (by show w.heap.size + 1 ≠ wb.heap.size + 1; omega) _) (a := ⟨wb.heap.size, 0, none⟩) (by show w.heap.size + 1 ≠ wb.heap.size; omega) _
        · exact boxed_setCell (boxed_setCell z3 (a := ⟨wb.heap.size + 1, 0, none⟩) (by show w.heap.size + 1 + 1 ≠ wb.heap.size + 1; omega) _) (a := ⟨wb.heap.size, 0, none⟩) (by show w.heap.size + 1 + 1 ≠ wb.heap.size; omega) _
        · exact boxed_setCell (boxed_setCell z4 (a := ⟨wb.heap.size + 1, 0, none⟩) (by show wa.heap.size ≠ wb.heap.size + 1; omega) _) (a := ⟨wb.heap.size, 0, none⟩) (by show wa.heap.size ≠ wb.heap.size; omega) _
        · exact (boxed_setCell z5 (a := ⟨wb.heap.size + 1, 0, none⟩) (by show wb.heap.size ≠ wb.heap.size + 1; omega) _).set _
        · rw [if_neg (by omega), Nat.add_sub_cancel, ← HSV.out]
          exact boxed_setCell (z6.set _) (a := ⟨wb.heap.size, 0, none⟩) (by show wb.heap.size + 1 ≠ wb.heap.size; omega) _)
      have hq1 : ¬ wa.heap.size = wb.heap.size := by have := HWAB.out.2; omega
      have hq2 : ¬ wa.heap.size = wb.heap.size + 1 := by have := HWAB.out.2; omega
      have HLF := Lib.hid hfacts
      have CA := Lib.hid (callsIn_wide (n := 3).2 (after_any lv hlu w6))
      clear hlv x6 hXX z1 z2 z3 z4 z5 z6 hfacts hs6 c2 c3 CN CB CR XX hand hs hlu
      by_cases hr0 : r = 0
      · have hp1 : ¬ (0 : Int) < (r : Int) := by omega
        have hp2 : ¬ 0 < r := by omega
        clear hr0
        gi_wp2
        case h_1.isTrue => rename_i hx _; first | cases hx | (injection hx with hx; cases hx) | simp at hx
        case h_1.isFalse => rename_i hx _; first | cases hx | (injection hx with hx; cases hx) | simp at hx
        case h_2 =>
          refine ⟨trivial, ?_⟩
          gi_wp2
          exact hfin.out _
      · have hp1 : (0 : Int) < (r : Int) := by omega
        have hp2 : 0 < r := by omega
        obtain ⟨hl1, hl2⟩ := HLF.out hp2
        have hl3 : ¬ (sv : Int) ≤ (lv : Int) := by omega
        have hl4 : ¬ sv ≤ lv := by omega
        rw [hl2] at CA
        clear hr0 hl1 hl2
        gi_wp2_with (fail)
        refine ⟨trivial, ?_⟩
        refine CA.out.mono ?_
        rintro e w' ⟨rfl, rfl⟩
        gi_wp2
        exact hfin.out _
end Go.Proofs.YtiojbmcjcefdkaaDoor


/- Masks: from the listed table to the walks' condition; a world that meets it. -/
namespace Go.Proofs.YtiojbmcjcefdkaaDoor
open Go.RowKit Go.Tk Go.Shelf Go.ChangeShapes Go.WideShapes

theorem tab_gn : Tryd.prog.globalNamed "math/bits.deBruijn64tab" = some 0 := by kernel_rfl
theorem tab_of_laid {W : World} (h : laidMetH Tryd.prog [("math/bits.deBruijn64tab", Rows.laid_math_bits_deBruijn64tab)] W) : Tab64 W := by
  have h' : laidMet Tryd.prog [("math/bits.deBruijn64tab", Lib.tabData .u8 (Lib.deBruijn64tab.map fun (x : Nat) => (x : Int)))] W := h
  have hT := Lib.tabIs_of_head (n := 64) tab_gn (show (Tryd.prog.globals[0]?).map (·.type) = some 48 by kernel_rfl) (show Tryd.prog.underlying 48 = some (.array 64 5) by kernel_rfl) (show Tryd.prog.underlying 5 = some (.int .u8) by kernel_rfl) (by kernel_rfl) (by kernel_rfl) h'
  intro j hj
  have h1 := hT.cell tab_gn j (by rw [List.length_map]; exact hj)
  rw [h1]
  simp [List.getD, List.getElem?_map, List.getElem?_eq_getElem hj]
theorem tab_pos {W : World} (h : Tab64 W) : 0 < W.heap.size := by
  have h1 := h 0 (by decide)
  unfold World.cell? at h1
  rcases Nat.eq_zero_or_pos W.heap.size with h0 | h0
  · rw [Array.getElem?_eq_none (by simp only [h0]; exact Nat.le_refl _)] at h1
    simp at h1
  · exact h0
theorem ownK : ownKnob Tryd.prog.godebug = none := by kernel_rfl
theorem laidOutK : laidOutB Tryd.prog = true := by kernel_rfl
noncomputable def laidWorld (os : Os) : World :=
  let w0 := World.holding Tryd.prog os ⟨#[], #[], []⟩
  { w0 with heap := w0.heap.modify 0 fun
      | .cells _ t frozen => .cells #[.int .u8 0, .int .u8 1, .int .u8 56, .int .u8 2, .int .u8 57, .int .u8 49, .int .u8 28, .int .u8 3, .int .u8 61, .int .u8 58, .int .u8 42, .int .u8 50, .int .u8 38, .int .u8 29, .int .u8 17, .int .u8 4, .int .u8 62, .int .u8 47, .int .u8 59, .int .u8 36, .int .u8 45, .int .u8 43, .int .u8 51, .int .u8 22, .int .u8 53, .int .u8 39, .int .u8 33, .int .u8 30, .int .u8 24, .int .u8 18, .int .u8 12, .int .u8 5, .int .u8 63, .int .u8 55, .int .u8 48, .int .u8 27, .int .u8 60, .int .u8 41, .int .u8 37, .int .u8 16, .int .u8 46, .int .u8 35, .int .u8 44, .int .u8 21, .int .u8 52, .int .u8 32, .int .u8 23, .int .u8 11, .int .u8 54, .int .u8 26, .int .u8 40, .int .u8 15, .int .u8 34, .int .u8 20, .int .u8 31, .int .u8 10, .int .u8 25, .int .u8 14, .int .u8 19, .int .u8 9, .int .u8 13, .int .u8 8, .int .u8 7, .int .u8 6] t frozen
      | o => o }
theorem laidWorld_met (os : Os) (args : Array Value) : laidMetH Tryd.prog [("math/bits.deBruijn64tab", Rows.laid_math_bits_deBruijn64tab)] ((laidWorld os).forCall (fun _ _ => 0) ⟨#[], args, []⟩).memory :=
  laidMetH_of_parts (laidMet_of_run' 8 (by kernel_rfl) (by kernel_rfl)) (by kernel_rfl)
end Go.Proofs.YtiojbmcjcefdkaaDoor
