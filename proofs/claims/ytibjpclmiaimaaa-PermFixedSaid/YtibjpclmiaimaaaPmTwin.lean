/- The reference's Twin: a copy of a list. -/
import Derived.Test.YtibjpclmiaimaaaPmTwos
import Derived.Test.YtibjpclmiaimaaaCopy
namespace Go.Proofs.Ytibjpclmiaimaaa
open Go.RowKit Go.Tk

set_option maxHeartbeats 1000000 in
theorem twin_any (A : Option Addr) (n C : Nat) (xs : List Int) (w : World) (h : IL w A n xs) (hr : n * 8 ≤ 140737488351232) :
    Calls Try.prog 35 #[.slice A n C] w (RetL w xs) := by
  obtain rfl := h.len
  have hmk := fun w => run_make_n (P := Try.prog) Try.underlying22 info_int .i64 .i64 xs.length (show 8 * xs.length ≤ 281474976710656 by omega) (show xs.length ≤ 9223372036854775807 by omega) w
  have hO := Own.ofMade (m := 1) w 3 icell (fun _ => rfl) (by decide) 0 xs.length (show xs.length ≤ 9223372036854775807 by omega) rfl
  have H := Lib.hid h
  have HO := Lib.hid hO
  clear h hO
  go_enter Try.func35, Try.ntmps35
  go_upto_region 2 with fail
  refine wp_world fun wa hwa => ?_
  have hsa : Same w wa := by rw [hwa]; exact (Frm.refl _ _).alloc _
  have hOa := HO.out
  have hwa2 : wa = w.alloc (.cells (madeCells (icell 0).toArray (xs.length * 1)) 3) := by rw [hwa]; simp [icell]
  rw [← hwa2] at hOa
  clear hwa hwa2 hmk HO
  obtain ⟨w2, hr2, hO2, hw2⟩ := Own.copied (P := Try.prog) 22 22 3 Try.underlying22 (by kernel_rfl) hOa (Sl.same H.out hsa) (D := C) (Nat.le_refl _)
  have hs2 : Same w w2 := by rw [hw2]; exact Same.setRun _ _ hsa (Nat.le_refl _)
  have hO3 : OwnI w2 3 (some ⟨w.heap.size, 0, none⟩) xs.length xs.length xs := by simpa using hO2
  clear hO2 hw2 hOa
  have HO3 := Lib.hid hO3
  clear hO3
  refine wp_read 2 ?_
  simp only [List.take_succ_cons, List.take_zero, List.drop_succ_cons, List.drop_zero]
  repeat (any_goals (first | go_big_quiet_step (fail) | quiet_step (fail)))
  refine wpQuiet_nil ?_
  refine Lib.wpList_copy_run _ rfl _ _ _ _ rfl _ _ rfl rfl hr2 ?_
  clear hr2
  go_wp2
  go_ret
  exact ⟨some ⟨w.heap.size, 0, none⟩, xs.length, rfl, HO3.out, fresh_some (Nat.le_refl _), hs2⟩
end Go.Proofs.Ytibjpclmiaimaaa
