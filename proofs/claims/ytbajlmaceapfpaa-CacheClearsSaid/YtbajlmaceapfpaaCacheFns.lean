/- The contracts of the cache's functions. -/
import Derived.Test.YtbajlmaceapfpaaCacheAt
import Derived.Deep.RegionHeld3
import Derived.Deep.AppendLies
namespace Go.Proofs.Ytbajlmaceapfpaa
open Go.RowKit Go.Tk

set_option maxHeartbeats 400000 in
theorem new_bad (p : Int) (w : World) (h : p < 1 ∨ 1048576 < p) :
    Calls Try.prog 8 #[.int .i64 p] w fun e w' => e = .returned (.tuple #[.pointer none, .int .i64 1]) ∧ w = w' := by
  rcases h with h | h
  · go_enter Try.func8, Try.ntmps8
    go_wp2
    go_ret2
    exact ⟨rfl, rfl⟩
  · have h1 : ¬ p < 1 := by omega
    go_enter Try.func8, Try.ntmps8
    go_wp2
    go_ret2
    exact ⟨rfl, rfl⟩
set_option maxHeartbeats 400000 in
theorem new_ok (p : Int) (w : World) (h : ¬ p < 1) (h1 : p ≤ 1048576) :
    Calls Try.prog 8 #[.int .i64 p] w fun e w' => e = .returned (.tuple #[.pointer (some ⟨w.heap.size, 0, none⟩), .int .i64 0]) ∧ w.alloc (.cells #[.slice none 0 0, .int .i64 p, .int .u64 0] 52) = w' := by
  go_enter Try.func8, Try.ntmps8
  go_wp2
  go_ret2
  exact ⟨rfl, rfl⟩
set_option maxHeartbeats 400000 in
theorem docnew_bad (p : Int) (w : World) (h : p < 1 ∨ 1048576 < p) :
    Calls Try.prog 9 #[.int .i64 p] w fun e w' => e = .returned (.tuple #[.pointer none, .int .i64 1]) ∧ w = w' := by
  rcases h with h | h
  · go_enter Try.func9, Try.ntmps9
    go_wp2
    go_ret2
    exact ⟨rfl, rfl⟩
  · have h1 : ¬ p < 1 := by omega
    go_enter Try.func9, Try.ntmps9
    go_wp2
    go_ret2
    exact ⟨rfl, rfl⟩
set_option maxHeartbeats 400000 in
theorem docnew_ok (p : Int) (w : World) (h : ¬ p < 1) (h1 : p ≤ 1048576) :
    Calls Try.prog 9 #[.int .i64 p] w fun e w' => e = .returned (.tuple #[.pointer (some ⟨w.heap.size, 0, none⟩), .int .i64 0]) ∧
      w.alloc (.cells #[.int .i64 p, .slice none 0 0, .int .i64 (-1), .int .u64 0] 55) = w' := by
  go_enter Try.func9, Try.ntmps9
  go_wp2
  go_ret2
  exact ⟨rfl, rfl⟩
/-! Clear, Generation -/
set_option maxHeartbeats 400000 in
theorem clear_any (g n cl : Nat) (lv : Value) (w : World) (hb : Blk w g 52 #[lv, .int .i64 n, .int .u64 cl]) (hc : cl < 9223372036854775807) :
    Calls Try.prog 13 #[.pointer (some ⟨g, 0, none⟩)] w fun e w' => e = .returned (.tuple #[]) ∧ w.setCell ⟨g, 2, none⟩ (.int .u64 (cl + 1 : Nat)) = w' := by
  have h2 := hb.cell 2
  have f2 := hb.free 2
  simp at h2
  go_enter Try.func13, Try.ntmps13
  go_wp2
  go_end0
  exact ⟨rfl, rfl⟩
set_option maxHeartbeats 400000 in
theorem clear_nil (w : World) : Calls Try.prog 13 #[.pointer none] w fun e w' => e = .returned (.tuple #[]) ∧ w = w' := by
  go_enter Try.func13, Try.ntmps13
  go_wp2
  go_end0
  exact ⟨rfl, rfl⟩
set_option maxHeartbeats 400000 in
theorem gen_any (g n cl : Nat) (lv : Value) (w : World) (hb : Blk w g 52 #[lv, .int .i64 n, .int .u64 cl]) :
    Calls Try.prog 15 #[.pointer (some ⟨g, 0, none⟩)] w fun e w' => e = .returned (.int .u64 cl) ∧ w = w' := by
  have h2 := hb.cell 2
  simp at h2
  go_enter Try.func15, Try.ntmps15
  go_wp2
  go_ret
  exact ⟨rfl, rfl⟩
set_option maxHeartbeats 400000 in
theorem gen_nil (w : World) : Calls Try.prog 15 #[.pointer none] w fun e w' => e = .returned (.int .u64 0) ∧ w = w' := by
  go_enter Try.func15, Try.ntmps15
  go_wp2
  go_ret
  exact ⟨rfl, rfl⟩
set_option maxHeartbeats 400000 in
theorem refclear_any (g cl : Nat) (v0 v1 v2 : Value) (w : World) (hb : Blk w g 55 #[v0, v1, v2, .int .u64 cl]) (hc : cl < 9223372036854775807) :
    Calls Try.prog 19 #[.pointer (some ⟨g, 0, none⟩)] w fun e w' => e = .returned (.tuple #[]) ∧ Blk w' g 55 #[v0, .slice none 0 0, .int .i64 (-1), .int .u64 (cl + 1 : Nat)] ∧ Frm (· = g) w w' := by
  have h1 := hb.cell 1
  have h2 := hb.cell 2
  have h3 := hb.cell 3
  have f1 := hb.free 1
  have f2 := hb.free 2
  have f3 := hb.free 3
  simp at h1 h2 h3
  go_enter Try.func19, Try.ntmps19
  go_wp2
  go_end0
  exact ⟨rfl, ((hb.set _ _).set _ _).set _ _, (((Frm.refl (· = g) _).set _ _ rfl).set _ _ rfl).set _ _ rfl⟩
end Go.Proofs.Ytbajlmaceapfpaa
