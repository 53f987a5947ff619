/- The contract of the cache's Put. -/
import Derived.Test.YtbajlmaceapfpaaCacheGet
namespace Go.Proofs.Ytbajlmaceapfpaa
open Go.RowKit Go.Tk

set_option maxHeartbeats 1000000 in
theorem put_some (g n cl L i : Nat) (k : Ky) (r : Int) (l : Ln) (ls : List Ln) (w : World) (hi : k.at n = i) (hb : Blk w g 52 #[.slice (some ⟨L, 0, none⟩) n n, .int .i64 n, .int .u64 cl])
    (hLb : Blk w L 64 (ls.flatMap Ln.cells).toArray) (hl : ls[i]? = some l) (hn : 0 < n) (hn2 : n < 2000000) (hc : cl < 9223372036854775807) :
    Calls Try.prog 12 #[.pointer (some ⟨g, 0, none⟩), k.val, .int .u32 r] w fun e w' => e = .returned (.tuple #[]) ∧ Blk w' L 64 ((ls.set i ⟨k, r, cl + 1⟩).flatMap Ln.cells).toArray ∧ Frm (· = L) w w' := by
  have hLl := hLb.lt
  have hfree := fun j => hLb.free j
  have hcell : ∀ j, j < 6 → w.cell? ⟨L, i * 6 + j, none⟩ = l.cells[j]? := by
    intro j hj
    rw [hLb.cell, List.getElem?_toArray, flat_get _ 6 Ln.cells_len _ _ _ hj, hl]
    rfl
  have HL := Lib.hid hLb
  have Hl := Lib.hid hl
  clear hLb hl
  have h0 := hb.cell 0
  have h1 := hb.cell 1
  have h2 := hb.cell 2
  have hg := hb.lt
  have l0 : w.cell? ⟨L, i * 6, none⟩ = some (.int .u8 l.k.o) := hcell 0 (by omega)
  have l1 : w.cell? ⟨L, i * 6 + 1, none⟩ = some (.int .u32 l.k.a) := hcell 1 (by omega)
  have l2 : w.cell? ⟨L, i * 6 + 2, none⟩ = some (.int .u32 l.k.b) := hcell 2 (by omega)
  have l3 : w.cell? ⟨L, i * 6 + 3, none⟩ = some (.int .u32 l.k.c) := hcell 3 (by omega)
  have l4 : w.cell? ⟨L, i * 6 + 4, none⟩ = some (.int .u32 l.r) := hcell 4 (by omega)
  have l5 : w.cell? ⟨L, i * 6 + 5, none⟩ = some (.int .u64 l.gen) := hcell 5 (by omega)
  simp at h0 h1 h2
  have HI := Lib.hid hi
  have hcn : ¬ ((n : Int) < 1) := by omega
  clear hi hcell hb
  unfold Ky.val
  go_enter Try.func12, Try.ntmps12
  go_wp2_with (fail)
  refine wp_world fun w1 hw1 => ?_
  have hs1 : Same w w1 := by rw [hw1]; exact (Frm.refl _ _).alloc _
  have hX := Blk.new w 34 #[.int .u8 k.o, .int .u32 k.a, .int .u32 k.b, .int .u32 k.c]
  rw [← hw1] at hX
  clear hw1
  have hg1 : g < w1.heap.size := by have := hs1.size; omega
  have hL1 : L < w1.heap.size := by have := hs1.size; omega
  have x0 := hX.cell 0
  have x1 := hX.cell 1
  have x2 := hX.cell 2
  have x3 := hX.cell 3
  have hx1 := hX.lt
  simp at x0 x1 x2 x3
  rw [← hs1.cell (by simpa using hg) id] at h0 h1 h2
  rw [← hs1.cell (by simpa using hLl) id] at l0 l1 l2 l3 l4 l5
  have hfree1 : ∀ j, w1.frozen? ⟨L, j, none⟩ = false := fun j => by rw [← hfree j]; exact World.frozen?_of_block (hs1.block _ hLl id)
  clear hfree
  refine wp_quiet_tail 12 (by kernel_rfl) (by kernel_rfl) ?_
  simp only [List.take_succ_cons, List.take_zero, List.drop_succ_cons, List.drop_zero]
  repeat (any_goals (first | go_big_quiet_step ((go_at_call 20; exact quiet_call (at_any g L n i k.o k.a k.b k.c _ HI.out (by go_simp) (more_lt hg1 _) hn hn2))) | quiet_step ((go_at_call 20; exact quiet_call (at_any g L n i k.o k.a k.b k.c _ HI.out (by go_simp) (more_lt hg1 _) hn hn2)))))
  all_goals (refine wpQuiet_nil ?_; rintro _ ⟨q, rfl⟩)
  go_wp2
  go_end0
  have hq : Same w (more w1 q) := hs1.trans (more_same w1 q) (fun _ _ h => h)
  have hB := HL.out.frm hq id
  have hil : i < ls.length := by
    rcases Nat.lt_or_ge i ls.length with h | h
    · exact h
    · have := Hl.out; rw [List.getElem?_eq_none h] at this; cases this
  refine ⟨rfl, ?_, ?_⟩
  · rw [← flat_store Ln.cells 6 Ln.cells_len (by omega) ls i _ hil]
    exact (((((hB.set _ _).set _ _).set _ _).set _ _).set _ _).set _ _
  · exact ((((((hq.mono (S' := (· = L)) (fun _ _ h => h.elim)).set _ _ rfl).set _ _ rfl).set _ _ rfl).set _ _ rfl).set _ _ rfl).set _ _ rfl

def zeroLn : Ln := ⟨⟨0, 0, 0, 0⟩, 0, 0⟩
theorem info_line : (Try.prog.info? 64).map (fun i => (i.zero, i.size, i.bytes)) = some (some (.agg zeroLn.cells.toArray), 6, 32) := by kernel_rfl
set_option maxHeartbeats 1000000 in
theorem put_none (g n cl i : Nat) (k : Ky) (r : Int) (w : World) (hi : k.at n = i) (hb : Blk w g 52 #[.slice none 0 0, .int .i64 n, .int .u64 cl])
    (hin : i < n) (hn2 : n < 2000000) (hc : cl < 9223372036854775807) :
    Calls Try.prog 12 #[.pointer (some ⟨g, 0, none⟩), k.val, .int .u32 r] w fun e w' => e = .returned (.tuple #[]) ∧
      Blk w' g 52 #[.slice (some ⟨w.heap.size + 1, 0, none⟩) n n, .int .i64 n, .int .u64 cl] ∧
      Blk w' (w.heap.size + 1) 64 (((List.replicate n zeroLn).set i ⟨k, r, cl + 1⟩).flatMap Ln.cells).toArray ∧ Frm (· = g) w w' := by
  have h0 := hb.cell 0
  have h1 := hb.cell 1
  have h2 := hb.cell 2
  have f0 := hb.free 0
  have hg := hb.lt
  have hn : 0 < n := by omega
  simp at h0 h1 h2
  have HI := Lib.hid hi
  have HB := Lib.hid hb
  have hcn : ¬ ((n : Int) < 1) := by omega
  have hmk := fun w => run_make_n (P := Try.prog) Try.underlying50 info_line .i64 .i64 n (by omega) (by omega) w
  clear hi hb
  unfold Ky.val
  go_enter Try.func12, Try.ntmps12
  go_wp2_with (fail)
  refine wp_world fun w1 hw1 => ?_
  have hB1 := ((HB.out.set 0 (.slice (some ⟨w.heap.size + 1, 0, none⟩) n n)).alloc (.cells #[.int .u8 k.o, .int .u32 k.a, .int .u32 k.b, .int .u32 k.c] 34)).alloc (.cells (madeCells zeroLn.cells.toArray (n * 6)) 64)
  have hX := (Blk.new (w.setCell ⟨g, 0, none⟩ (.slice (some ⟨w.heap.size + 1, 0, none⟩) n n)) 34 #[.int .u8 k.o, .int .u32 k.a, .int .u32 k.b, .int .u32 k.c]).alloc (.cells (madeCells zeroLn.cells.toArray (n * 6)) 64)
  have hL := Blk.new ((w.setCell ⟨g, 0, none⟩ (.slice (some ⟨w.heap.size + 1, 0, none⟩) n n)).alloc (.cells #[.int .u8 k.o, .int .u32 k.a, .int .u32 k.b, .int .u32 k.c] 34)) 64 (madeCells zeroLn.cells.toArray (n * 6))
  have hs1 : Frm (· = g) w w1 := by rw [hw1]; exact (((Frm.refl (· = g) _).set _ _ rfl).alloc _).alloc _
  rw [← hw1] at hX hL hB1
  simp only [World.size_alloc, size_setCell] at hL hX
  clear hw1 hmk h0 h1 h2 f0 hg HB
  rw [made_flat Ln.cells 6 Ln.cells_len (by omega)] at hL
  have hl : (List.replicate n zeroLn)[i]? = some zeroLn := by simp [hin]
  have hcell : ∀ j, j < 6 → w1.cell? ⟨w.heap.size + 1, i * 6 + j, none⟩ = zeroLn.cells[j]? := by
    intro j hj
    rw [hL.cell, List.getElem?_toArray, flat_get _ 6 Ln.cells_len _ _ _ hj, hl]
    rfl
  have h0 := hB1.cell 0
  have h2 := hB1.cell 2
  have hg1 := hB1.lt
  have hL1 := hL.lt
  have x0 := hX.cell 0
  have x1 := hX.cell 1
  have x2 := hX.cell 2
  have x3 := hX.cell 3
  have hx1 := hX.lt
  simp at x0 x1 x2 x3 h0 h2
  have l0 : w1.cell? ⟨w.heap.size + 1, i * 6, none⟩ = some (.int .u8 0) := hcell 0 (by omega)
  have l1 : w1.cell? ⟨w.heap.size + 1, i * 6 + 1, none⟩ = some (.int .u32 0) := hcell 1 (by omega)
  have l2 : w1.cell? ⟨w.heap.size + 1, i * 6 + 2, none⟩ = some (.int .u32 0) := hcell 2 (by omega)
  have l3 : w1.cell? ⟨w.heap.size + 1, i * 6 + 3, none⟩ = some (.int .u32 0) := hcell 3 (by omega)
  have l4 : w1.cell? ⟨w.heap.size + 1, i * 6 + 4, none⟩ = some (.int .u32 0) := hcell 4 (by omega)
  have l5 : w1.cell? ⟨w.heap.size + 1, i * 6 + 5, none⟩ = some (.int .u64 0) := hcell 5 (by omega)
  have hfree1 : ∀ j, w1.frozen? ⟨w.heap.size + 1, j, none⟩ = false := fun j => hL.free j
  have HL := Lib.hid hL
  have HB := Lib.hid hB1
  clear hL hB1 hX hcell hl
  refine wp_quiet_tail 12 (by kernel_rfl) (by kernel_rfl) ?_
  simp only [List.take_succ_cons, List.take_zero, List.drop_succ_cons, List.drop_zero]
  repeat (any_goals (first | go_big_quiet_step ((go_at_call 20; exact quiet_call (at_any g (w.heap.size + 1) n i k.o k.a k.b k.c _ HI.out (by go_simp) (more_lt hg1 _) hn hn2))) | quiet_step ((go_at_call 20; exact quiet_call (at_any g (w.heap.size + 1) n i k.o k.a k.b k.c _ HI.out (by go_simp) (more_lt hg1 _) hn hn2)))))
  all_goals (refine wpQuiet_nil ?_; rintro _ ⟨q, rfl⟩)
  go_wp2
  go_end0
  have hB2 := HL.out.frm (more_same w1 q) id
  have hgL : g ≠ w.heap.size + 1 := by
    intro h
    have := HB.out.inj (t' := 64) (by rw [h]; exact HL.out)
    exact absurd this.1 (by decide)
  have hB3 := HB.out.frm (more_same w1 q) id
  refine ⟨rfl, ?_, ?_, ?_⟩
  · exact (((((hB3.far hgL _).far hgL _).far hgL _).far hgL _).far hgL _).far hgL _
  · rw [← flat_store Ln.cells 6 Ln.cells_len (by omega) _ i _ (by simpa using hin)]
    exact (((((hB2.set _ _).set _ _).set _ _).set _ _).set _ _).set _ _
  · have hle : w.heap.size ≤ w.heap.size + 1 := by omega
    exact ((((((hs1.trans (more_same w1 q) (fun _ _ h => h.elim)).setNew _ _ hle).setNew _ _ hle).setNew _ _ hle).setNew _ _ hle).setNew _ _ hle).setNew _ _ hle
set_option maxHeartbeats 400000 in
theorem put_nil (k : Ky) (r : Int) (w : World) :
    Calls Try.prog 12 #[.pointer none, k.val, .int .u32 r] w fun e w' => e = .returned (.tuple #[]) ∧ Same w w' := by
  unfold Ky.val
  go_enter Try.func12, Try.ntmps12
  go_wp2
  refine bodyPost_ret (results_none rfl _ _ _) rfl ?_
  exact ⟨rfl, (Frm.refl _ _).alloc _⟩
end Go.Proofs.Ytbajlmaceapfpaa
