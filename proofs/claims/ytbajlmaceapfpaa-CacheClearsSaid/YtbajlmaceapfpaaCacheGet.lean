/- The contracts of the cache's Get and Put. -/
import Derived.Test.YtbajlmaceapfpaaCacheFns
namespace Go.Proofs.Ytbajlmaceapfpaa
open Go.RowKit Go.Tk

/-- a question -/
structure Ky where
  o : Int
  a : Int
  b : Int
  c : Int
  deriving DecidableEq
def Ky.cells (k : Ky) : List Value := [.int .u8 k.o, .int .u32 k.a, .int .u32 k.b, .int .u32 k.c]
/-- a place -/
structure Ln where
  k : Ky
  r : Int
  gen : Int
def Ln.cells (l : Ln) : List Value := [.int .u8 l.k.o, .int .u32 l.k.a, .int .u32 l.k.b, .int .u32 l.k.c, .int .u32 l.r, .int .u64 l.gen]
theorem Ln.cells_len (l : Ln) : l.cells.length = 6 := rfl
def Ky.val (k : Ky) : Value := .agg #[.int .u8 k.o, .int .u32 k.a, .int .u32 k.b, .int .u32 k.c]
def Ky.at (n : Nat) (k : Ky) : Nat := idx n k.o k.a k.b k.c

set_option maxHeartbeats 400000 in
theorem get_none (g n cl : Nat) (k : Ky) (w : World) (hb : Blk w g 52 #[.slice none 0 0, .int .i64 n, .int .u64 cl]) :
    Calls Try.prog 14 #[.pointer (some ⟨g, 0, none⟩), k.val] w fun e w' => e = .returned (.tuple #[.int .u32 0, .bool false]) ∧ Same w w' := by
  have h0 := hb.cell 0
  have hg := hb.lt
  simp at h0
  unfold Ky.val
  go_enter Try.func14, Try.ntmps14
  go_wp2
  go_ret2
  exact ⟨rfl, (Frm.refl _ _).alloc _⟩
set_option maxHeartbeats 400000 in
theorem get_nil (k : Ky) (w : World) :
    Calls Try.prog 14 #[.pointer none, k.val] w fun e w' => e = .returned (.tuple #[.int .u32 0, .bool false]) ∧ Same w w' := by
  unfold Ky.val
  go_enter Try.func14, Try.ntmps14
  go_wp2
  go_ret2
  exact ⟨rfl, (Frm.refl _ _).alloc _⟩
theorem eql_key (x y : Ky) (w : World) : (binOp .eql 34 x.val y.val).run Try.prog w = .ok (.bool (decide (x = y))) w := by
  obtain ⟨o, a, b, c⟩ := x
  obtain ⟨o', a', b', c'⟩ := y
  unfold Ky.val
  simp only [binOp]
  by_cases h1 : o = o' <;> by_cases h2 : a = a' <;> by_cases h3 : b = b' <;> by_cases h4 : c = c' <;> simp [Op.equal, Op.maxDepth, run_equalIn_struct, go_sem, h1, h2, h3, h4]
theorem neq_key (x y : Ky) (w : World) : (binOp .neq 34 x.val y.val).run Try.prog w = .ok (.bool (!decide (x = y))) w := by
  obtain ⟨o, a, b, c⟩ := x
  obtain ⟨o', a', b', c'⟩ := y
  unfold Ky.val
  simp only [binOp]
  by_cases h1 : o = o' <;> by_cases h2 : a = a' <;> by_cases h3 : b = b' <;> by_cases h4 : c = c' <;> simp [Op.equal, Op.maxDepth, run_equalIn_struct, go_sem, h1, h2, h3, h4]
theorem eql_rkey (x y : Ky) (w : World) : (binOp .eql 57 x.val y.val).run Try.prog w = .ok (.bool (decide (x = y))) w := by
  obtain ⟨o, a, b, c⟩ := x
  obtain ⟨o', a', b', c'⟩ := y
  unfold Ky.val
  simp only [binOp]
  by_cases h1 : o = o' <;> by_cases h2 : a = a' <;> by_cases h3 : b = b' <;> by_cases h4 : c = c' <;> simp [Op.equal, Op.maxDepth, run_equalIn_struct, go_sem, h1, h2, h3, h4]

/-- what a Get answers at this place -/
def hit (l : Ln) (k : Ky) (cl : Nat) : Bool := decide (l.k = k) && decide (l.gen = (cl : Int) + 1)
def ansR (l : Ln) (k : Ky) (cl : Nat) : Int := if hit l k cl then l.r else 0
set_option maxHeartbeats 1000000 in
theorem get_some (g n cl L i : Nat) (k : Ky) (l : Ln) (w : World) (hi : k.at n = i) (hb : Blk w g 52 #[.slice (some ⟨L, 0, none⟩) n n, .int .i64 n, .int .u64 cl])
    (hLl : L < w.heap.size) (hcell : ∀ j, j < 6 → w.cell? ⟨L, i * 6 + j, none⟩ = l.cells[j]?) (hn : 0 < n) (hn2 : n < 2000000) (hc : cl < 9223372036854775807) :
    Calls Try.prog 14 #[.pointer (some ⟨g, 0, none⟩), k.val] w fun e w' => e = .returned (.tuple #[.int .u32 (ansR l k cl), .bool (hit l k cl)]) ∧ Same w w' := by
  have h0 := hb.cell 0
  have hg := hb.lt
  simp at h0
  have HI := Lib.hid hi
  clear hi
  unfold Ky.val
  go_enter Try.func14, Try.ntmps14
  go_wp2_with (go_at_call 20; refine (at_any g L n i k.o k.a k.b k.c _ HI.out (by go_simp) (by simp; omega) hn hn2).mono ?_; rintro e w1 ⟨rfl, hs1⟩)
  have hB1 := (hb.alloc (.cells #[.int .u8 k.o, .int .u32 k.a, .int .u32 k.b, .int .u32 k.c] 34)).frm hs1 id
  have hX1 := (Blk.new w 34 #[.int .u8 k.o, .int .u32 k.a, .int .u32 k.b, .int .u32 k.c]).frm hs1 id
  have hcell1 : ∀ j, j < 6 → w1.cell? ⟨L, i * 6 + j, none⟩ = l.cells[j]? := by
    intro j hj
    rw [← hcell j hj, hs1.cell (by simp; omega) id]
    exact World.cell?_alloc_lt _ _ _ hLl
  have l0 : w1.cell? ⟨L, i * 6, none⟩ = some (.int .u8 l.k.o) := hcell1 0 (by omega)
  have l1 : w1.cell? ⟨L, i * 6 + 1, none⟩ = some (.int .u32 l.k.a) := hcell1 1 (by omega)
  have l2 : w1.cell? ⟨L, i * 6 + 2, none⟩ = some (.int .u32 l.k.b) := hcell1 2 (by omega)
  have l3 : w1.cell? ⟨L, i * 6 + 3, none⟩ = some (.int .u32 l.k.c) := hcell1 3 (by omega)
  have l4 : w1.cell? ⟨L, i * 6 + 4, none⟩ = some (.int .u32 l.r) := hcell1 4 (by omega)
  have l5 : w1.cell? ⟨L, i * 6 + 5, none⟩ = some (.int .u64 l.gen) := hcell1 5 (by omega)
  have g2 := hB1.cell 2
  have x0 := hX1.cell 0
  have x1 := hX1.cell 1
  have x2 := hX1.cell 2
  have x3 := hX1.cell 3
  have hg1 := hB1.lt
  have hx1 := hX1.lt
  have hl1 : L < w1.heap.size := by have := hs1.size; simp at this; omega
  simp at g2 x0 x1 x2 x3
  have hsame : Same w w1 := ((Frm.refl _ _).alloc _).trans hs1 (fun _ _ h => h)
  clear hcell1 hcell hB1 hX1 hs1 h0 hg hLl hb
  have hneq := fun w => neq_key l.k k w
  unfold Ky.val at hneq
  by_cases hk : l.k = k
  · have hneq2 : ∀ w, (binOp .neq 34 (.agg #[.int .u8 l.k.o, .int .u32 l.k.a, .int .u32 l.k.b, .int .u32 l.k.c]) (.agg #[.int .u8 k.o, .int .u32 k.a, .int .u32 k.b, .int .u32 k.c])).run Try.prog w = .ok (.bool false) w := by
      intro w; rw [hneq w]; simp [hk]
    have HK := Lib.hid hk
    clear hneq hk
    by_cases hgen : l.gen = (cl : Int) + 1
    · have hgn : (l.gen != (cl : Int) + 1) = false := by simp [hgen]
      have HG := Lib.hid hgen
      clear hgen
      refine wp_quiet (by kernel_rfl) (by kernel_rfl) ?_
      repeat (any_goals (first | go_big_quiet_step (fail) | quiet_step (fail)))
      all_goals (refine wpQuiet_nil ?_; rintro _ ⟨q, rfl⟩)
      go_wp2
      go_ret2
      exact ⟨by simp [ansR, hit, HK.out, HG.out], hsame.trans (more_same _ _) (fun _ _ h => h)⟩
    · have hgn : (l.gen != (cl : Int) + 1) = true := by simp [hgen]
      have HG := Lib.hid hgen
      clear hgen
      refine wp_quiet (by kernel_rfl) (by kernel_rfl) ?_
      repeat (any_goals (first | go_big_quiet_step (fail) | quiet_step (fail)))
      all_goals (refine wpQuiet_nil ?_; rintro _ ⟨q, rfl⟩)
      go_wp2
      go_ret2
      exact ⟨by simp [ansR, hit, HG.out], hsame.trans (more_same _ _) (fun _ _ h => h)⟩
  · have hneq2 : ∀ w, (binOp .neq 34 (.agg #[.int .u8 l.k.o, .int .u32 l.k.a, .int .u32 l.k.b, .int .u32 l.k.c]) (.agg #[.int .u8 k.o, .int .u32 k.a, .int .u32 k.b, .int .u32 k.c])).run Try.prog w = .ok (.bool true) w := by
      intro w; rw [hneq w]; simp [hk]
    have HK := Lib.hid hk
    clear hneq hk
    refine wp_quiet (by kernel_rfl) (by kernel_rfl) ?_
    repeat (any_goals (first | go_big_quiet_step (fail) | quiet_step (fail)))
    all_goals (refine wpQuiet_nil ?_; rintro _ ⟨q, rfl⟩)
    go_wp2
    go_ret2
    exact ⟨by simp [ansR, hit, HK.out], hsame.trans (more_same _ _) (fun _ _ h => h)⟩
end Go.Proofs.Ytbajlmaceapfpaa
