/- A nil arena: the contracts and the walk. -/
import Derived.Test.YtkajgopkdolhcaaArAwake
namespace Go.Proofs.Ytkajgopkdolhcaa
open Go.RowKit Go.Tk

set_option maxHeartbeats 1000000 in
theorem nil_alloc (n : Nd) (w : World) : Calls Try.prog 9 #[.pointer none, n.val] w fun e w' => e = .returned (.tuple #[.int .u32 0, .int .i64 10]) ∧ Same w w' := by
  unfold Nd.val
  go_enter Try.func9, Try.ntmps9
  go_wp2_with (fail)
  go_ret2
  exact ⟨rfl, (Frm.refl _ _).alloc _⟩
set_option maxHeartbeats 1000000 in
theorem nil_get (r : Int) (w : World) : Calls Try.prog 12 #[.pointer none, .int .u32 r] w fun e w' => e = .returned (.tuple #[zNd.val, .int .i64 10]) ∧ Same w w' := by
  go_enter Try.func12, Try.ntmps12
  go_wp2_with (fail)
  refine bodyPost_ret (v := .tuple #[zNd.val, .int .i64 10]) ?_ rfl ⟨rfl, ?_⟩
  · simp [results, Try.results12, go_sem, Nd.val, zNd]
  · exact (Frm.refl _ _).alloc _
set_option maxHeartbeats 1000000 in
theorem nil_count (r : Int) (w : World) : Calls Try.prog 16 #[.pointer none, .int .u32 r] w fun e w' => e = .returned (.tuple #[.int .i64 0, .int .i64 10]) ∧ Same w w' := by
  go_enter Try.func16, Try.ntmps16
  go_wp2_with (fail)
  go_ret2
  exact ⟨rfl, Frm.refl _ _⟩
set_option maxHeartbeats 1000000 in
theorem nil_free (r : Int) (w : World) : Calls Try.prog 11 #[.pointer none, .int .u32 r] w fun e w' => e = .returned (.int .i64 10) ∧ Same w w' := by
  go_enter Try.func11, Try.ntmps11
  go_wp2_with (fail)
  go_ret
  exact ⟨rfl, Frm.refl _ _⟩
set_option maxHeartbeats 1000000 in
theorem nil_set (r : Int) (n : Nd) (w : World) : Calls Try.prog 17 #[.pointer none, .int .u32 r, n.val] w fun e w' => e = .returned (.int .i64 10) ∧ Same w w' := by
  unfold Nd.val
  go_enter Try.func17, Try.ntmps17
  go_wp2_with (fail)
  go_ret
  exact ⟨rfl, (Frm.refl _ _).alloc _⟩
set_option maxHeartbeats 1000000 in
theorem nil_up (r : Int) (w : World) : Calls Try.prog 18 #[.pointer none, .int .u32 r] w fun e w' => e = .returned (.int .i64 10) ∧ Same w w' := by
  go_enter Try.func18, Try.ntmps18
  go_wp2_with (fail)
  go_ret
  exact ⟨rfl, Frm.refl _ _⟩
set_option maxHeartbeats 1000000 in
theorem nil_down (r : Int) (w : World) : Calls Try.prog 19 #[.pointer none, .int .u32 r] w fun e w' => e = .returned (.int .i64 10) ∧ Same w w' := by
  go_enter Try.func19, Try.ntmps19
  go_wp2_with (fail)
  go_ret
  exact ⟨rfl, Frm.refl _ _⟩
set_option maxHeartbeats 1000000 in
theorem nil_used (w : World) : Calls Try.prog 10 #[.pointer none] w fun e w' => e = .returned (.int .i64 0) ∧ Same w w' := by
  go_enter Try.func10, Try.ntmps10
  go_wp2_with (fail)
  go_ret
  exact ⟨rfl, Frm.refl _ _⟩
set_option maxHeartbeats 1000000 in
theorem nil_places (w : World) : Calls Try.prog 20 #[.pointer none] w fun e w' => e = .returned (.int .i64 0) ∧ Same w w' := by
  go_enter Try.func20, Try.ntmps20
  go_wp2_with (fail)
  go_ret
  exact ⟨rfl, Frm.refl _ _⟩

structure Opn where
  kind : Int
  r : Int
  lo : Int
  hi : Int
  v : Int
  times : Int
  raw : Bool
def Opn.cells (o : Opn) : List Value := [.int .i64 o.kind, .int .i64 o.r, .int .i64 o.lo, .int .i64 o.hi, .int .i64 o.v, .int .i64 o.times, .bool o.raw]
abbrev opKs : List Leaf := [.int .i64, .int .i64, .int .i64, .int .i64, .int .i64, .int .i64, .bool]
theorem opn_of {w : World} (l : List Value) (h : CellsOk w opKs l) : ∃ o : Opn, l = o.cells := by
  simp only [CellsOk, CellOk] at h
  obtain ⟨v0, l0, rfl, ⟨n0, rfl, _⟩, v1, l1, rfl, ⟨n1, rfl, _⟩, v2, l2, rfl, ⟨n2, rfl, _⟩, v3, l3, rfl, ⟨n3, rfl, _⟩, v4, l4, rfl, ⟨n4, rfl, _⟩, v5, l5, rfl, ⟨n5, rfl, _⟩, v6, l6, rfl, ⟨n6, rfl⟩, rfl⟩ := h
  exact ⟨⟨n0, n1, n2, n3, n4, n5, n6⟩, rfl⟩

set_option maxRecDepth 100000 in
set_option maxHeartbeats 2000000 in
theorem nil_walk (o : Opn) (w : World) : Calls Try.prog 6 #[.agg o.cells.toArray] w fun e w' => e = .returned (.bool true) ∧ Below w.heap.size w w' := by
  unfold Opn.cells
  go_enter Try.func6, Try.ntmps6
  go_wp2_with (fail)
  refine call_world fun w1 hw1 => ?_
  have hs1 : Same w w1 := by rw [hw1]; exact ((Frm.refl _ _).alloc _).alloc _
  have hX := Blk.new (w.alloc (.cells #[.int .i64 o.kind, .int .i64 o.r, .int .i64 o.lo, .int .i64 o.hi, .int .i64 o.v, .int .i64 o.times, .bool o.raw] 45)) 34 #[.int .i64 o.v, .int .u32 (o.lo % 4294967296), .int .u32 (o.hi % 4294967296)]
  rw [← hw1] at hX
  clear hw1
  simp only [World.size_alloc] at hX
  refine (nil_alloc ⟨o.v, o.lo % 4294967296, o.hi % 4294967296⟩ w1).mono ?_
  rintro e w2 ⟨rfl, hs2⟩
  have ng := nil_get (o.r % 4294967296) w2
  simp only [Nd.val, zNd] at ng
  have NG := Lib.hid ng
  clear ng
  go_wp2_with (fail)
  refine NG.out.mono ?_
  rintro e w3 ⟨rfl, hs3⟩
  clear NG
  go_wp2_with (fail)
  refine call_world fun w4 hw4 => ?_
  have hs4 : Same w3 w4 := by rw [hw4]; exact (Frm.refl _ _).alloc _
  have hY := Blk.new w3 34 #[.int .i64 0, .int .u32 0, .int .u32 0]
  rw [← hw4] at hY
  clear hw4
  refine (nil_count _ w4).mono ?_
  rintro e w5 ⟨rfl, hs5⟩
  go_wp2_with (fail)
  refine (awake_any w5).mono ?_
  rintro e w6 ⟨rfl, hs6⟩
  have hX6 := ((((hX.frm hs2 id).frm hs3 id).frm hs4 id).frm hs5 id).frm hs6 id
  have hY6 := (hY.frm hs5 id).frm hs6 id
  have x0 := hX6.cell 0
  have x1 := hX6.cell 1
  have x2 := hX6.cell 2
  have y0 := hY6.cell 0
  have y1 := hY6.cell 1
  have y2 := hY6.cell 2
  simp at x0 x1 x2 y0 y1 y2
  have heq : ∀ w, (binOp .eql 34 (.agg #[.int .i64 0, .int .u32 0, .int .u32 0]) (.agg #[.int .i64 0, .int .u32 0, .int .u32 0])).run Try.prog w = .ok (.bool true) w := fun w => eql_nd ⟨0, 0, 0⟩ ⟨0, 0, 0⟩ w
  have hS6 : Same w w6 := (((((hs1.trans hs2 (fun _ _ h => h)).trans hs3 (fun _ _ h => h)).trans hs4 (fun _ _ h => h)).trans hs5 (fun _ _ h => h)).trans hs6 (fun _ _ h => h))
  have HS := Lib.hid hS6
  have HX := Lib.hid hX6
  clear hS6 hX6 hY6 hX hY hs1 hs2 hs3 hs4 hs5 hs6
  go_wp2_with (fail)
  refine (nil_free _ w6).mono ?_
  rintro e w7 ⟨rfl, hs7⟩
  have hX7 := HX.out.frm hs7 id
  clear x0 x1 x2 y0 y1 y2
  have x0 := hX7.cell 0
  have x1 := hX7.cell 1
  have x2 := hX7.cell 2
  simp at x0 x1 x2
  clear hX7
  go_wp2_with (fail)
  refine (nil_set _ ⟨o.v, o.lo % 4294967296, o.hi % 4294967296⟩ w7).mono ?_
  rintro e w8 ⟨rfl, hs8⟩
  go_wp2_with (fail)
  refine (nil_up _ w8).mono ?_
  rintro e w9 ⟨rfl, hs9⟩
  go_wp2_with (fail)
  refine (nil_down _ w9).mono ?_
  rintro e w10 ⟨rfl, hs10⟩
  go_wp2_with (fail)
  refine (nil_used w10).mono ?_
  rintro e w11 ⟨rfl, hs11⟩
  go_wp2_with (fail)
  refine (nil_places w11).mono ?_
  rintro e w12 ⟨rfl, hs12⟩
  go_wp2
  go_ret
  refine ⟨by simp, Frm.to_below ?_ (Nat.le_refl _) (fun _ _ => id)⟩
  exact (((((HS.out.trans hs7 (fun _ _ h => h)).trans hs8 (fun _ _ h => h)).trans hs9 (fun _ _ h => h)).trans hs10 (fun _ _ h => h)).trans hs11 (fun _ _ h => h)).trans hs12 (fun _ _ h => h)
end Go.Proofs.Ytkajgopkdolhcaa
