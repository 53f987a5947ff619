/- The contracts of the reference's DocGet and DocSet. -/
import Derived.Test.YtkajgopkdolhcaaArRSet
namespace Go.Proofs.Ytkajgopkdolhcaa
open Go.RowKit Go.Tk

section
variable {w : World} {d : Nat} {pl : Int} {es : List Pe} {B : Option Addr} {D : Nat}
theorem docGet_end {w0 wx : World} {g : Nat} {a0 a1 a2 : Value} (hX : Blk wx g 34 #[a0, a1, a2]) (hs : Same w0 wx) (hg : w0.heap.size ≤ g) (b0 b1 b2 : Value) :
    ∃ W, W = ((wx.setCell ⟨g, 0, none⟩ b0).setCell ⟨g, 1, none⟩ b1).setCell ⟨g, 2, none⟩ b2 ∧ W.cell? ⟨g, 0, none⟩ = some b0 ∧ W.cell? ⟨g, 1, none⟩ = some b1 ∧ W.cell? ⟨g, 2, none⟩ = some b2 ∧ Same w0 W := by
  have hY := ((hX.set 0 b0).set 1 b1).set 2 b2
  refine ⟨_, rfl, ?_, ?_, ?_, ((hs.setNew _ _ hg).setNew _ _ hg).setNew _ _ hg⟩
  · have := hY.cell 0; simpa using this
  · have := hY.cell 1; simpa using this
  · have := hY.cell 2; simpa using this
set_option maxHeartbeats 1000000 in
theorem RSt.get1 (r : Int) (hr : r ≤ 1) : Calls Try.prog 29 #[.pointer (some ⟨d, 0, none⟩), .int .u32 r] w fun e w' => e = .returned (.tuple #[(⟨-1, r, r⟩ : Nd).val, .int .i64 0]) ∧ Same w w' := by
  go_enter Try.func29, Try.ntmps29
  go_wp2_with (fail)
  have hY := Blk.new w 34 #[.int .i64 (-1), .int .u32 r, .int .u32 r]
  have hS : Same w (w.alloc (.cells #[.int .i64 (-1), .int .u32 r, .int .u32 r] 34)) := (Frm.refl _ _).alloc _
  generalize w.alloc (.cells #[.int .i64 (-1), .int .u32 r, .int .u32 r] 34) = W at *
  have y0 := hY.cell 0
  have y1 := hY.cell 1
  have y2 := hY.cell 2
  simp at y0 y1 y2
  refine bodyPost_ret (v := .tuple #[(⟨-1, r, r⟩ : Nd).val, .int .i64 0]) ?_ rfl ⟨rfl, hS⟩
  simp [results, Try.results29, go_sem, Nd.val, y0, y1, y2]
set_option maxHeartbeats 1000000 in
theorem RSt.getN (h : RSt w d pl es B D) (r : Int) (hr : ¬ r ≤ 1) (hf : fndI es r = -1) : Calls Try.prog 29 #[.pointer (some ⟨d, 0, none⟩), .int .u32 r] w fun e w' => e = .returned (.tuple #[zNd.val, .int .i64 3]) ∧ Same w w' := by
  have H := Lib.hid h
  have HF := Lib.hid hf
  clear hf h
  go_enter Try.func29, Try.ntmps29
  go_wp2_with (fail)
  refine call_world fun w1 hw1 => ?_
  have hs1 : Same w w1 := by rw [hw1]; exact (Frm.refl _ _).alloc _
  have hX := Blk.new w 34 #[.int .i64 0, .int .u32 0, .int .u32 0]
  rw [← hw1] at hX
  clear hw1
  refine ((H.out.frm hs1 (fun _ _ => id)).find r).mono ?_
  rintro e w2 ⟨rfl, rfl⟩
  rw [HF.out]
  have x0 := hX.cell 0
  have x1 := hX.cell 1
  have x2 := hX.cell 2
  have f0 := hX.free 0
  have f1 := hX.free 1
  have f2 := hX.free 2
  simp at x0 x1 x2
  have HX := Lib.hid hX
  clear hX
  go_wp2
  obtain ⟨W, hW, y0, y1, y2, hS⟩ := docGet_end HX.out hs1 (Nat.le_refl _) (.int .i64 0) (.int .u32 0) (.int .u32 0)
  rw [← hW]
  refine bodyPost_ret (v := .tuple #[zNd.val, .int .i64 3]) ?_ rfl ⟨rfl, hS⟩
  simp [results, Try.results29, go_sem, Nd.val, zNd, y0, y1, y2]
set_option maxRecDepth 100000 in
set_option maxHeartbeats 1000000 in
theorem RSt.getS (h : RSt w d pl es B D) (r : Int) (hr : ¬ r ≤ 1) {n : Nat} {e : Pe} (hf : fndI es r = n) (he : es[n]? = some e) : Calls Try.prog 29 #[.pointer (some ⟨d, 0, none⟩), .int .u32 r] w fun e' w' => e' = .returned (.tuple #[e.n.val, .int .i64 0]) ∧ Same w w' := by
  have H := Lib.hid h
  have HF := Lib.hid hf
  have HE := Lib.hid he
  have hlt := lt_of_get he
  clear hf h he
  go_enter Try.func29, Try.ntmps29
  go_wp2_with (fail)
  refine call_world fun w1 hw1 => ?_
  have hs1 : Same w w1 := by rw [hw1]; exact (Frm.refl _ _).alloc _
  have hX := Blk.new w 34 #[.int .i64 0, .int .u32 0, .int .u32 0]
  rw [← hw1] at hX
  clear hw1
  have hst := H.out.frm hs1 (fun _ _ => id)
  refine (hst.find r).mono ?_
  rintro e' w2 ⟨rfl, rfl⟩
  rw [HF.out]
  obtain ⟨sb, rfl, hsb, hc⟩ := hst.own.get Pe.cells_len HE.out
  have c1 : w1.cell? ⟨sb, n * 5 + 1, none⟩ = some (.int .i64 e.n.v) := hc 1 (by omega)
  have c2 : w1.cell? ⟨sb, n * 5 + 2, none⟩ = some (.int .u32 e.n.lo) := hc 2 (by omega)
  have c3 : w1.cell? ⟨sb, n * 5 + 3, none⟩ = some (.int .u32 e.n.hi) := hc 3 (by omega)
  have g1 := hst.blk.cell 1
  have hi0 : (0 : Int) ≤ n := by omega
  have hi1 : (n : Int) < es.length := by omega
  have hn0 : ¬ (n : Int) < 0 := by omega
  have x0 := hX.cell 0
  have x1 := hX.cell 1
  have x2 := hX.cell 2
  have f0 := hX.free 0
  have f1 := hX.free 1
  have f2 := hX.free 2
  simp at x0 x1 x2 g1
  have HX := Lib.hid hX
  clear hX hst hc
  go_wp2
  obtain ⟨W, hW, y0, y1, y2, hS⟩ := docGet_end HX.out hs1 (Nat.le_refl _) (.int .i64 e.n.v) (.int .u32 e.n.lo) (.int .u32 e.n.hi)
  rw [← hW]
  refine bodyPost_ret (v := .tuple #[e.n.val, .int .i64 0]) ?_ rfl ⟨rfl, hS⟩
  simp [results, Try.results29, go_sem, Nd.val, y0, y1, y2]
set_option maxHeartbeats 1000000 in
theorem RSt.setB (h : RSt w d pl es B D) (r : Int) (n : Nd) (hc : rnode es n ≠ 0) :
    Calls Try.prog 30 #[.pointer (some ⟨d, 0, none⟩), .int .u32 r, n.val] w fun e w' => e = .returned (.int .i64 (rnode es n)) ∧ Same w w' := by
  have H := Lib.hid h
  have hc' : (rnode es n != 0) = true := by simpa using hc
  clear h hc
  unfold Nd.val
  go_enter Try.func30, Try.ntmps30
  go_wp2_with (fail)
  refine call_world fun w1 hw1 => ?_
  have hs1 : Same w w1 := by rw [hw1]; exact (Frm.refl _ _).alloc _
  clear hw1
  refine ((H.out.frm hs1 (fun _ _ => id)).node n).mono ?_
  rintro e w2 ⟨rfl, hs2⟩
  go_wp2
  go_ret
  exact ⟨rfl, hs1.trans hs2 (fun _ _ h => h)⟩
set_option maxHeartbeats 1000000 in
theorem RSt.setN (h : RSt w d pl es B D) (r : Int) (n : Nd) (hc : rnode es n = 0) (hf : fndI es r = -1) :
    Calls Try.prog 30 #[.pointer (some ⟨d, 0, none⟩), .int .u32 r, n.val] w fun e w' => e = .returned (.int .i64 3) ∧ Same w w' := by
  have H := Lib.hid h
  have HC := Lib.hid hc
  have HF := Lib.hid hf
  clear h hc hf
  unfold Nd.val
  go_enter Try.func30, Try.ntmps30
  go_wp2_with (fail)
  refine call_world fun w1 hw1 => ?_
  have hs1 : Same w w1 := by rw [hw1]; exact (Frm.refl _ _).alloc _
  clear hw1
  refine ((H.out.frm hs1 (fun _ _ => id)).node n).mono ?_
  rintro e w2 ⟨rfl, hs2⟩
  rw [HC.out]
  have hs := hs1.trans hs2 (fun _ _ h => h)
  go_wp2_with (fail)
  refine ((H.out.frm hs (fun _ _ => id)).find r).mono ?_
  rintro e w3 ⟨rfl, rfl⟩
  rw [HF.out]
  go_wp2
  go_ret
  exact ⟨rfl, hs⟩
end
end Go.Proofs.Ytkajgopkdolhcaa
