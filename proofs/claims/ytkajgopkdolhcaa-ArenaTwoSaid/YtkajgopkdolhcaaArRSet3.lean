/- The contracts of the reference's DocSet where it puts the node, and of DocNew. -/
import Derived.Test.YtkajgopkdolhcaaArRSet2
namespace Go.Proofs.Ytkajgopkdolhcaa
open Go.RowKit Go.Tk

section
variable {w : World} {d : Nat} {pl : Int} {es : List Pe} {B : Option Addr} {D : Nat}
theorem RSt.setNode {sb n : Nat} {e : Pe} (h : RSt w d pl es (some ⟨sb, 0, none⟩) D) (he : es[n]? = some e) (x : Nd) :
    RSt (((w.setCell ⟨sb, n * 5 + 1, none⟩ (.int .i64 x.v)).setCell ⟨sb, n * 5 + 2, none⟩ (.int .u32 x.lo)).setCell ⟨sb, n * 5 + 3, none⟩ (.int .u32 x.hi)) d pl (es.set n ⟨e.r, x, e.c⟩) (some ⟨sb, 0, none⟩) D ∧
      Frm (RFp d (some ⟨sb, 0, none⟩)) w (((w.setCell ⟨sb, n * 5 + 1, none⟩ (.int .i64 x.v)).setCell ⟨sb, n * 5 + 2, none⟩ (.int .u32 x.lo)).setCell ⟨sb, n * 5 + 3, none⟩ (.int .u32 x.hi)) := by
  have hr := lt_of_get he
  obtain ⟨a1, f1⟩ := h.setOne (j := 1) (e' := ⟨e.r, ⟨x.v, e.n.lo, e.n.hi⟩, e.c⟩) (u := .int .i64 x.v) he (by omega) rfl
  obtain ⟨a2, f2⟩ := a1.setOne (j := 2) (n := n) (e := ⟨e.r, ⟨x.v, e.n.lo, e.n.hi⟩, e.c⟩) (e' := ⟨e.r, ⟨x.v, x.lo, e.n.hi⟩, e.c⟩) (u := .int .u32 x.lo) (by rw [List.getElem?_set_self hr]) (by omega) rfl
  obtain ⟨a3, f3⟩ := a2.setOne (j := 3) (n := n) (e := ⟨e.r, ⟨x.v, x.lo, e.n.hi⟩, e.c⟩) (e' := ⟨e.r, ⟨x.v, x.lo, x.hi⟩, e.c⟩) (u := .int .u32 x.hi) (by rw [List.getElem?_set_self (by simpa using hr)]) (by omega) rfl
  rw [List.set_set, List.set_set] at a3
  exact ⟨a3, (f1.trans f2 (fun _ _ h => h)).trans f3 (fun _ _ h => h)⟩
set_option maxRecDepth 100000 in
set_option maxHeartbeats 2000000 in
theorem RSt.setS (h : RSt w d pl es B D) (r : Int) (x : Nd) {n : Nat} {e : Pe} (hc : rnode es x = 0) (hf : fndI es r = n) (he : es[n]? = some e) :
    Calls Try.prog 30 #[.pointer (some ⟨d, 0, none⟩), .int .u32 r, x.val] w fun e' w' => e' = .returned (.int .i64 0) ∧ RSt w' d pl (es.set n ⟨e.r, x, e.c⟩) B D ∧ Frm (RFp d B) w w' := by
  have H := Lib.hid h
  have HC := Lib.hid hc
  have HF := Lib.hid hf
  have HE := Lib.hid he
  have hlt := lt_of_get he
  clear h hc hf he
  unfold Nd.val
  go_enter Try.func30, Try.ntmps30
  go_wp2_with (fail)
  refine call_world fun w1 hw1 => ?_
  have hs1 : Same w w1 := by rw [hw1]; exact (Frm.refl _ _).alloc _
  have hX := Blk.new w 34 #[.int .i64 x.v, .int .u32 x.lo, .int .u32 x.hi]
  rw [← hw1] at hX
  clear hw1
  refine ((H.out.frm hs1 (fun _ _ => id)).node x).mono ?_
  rintro e' w2 ⟨rfl, hs2⟩
  rw [HC.out]
  have hs := hs1.trans hs2 (fun _ _ h => h)
  have hX2 := hX.frm hs2 id
  go_wp2_with (fail)
  refine ((H.out.frm hs (fun _ _ => id)).find r).mono ?_
  rintro e' w3 ⟨rfl, rfl⟩
  rw [HF.out]
  have hst := H.out.frm hs (fun _ _ => id)
  obtain ⟨sb, rfl, hsb, hcc⟩ := hst.own.get Pe.cells_len HE.out
  have x0 := hX2.cell 0
  have x1 := hX2.cell 1
  have x2 := hX2.cell 2
  have g1 := hst.blk.cell 1
  have hg := hst.blk.lt
  have hx := hX2.lt
  have c1 : w2.cell? ⟨sb, n * 5 + 1, none⟩ = some (.int .i64 e.n.v) := hcc 1 (by omega)
  have c2 : w2.cell? ⟨sb, n * 5 + 2, none⟩ = some (.int .u32 e.n.lo) := hcc 2 (by omega)
  have c3 : w2.cell? ⟨sb, n * 5 + 3, none⟩ = some (.int .u32 e.n.hi) := hcc 3 (by omega)
  have k1 := hst.own.free (n * 5 + 1)
  have k2 := hst.own.free (n * 5 + 2)
  have k3 := hst.own.free (n * 5 + 3)
  have hi0 : (0 : Int) ≤ n := by omega
  have hi1 : (n : Int) < es.length := by omega
  have hn0 : ¬ (n : Int) < 0 := by omega
  simp at x0 x1 x2 g1
  have HST := Lib.hid hst
  have HS := Lib.hid hs
  clear hst hcc hX hX2 hs hs1 hs2
  go_wp2_with (fail)
  refine wp_quiet_tail 8 (by kernel_rfl) (by kernel_rfl) ?_
  simp only [List.take_succ_cons, List.take_zero, List.drop_succ_cons, List.drop_zero]
  repeat (any_goals (first | go_big_quiet_step (fail) | quiet_step (fail)))
  all_goals (refine wpQuiet_nil ?_; rintro _ ⟨q, rfl⟩)
  go_wp2
  go_ret
  have hq := more_same w2 q
  obtain ⟨a, f⟩ := (HST.out.frm hq (fun _ _ => id)).setNode HE.out x
  exact ⟨rfl, a, ((HS.out.trans hq (fun _ _ h => h)).mono (fun _ _ h => h.elim)).trans f (fun _ _ h => h)⟩
end
set_option maxHeartbeats 1000000 in
theorem rnew_bad (p : Int) (w : World) (h : p < 2 ∨ 1048576 < p) : Calls Try.prog 24 #[.int .i64 p] w fun e w' => e = .returned (.tuple #[.pointer none, .int .i64 1]) ∧ w = w' := by
  by_cases h1 : p < 2
  · go_enter Try.func24, Try.ntmps24
    go_wp2_with (fail)
    go_ret2
    exact ⟨rfl, rfl⟩
  · have h2 : (1048576 : Int) < p := by omega
    go_enter Try.func24, Try.ntmps24
    go_wp2_with (fail)
    go_ret2
    exact ⟨rfl, rfl⟩
set_option maxHeartbeats 1000000 in
theorem rnew_ok (p : Int) (w : World) (h1 : ¬ p < 2) (h2 : ¬ (1048576 : Int) < p) : Calls Try.prog 24 #[.int .i64 p] w fun e w' => e = .returned (.tuple #[.pointer (some ⟨w.heap.size, 0, none⟩), .int .i64 0]) ∧ RSt w' w.heap.size p [] none 0 ∧ Same w w' := by
  go_enter Try.func24, Try.ntmps24
  go_wp2_with (fail)
  go_ret2
  exact ⟨rfl, ⟨Blk.new w _ _, Own.nil _ _ _ _, by simp⟩, (Frm.refl _ _).alloc _⟩
end Go.Proofs.Ytkajgopkdolhcaa
