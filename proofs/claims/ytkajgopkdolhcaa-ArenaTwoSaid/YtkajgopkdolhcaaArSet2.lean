/- The arena's Set where it puts the node. -/
import Derived.Test.YtkajgopkdolhcaaArSet
namespace Go.Proofs.Ytkajgopkdolhcaa
open Go.RowKit Go.Tk

section
variable {w : World} {g : Nat} {pl us : Int} {ls : List Pl} {fr : List Int} {A : Option Addr} {C : Nat} {A' : Option Addr} {C' : Nat}
theorem ASt.setNode {sb r : Nat} {p : Pl} (h : ASt w g pl us ls fr (some ⟨sb, 0, none⟩) C A' C') (hp : ls[r]? = some p) (n : Nd) :
    ASt (put w sb (r * 5) [.int .i64 n.v, .int .u32 n.lo, .int .u32 n.hi]) g pl us (ls.set r ⟨n, p.t, p.c⟩) fr (some ⟨sb, 0, none⟩) C A' C' ∧ Frm (AFp g (some ⟨sb, 0, none⟩) A') w (put w sb (r * 5) [.int .i64 n.v, .int .u32 n.lo, .int .u32 n.hi]) := by
  have hr := lt_of_get hp
  obtain ⟨a1, f1⟩ := h.setOne (j := 0) (p' := ⟨⟨n.v, p.n.lo, p.n.hi⟩, p.t, p.c⟩) (u := .int .i64 n.v) hp (by omega) rfl
  obtain ⟨a2, f2⟩ := a1.setOne (j := 1) (r := r) (p := ⟨⟨n.v, p.n.lo, p.n.hi⟩, p.t, p.c⟩) (p' := ⟨⟨n.v, n.lo, p.n.hi⟩, p.t, p.c⟩) (u := .int .u32 n.lo) (by rw [List.getElem?_set_self hr]) (by omega) rfl
  obtain ⟨a3, f3⟩ := a2.setOne (j := 2) (r := r) (p := ⟨⟨n.v, n.lo, p.n.hi⟩, p.t, p.c⟩) (p' := ⟨⟨n.v, n.lo, n.hi⟩, p.t, p.c⟩) (u := .int .u32 n.hi) (by rw [List.getElem?_set_self (by simpa using hr)]) (by omega) rfl
  rw [List.set_set, List.set_set] at a3
  exact ⟨a3, (f1.trans f2 (fun _ _ h => h)).trans f3 (fun _ _ h => h)⟩
set_option maxRecDepth 100000 in
set_option maxHeartbeats 2000000 in
theorem set_ok {r : Nat} {p : Pl} (h : ASt w g pl us ls fr A C A' C') (n : Nd) (hr1 : (r : Int) < 4294967296) (hl0 : 0 ≤ n.lo) (hl1 : n.lo < 4294967296) (hh0 : 0 ≤ n.hi) (hh1 : n.hi < 4294967296) (hc : ckN ls n = 0) (ho : ownE ls r = 0) (hp : ls[r]? = some p) :
    Calls Try.prog 17 #[.pointer (some ⟨g, 0, none⟩), .int .u32 r, n.val] w fun e w' => e = .returned (.int .i64 0) ∧ ASt w' g pl us (ls.set r ⟨n, p.t, p.c⟩) fr A C A' C' ∧ Frm (AFp g A A') w w' := by
  have H := Lib.hid h
  have HC := Lib.hid hc
  have HO := Lib.hid ho
  have HP := Lib.hid hp
  have hlt := lt_of_get hp
  clear h hc ho hp
  unfold Nd.val
  go_enter Try.func17, Try.ntmps17
  go_wp2_with (fail)
  refine call_world fun w1 hw1 => ?_
  have hs1 : Same w w1 := by rw [hw1]; exact (Frm.refl _ _).alloc _
  have hX := Blk.new w 34 #[.int .i64 n.v, .int .u32 n.lo, .int .u32 n.hi]
  rw [← hw1] at hX
  clear hw1
  refine ((H.out.frm hs1 (fun _ _ => id)).check n hl0 hl1 hh0 hh1).mono ?_
  rintro e w2 ⟨rfl, hs2⟩
  rw [HC.out]
  have hs := hs1.trans hs2 (fun _ _ h => h)
  have hX2 := hX.frm hs2 id
  go_wp2_with (fail)
  refine ((H.out.frm hs (fun _ _ => id)).ownR r (by omega) hr1).mono ?_
  rintro e w3 ⟨rfl, rfl⟩
  rw [HO.out]
  have hst := H.out.frm hs (fun _ _ => id)
  obtain ⟨sb, rfl, hsb, hcc⟩ := hst.own.get Pl.cells_len HP.out
  have x0 := hX2.cell 0
  have x1 := hX2.cell 1
  have x2 := hX2.cell 2
  have g1 := hst.blk.cell 1
  have hg := hst.blk.lt
  have hx := hX2.lt
  have c0 : w2.cell? ⟨sb, r * 5, none⟩ = some (.int .i64 p.n.v) := hcc 0 (by omega)
  have c1 : w2.cell? ⟨sb, r * 5 + 1, none⟩ = some (.int .u32 p.n.lo) := hcc 1 (by omega)
  have c2 : w2.cell? ⟨sb, r * 5 + 2, none⟩ = some (.int .u32 p.n.hi) := hcc 2 (by omega)
  have k0 := hst.own.free (r * 5)
  have k1 := hst.own.free (r * 5 + 1)
  have k2 := hst.own.free (r * 5 + 2)
  have hi1 : (r : Int) < ls.length := by omega
  simp at x0 x1 x2 g1
  have HST := Lib.hid hst
  have HS := Lib.hid hs
  clear hst hcc hX hX2 hs hs1 hs2
  go_wp2_with (fail)
  refine wp_quiet_tail 8 (by kernel_rfl) (by kernel_rfl) ?_
  simp only [List.take_succ_cons, List.take_zero, List.drop_succ_cons, List.drop_zero]
  repeat (any_goals (first | go_big_quiet_step (fail) | quiet_step (fail)))
  all_goals (refine wpQuiet_nil ?_; rintro _ ⟨q, rfl⟩)
  go_wp2
  go_ret
  have hq := more_same w2 q
  obtain ⟨a, f⟩ := (HST.out.frm hq (fun _ _ => id)).setNode HP.out n
  exact ⟨rfl, a, ((HS.out.trans hq (fun _ _ h => h)).mono (fun _ _ h => h.elim)).trans f (fun _ _ h => h)⟩
end
end Go.Proofs.Ytkajgopkdolhcaa
