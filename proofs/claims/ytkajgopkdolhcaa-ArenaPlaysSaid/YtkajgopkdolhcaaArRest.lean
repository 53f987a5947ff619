/- The contracts of the arena's New, Used, Places and Get. -/
import Derived.Test.YtkajgopkdolhcaaArPush
namespace Go.Proofs.Ytkajgopkdolhcaa
open Go.RowKit Go.Tk

section
variable {w : World} {g : Nat} {pl us : Int} {ls : List Pl} {fr : List Int} {A : Option Addr} {C : Nat} {A' : Option Addr} {C' : Nat}
set_option maxHeartbeats 400000 in
theorem ASt.used (h : ASt w g pl us ls fr A C A' C') : Calls Try.prog 10 #[.pointer (some ⟨g, 0, none⟩)] w fun e w' => e = .returned (.int .i64 us) ∧ w = w' := by
  have h3 := h.blk.cell 3
  simp at h3
  clear h
  go_enter Try.func10, Try.ntmps10
  go_wp2
  go_ret
  exact ⟨rfl, rfl⟩
set_option maxHeartbeats 400000 in
theorem ASt.places (h : ASt w g pl us ls fr A C A' C') : Calls Try.prog 20 #[.pointer (some ⟨g, 0, none⟩)] w fun e w' => e = .returned (.int .i64 pl) ∧ w = w' := by
  have h3 := h.blk.cell 0
  simp at h3
  clear h
  go_enter Try.func20, Try.ntmps20
  go_wp2
  go_ret
  exact ⟨rfl, rfl⟩
end
def zNd : Nd := ⟨0, 0, 0⟩
/-- the node at a place, and the error -/
def getN (ls : List Pl) (r : Int) : Nd := match ls[r.toNat]? with | some p => if p.t then p.n else zNd | none => zNd
def getE (ls : List Pl) (r : Int) : Int := if tk ls r then 0 else 3
section
variable {w : World} {g : Nat} {pl us : Int} {ls : List Pl} {fr : List Int} {A : Option Addr} {C : Nat} {A' : Option Addr} {C' : Nat}
set_option maxHeartbeats 1000000 in
theorem ASt.get (h : ASt w g pl us ls fr A C A' C') (r : Int) (hr0 : 0 ≤ r) (hr1 : r < 4294967296) :
    Calls Try.prog 12 #[.pointer (some ⟨g, 0, none⟩), .int .u32 r] w fun e w' => e = .returned (.tuple #[(getN ls r).val, .int .i64 (getE ls r)]) ∧ Same w w' := by
  have H := Lib.hid h
  clear h
  cases ht : tk ls r with
  | false =>
    have HT := Lib.hid ht
    clear ht
    go_enter Try.func12, Try.ntmps12
    go_wp2_with (fail)
    refine call_world fun w1 hw1 => ?_
    have hs1 : Same w w1 := by rw [hw1]; exact (Frm.refl _ _).alloc _
    have hX := Blk.new w 34 #[.int .i64 0, .int .u32 0, .int .u32 0]
    rw [← hw1] at hX
    clear hw1
    refine ((H.out.frm hs1 (fun _ _ => id)).taken r hr0 hr1).mono ?_
    rintro e w2 ⟨rfl, rfl⟩
    rw [HT.out]
    have x0 := hX.cell 0
    have x1 := hX.cell 1
    have x2 := hX.cell 2
    have f0 := hX.free 0
    have f1 := hX.free 1
    have f2 := hX.free 2
    simp at x0 x1 x2
    have HX := Lib.hid hX
    clear hX
    go_wp2
    refine bodyPost_ret (v := .tuple #[(getN ls r).val, .int .i64 (getE ls r)]) ?_ rfl ⟨rfl, ?_⟩
    · have hn : getN ls r = zNd := by
        have := HT.out
        unfold tk at this
        unfold getN
        cases h : ls[r.toNat]? with
        | none => rfl
        | some p => rw [h] at this; simp only at this ⊢; rw [this]; rfl
      have he : getE ls r = 3 := by unfold getE; rw [HT.out]; rfl
      rw [hn, he]
      have hY := ((HX.out.set 0 (.int .i64 0)).set 1 (.int .u32 0)).set 2 (.int .u32 0)
      generalize ((w1.setCell ⟨w.heap.size, 0, none⟩ (.int .i64 0)).setCell ⟨w.heap.size, 1, none⟩ (.int .u32 0)).setCell ⟨w.heap.size, 2, none⟩ (.int .u32 0) = W at hY ⊢
      have y0 := hY.cell 0
      have y1 := hY.cell 1
      have y2 := hY.cell 2
      simp at y0 y1 y2
      simp [results, Try.results12, go_sem, Nd.val, zNd, y0, y1, y2]
    · have hle : w.heap.size ≤ w.heap.size := Nat.le_refl _
      exact ((hs1.setNew _ _ hle).setNew _ _ hle).setNew _ _ hle
  | true =>
    have HT := Lib.hid ht
    obtain ⟨p, hp, hpt⟩ : ∃ p, ls[r.toNat]? = some p ∧ p.t = true := by
      unfold tk at ht
      cases h : ls[r.toNat]? with
      | none => rw [h] at ht; cases ht
      | some p => rw [h] at ht; exact ⟨p, rfl, ht⟩
    clear ht
    obtain ⟨n, rfl⟩ := Int.eq_ofNat_of_zero_le hr0
    rw [Int.toNat_natCast] at hp
    have hlt := lt_of_get hp
    have HP := Lib.hid hp
    have HPT := Lib.hid hpt
    clear hp hpt
    go_enter Try.func12, Try.ntmps12
    go_wp2_with (fail)
    refine call_world fun w1 hw1 => ?_
    have hs1 : Same w w1 := by rw [hw1]; exact (Frm.refl _ _).alloc _
    have hX := Blk.new w 34 #[.int .i64 0, .int .u32 0, .int .u32 0]
    rw [← hw1] at hX
    clear hw1
    have hst := H.out.frm hs1 (fun _ _ => id)
    refine (hst.taken n hr0 hr1).mono ?_
    rintro e w2 ⟨rfl, rfl⟩
    rw [HT.out]
    obtain ⟨sb, rfl, hsb, hc⟩ := hst.own.get Pl.cells_len HP.out
    have c0 : w1.cell? ⟨sb, n * 5, none⟩ = some (.int .i64 p.n.v) := hc 0 (by omega)
    have c1 : w1.cell? ⟨sb, n * 5 + 1, none⟩ = some (.int .u32 p.n.lo) := hc 1 (by omega)
    have c2 : w1.cell? ⟨sb, n * 5 + 2, none⟩ = some (.int .u32 p.n.hi) := hc 2 (by omega)
    have g1 := hst.blk.cell 1
    have hi1 : (n : Int) < ls.length := by omega
    have x0 := hX.cell 0
    have x1 := hX.cell 1
    have x2 := hX.cell 2
    have f0 := hX.free 0
    have f1 := hX.free 1
    have f2 := hX.free 2
    simp at x0 x1 x2 g1
    have HX := Lib.hid hX
    clear hX hst hc
    go_wp2
    refine bodyPost_ret (v := .tuple #[(getN ls n).val, .int .i64 (getE ls n)]) ?_ rfl ⟨rfl, ?_⟩
    · have hn : getN ls n = p.n := by unfold getN; rw [Int.toNat_natCast, HP.out]; simp [HPT.out]
      have he : getE ls n = 0 := by unfold getE; rw [HT.out]; rfl
      rw [hn, he]
      have hY := ((HX.out.set 0 (.int .i64 p.n.v)).set 1 (.int .u32 p.n.lo)).set 2 (.int .u32 p.n.hi)
      generalize ((w1.setCell ⟨w.heap.size, 0, none⟩ (.int .i64 p.n.v)).setCell ⟨w.heap.size, 1, none⟩ (.int .u32 p.n.lo)).setCell ⟨w.heap.size, 2, none⟩ (.int .u32 p.n.hi) = W at hY ⊢
      have y0 := hY.cell 0
      have y1 := hY.cell 1
      have y2 := hY.cell 2
      simp at y0 y1 y2
      simp [results, Try.results12, go_sem, Nd.val, y0, y1, y2]
    · have hle : w.heap.size ≤ w.heap.size := Nat.le_refl _
      exact ((hs1.setNew _ _ hle).setNew _ _ hle).setNew _ _ hle
end
end Go.Proofs.Ytkajgopkdolhcaa
