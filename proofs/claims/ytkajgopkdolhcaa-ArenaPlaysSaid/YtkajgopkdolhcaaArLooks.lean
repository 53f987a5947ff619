/- The book's look at all places that were answered. -/
import Derived.Test.YtkajgopkdolhcaaArBook
import Derived.Test.YtkajgopkdolhcaaArAwake
namespace Go.Proofs.Ytkajgopkdolhcaa
open Go.RowKit Go.Tk

section
variable {w : World} {bb g d : Nat} {pl us : Int} {ls : List Pl} {fr : List Int} {es : List Pe} {S : Nat → Prop} {ks : List Int} {KA : Option Addr} {KC : Nat}
set_option maxRecDepth 100000 in
set_option maxHeartbeats 2000000 in
theorem BkC.looks (h : BkC w bb g d pl us ls fr es S ks KA KC) (l : ALnk pl us ls fr es) (hk : ks.length ≤ 1000000) :
    Calls Try.prog 15 #[.pointer (some ⟨bb, 0, none⟩)] w fun e w' => e = .returned (.bool true) ∧ Same w w' := by
  have b2 := h.blk.cell 2
  have hbb := h.blk.lt
  simp at b2
  have H := Lib.hid h
  clear h
  go_enter Try.func15, Try.ntmps15
  go_wp2
  go_loopw [18] (fun i wr => ∃ m : Nat, m ≤ ks.length ∧ i = .int .i64 m ∧ Same w wr) (fun i _ => ks.length - (intOf i).toNat)
  case atStart => exact ⟨0, by omega, rfl, Frm.refl _ _⟩
  case round =>
    obtain ⟨m, hm, rfl, hsr⟩ := hrel
    by_cases hlt : m < ks.length
    · obtain ⟨r, hr⟩ : ∃ r, ks[m]? = some r := ⟨_, List.getElem?_eq_getElem hlt⟩
      have h := H.out.same hsr
      have hrb := h.kb r (List.mem_of_getElem? hr)
      obtain ⟨sb, rfl, hsb, hc⟩ := h.own.at1 hr
      unfold rc at hc
      obtain ⟨n, e, hg1, hg2⟩ := get_duo (g := g) (d := d) l r hrb.1 hrb.2
      obtain ⟨c, f, hc1, hc2⟩ := count_duo (g := g) (d := d) l r hrb.1 hrb.2
      have b0 := h.blk.cell 0
      have b1 := h.blk.cell 1
      have hbr := h.blk.lt
      simp at b0 b1
      have HR := Lib.hid h
      have G1 := Lib.hid hg1
      have G2 := Lib.hid hg2
      have C1 := Lib.hid hc1
      have C2 := Lib.hid hc2
      have HS := Lib.hid hsr
      have hi0 : (0 : Int) ≤ m := by omega
      have hi1 : (m : Int) < ks.length := by omega
      clear h hg1 hg2 hc1 hc2 hsr hr
      go_wp2_with (fail)
      refine (G1.out _ S HR.out.du).mono ?_
      rintro x w1 ⟨rfl, hs1⟩
      have h1 := HR.out.same hs1
      have d1 := h1.blk.cell 1
      have hb1 := h1.blk.lt
      simp at d1
      have H1 := Lib.hid h1
      have HS1 := Lib.hid hs1
      clear h1 hs1 b0 b1 hbr hc
      unfold Nd.val
      go_wp2_with (fail)
      refine call_world fun w2 hw2 => ?_
      have hX : Blk w2 w1.heap.size 34 #[.int .i64 n.v, .int .u32 n.lo, .int .u32 n.hi] := by rw [hw2]; exact Blk.new _ _ _
      have hs2 : Same wr w2 := by rw [hw2]; exact HS1.out.alloc _
      clear hw2
      refine (G2.out _ S (HR.out.du.same hs2)).mono ?_
      rintro x w3 ⟨rfl, hs3⟩
      have hX3 := hX.frm hs3 id
      have hs3' : Same wr w3 := hs2.trans hs3 (fun _ _ h => h)
      have h3 := HR.out.same hs3'
      have e0 := h3.blk.cell 0
      have hb3 := h3.blk.lt
      simp at e0
      generalize w1.heap.size = g5 at *
      have HX3 := Lib.hid hX3
      have HS3 := Lib.hid hs3'
      clear hX hX3 hs2 hs3 hs3' h3 d1 hb1 H1 HS1
      unfold Nd.val
      go_wp2_with (fail)
      refine call_world fun w4 hw4 => ?_
      have hY : Blk w4 w3.heap.size 34 #[.int .i64 n.v, .int .u32 n.lo, .int .u32 n.hi] := by rw [hw4]; exact Blk.new _ _ _
      have hs4 : Same w3 w4 := by rw [hw4]; exact (Frm.refl _ _).alloc _
      clear hw4
      refine (C1.out _ S (HR.out.du.same (HS3.out.trans hs4 (fun _ _ h => h)))).mono ?_
      rintro x w5 ⟨rfl, rfl⟩
      have hX4 := HX3.out.frm hs4 id
      have hsw : Same wr w4 := HS3.out.trans hs4 (fun _ _ h => h)
      have h4 := HR.out.same hsw
      have e1 := h4.blk.cell 1
      have hb4 := h4.blk.lt
      simp at e1
      have x0 := hX4.cell 0
      have x1 := hX4.cell 1
      have x2 := hX4.cell 2
      have y0 := hY.cell 0
      have y1 := hY.cell 1
      have y2 := hY.cell 2
      have hxl := hX4.lt
      have hyl := hY.lt
      simp at x0 x1 x2 y0 y1 y2
      generalize w3.heap.size = g7 at *
      have HS4 := Lib.hid hsw
      have D4 := Lib.hid h4.du
      clear hX4 hY hs4 hsw h4 HX3 HS3 e0 hb3
      go_wp2_with (fail)
      refine (C2.out _ S D4.out).mono ?_
      rintro x w5 ⟨rfl, rfl⟩
      have hnn : (binOp .neq 34 (.agg #[.int .i64 n.v, .int .u32 n.lo, .int .u32 n.hi]) (.agg #[.int .i64 n.v, .int .u32 n.lo, .int .u32 n.hi])).run Try.prog w4 = .ok (.bool false) w4 := by
        have := neq_nd n n w4
        simpa [Nd.val] using this
      go_wp2
      go_roundw
      case rel => exact ⟨m + 1, by omega, by go_num, HS.out.trans HS4.out (fun _ _ h => h)⟩
      case measure => simp [intOf]; omega
    · obtain rfl : m = ks.length := by omega
      go_wp2
      go_ret
      exact ⟨rfl, hsr⟩
end
end Go.Proofs.Ytkajgopkdolhcaa
