/- The arena's laws: fresh, and the walks of ArenaPlays and ArenaTwo. -/
import Derived.Test.YtkajgopkdolhcaaArOne
namespace Go.Proofs.Ytkajgopkdolhcaa
open Go.RowKit Go.Tk

abbrev aopKs : List Leaf := [.int .i64, .int .i64, .int .i64, .int .i64, .int .i64, .int .i64, .bool]
theorem aop_of {w : World} (l : List Value) (h : CellsOk w aopKs l) : ∃ o : AOp, l = o.cells := by
  simp only [CellsOk, CellOk] at h
  obtain ⟨v0, l0, rfl, ⟨n0, rfl, _⟩, v1, l1, rfl, ⟨n1, rfl, _⟩, v2, l2, rfl, ⟨n2, rfl, _⟩, v3, l3, rfl, ⟨n3, rfl, _⟩, v4, l4, rfl, ⟨n4, rfl, _⟩, v5, l5, rfl, ⟨n5, rfl, _⟩, v6, l6, rfl, ⟨n6, rfl⟩, rfl⟩ := h
  exact ⟨⟨n0, n1, n2, n3, n4, n5, n6⟩, rfl⟩
theorem aop_cells {w : World} {A : Option Addr} {n m : Nat} {xs : List AOp} {o : AOp} (h : Sl w 7 AOp.cells A n xs) (ho : xs[m]? = some o) : ∃ sb off, A = some ⟨sb, off, none⟩ ∧ sb < w.heap.size ∧
    w.cell? ⟨sb, off + m * 7, none⟩ = some (.int .i64 o.kind) ∧ w.cell? ⟨sb, off + m * 7 + 1, none⟩ = some (.int .i64 o.r) ∧ w.cell? ⟨sb, off + m * 7 + 2, none⟩ = some (.int .i64 o.lo) ∧
    w.cell? ⟨sb, off + m * 7 + 3, none⟩ = some (.int .i64 o.hi) ∧ w.cell? ⟨sb, off + m * 7 + 4, none⟩ = some (.int .i64 o.v) ∧ w.cell? ⟨sb, off + m * 7 + 5, none⟩ = some (.int .i64 o.times) ∧ w.cell? ⟨sb, off + m * 7 + 6, none⟩ = some (.bool o.raw) := by
  obtain ⟨sb, off, hA, hsb, hc⟩ := h.get m o ho
  exact ⟨sb, off, hA, hsb, hc 0 (by omega), hc 1 (by omega), hc 2 (by omega), hc 3 (by omega), hc 4 (by omega), hc 5 (by omega), hc 6 (by omega)⟩
theorem Bk.looks {w : World} {bb K : Nat} {pl : Int} {T : Nat → Prop} (h : Bk w bb pl K T) (hK : K ≤ 1000) :
    Calls Try.prog 15 #[.pointer (some ⟨bb, 0, none⟩)] w fun e w' => e = .returned (.bool true) ∧ Same w w' := by
  obtain ⟨g, d, us, ls, fr, es, S, ks, KA, KC, hb, l, hks, hT⟩ := h
  exact hb.looks l (by omega)

set_option maxHeartbeats 1000000 in
theorem fresh_bad (p : Int) (w : World) (h : p < 2 ∨ 1048576 < p) :
    Calls Try.prog 13 #[.int .i64 p] w fun e w' => e = .returned (.tuple #[.pointer none, .bool true]) ∧ w = w' := by
  go_enter Try.func13, Try.ntmps13
  go_wp2_with (fail)
  refine (new_bad p w h).mono ?_
  rintro e w1 ⟨rfl, rfl⟩
  go_wp2_with (fail)
  refine (rnew_bad p w h).mono ?_
  rintro e w1 ⟨rfl, rfl⟩
  clear h
  go_wp2
  go_ret2
  exact ⟨rfl, rfl⟩
set_option maxHeartbeats 1000000 in
theorem fresh_ok (p : Int) (w : World) (h1 : ¬ p < 2) (h2 : ¬ (1048576 : Int) < p) :
    Calls Try.prog 13 #[.int .i64 p] w fun e w' => ∃ (bb : Nat) (T : Nat → Prop), e = .returned (.tuple #[.pointer (some ⟨bb, 0, none⟩), .bool true]) ∧ Bk w' bb p 0 T ∧ Same w w' ∧ ∀ b, T b → w.heap.size ≤ b := by
  go_enter Try.func13, Try.ntmps13
  go_wp2_with (fail)
  refine (new_ok p w (by omega) (by omega)).mono ?_
  rintro e w1 ⟨rfl, A, C, ha, hs1, hA⟩
  go_wp2_with (fail)
  refine (rnew_ok p w1 (by omega) (by omega)).mono ?_
  rintro e w2 ⟨rfl, hr, hs2⟩
  have hs2' : Same w w2 := hs1.trans hs2 (fun _ _ h => h)
  have ha2 := ha.frm hs2 (fun _ _ => id)
  have hz : w.heap.size < w1.heap.size := ha.blk.lt
  have hz2 : w1.heap.size < w2.heap.size := hr.blk.lt
  have hN := Blk.new w2 30 #[.int .u32 0, .int .u32 1]
  have hO := Own.lit w2 30 (fun x => [rc x]) (fun _ => rfl) [0, 1] (by unfold maxLen; simp) (cs := #[.int .u32 0, .int .u32 1]) rfl
  have hfin : ∀ w3, w3 = (w2.alloc (.cells #[.int .u32 0, .int .u32 1] 30)).alloc (.cells #[.pointer (some ⟨w.heap.size, 0, none⟩), .pointer (some ⟨w1.heap.size, 0, none⟩), .slice (some ⟨w2.heap.size, 0, none⟩) 2 2] 63) →
      ∃ T, Bk w3 (w2.heap.size + 1) p 0 T ∧ Same w w3 ∧ ∀ b, T b → w.heap.size ≤ b := by
    intro w3 hw3
    have hs3 : Same w2 w3 := by rw [hw3]; exact ((Frm.refl _ _).alloc _).alloc _
    have hs3' : Same (w2.alloc (.cells #[.int .u32 0, .int .u32 1] 30)) w3 := by rw [hw3]; exact (Frm.refl _ _).alloc _
    have hB := Blk.new (w2.alloc (.cells #[.int .u32 0, .int .u32 1] 30)) 63 #[.pointer (some ⟨w.heap.size, 0, none⟩), .pointer (some ⟨w1.heap.size, 0, none⟩), .slice (some ⟨w2.heap.size, 0, none⟩) 2 2]
    rw [← hw3] at hB
    simp only [World.size_alloc] at hB
    have hS : ∀ b, (AFp w.heap.size A none b ∨ RFp w1.heap.size none b) → w.heap.size ≤ b ∧ b < w2.heap.size := by
      intro b hb
      have hlt : b < w2.heap.size := by
        rcases hb with h | h
        · exact ha2.lt b h
        · exact hr.lt b h
      refine ⟨?_, hlt⟩
      rcases hb with (h | h | h) | (h | h)
      · omega
      · exact hA b h
      · obtain ⟨a, ha, _⟩ := h; cases ha
      · omega
      · obtain ⟨a, ha, _⟩ := h; cases ha
    refine ⟨_, ⟨w.heap.size, w1.heap.size, 2, l01, [], [], (fun b => AFp w.heap.size A none b ∨ RFp w1.heap.size none b), [0, 1], some ⟨w2.heap.size, 0, none⟩, 2, ⟨hB, ?_, hO.frm hs3' (fun _ _ => id), ?_, ?_, ?_, by simp⟩, ALnk.start (by omega) (by omega), by simp, fun _ => Iff.rfl⟩, hs2'.trans hs3 (fun _ _ h => h), ?_⟩
    · exact ⟨A, C, none, 0, none, 0, ha2.frm hs3 (fun _ _ => id), hr.frm hs3 (fun _ _ => id), fun _ => Iff.rfl⟩
    · rintro b ⟨a, ha, rfl⟩ hb
      injection ha with ha
      subst ha
      have := (hS _ hb).2
      simp at this
    · intro hb
      have := (hS _ hb).2
      omega
    · intro r hr
      simp at hr
      rcases hr with rfl | rfl <;> omega
    · rintro b (h | h | h)
      · omega
      · obtain ⟨a, ha, rfl⟩ := h
        injection ha with ha
        subst ha
        simp only
        omega
      · exact (hS b h).1
  have HF := Lib.hid hfin
  clear hfin hN hO ha ha2 hr hs1 hs2 hs2' hA hz hz2
  go_wp2
  go_ret2
  obtain ⟨T, a1, a2, a3⟩ := HF.out _ rfl
  exact ⟨_, T, by simp, a1, a2, a3⟩

set_option maxRecDepth 100000 in
set_option maxHeartbeats 2000000 in
theorem plays_walk (p : Int) (A : Option Addr) (n c : Nat) (ops : List AOp) (w : World) (hs : Sl w 7 AOp.cells A n ops) (hr : n * 56 ≤ 140737488351232) :
    Calls Try.prog 4 #[.int .i64 p, .slice A n c] w fun e w' => e = .returned (.bool true) ∧ Below w.heap.size w w' := by
  obtain rfl := hs.len
  have HS := Lib.hid hs
  clear hs
  go_enter Try.func4, Try.ntmps4
  go_wp2_with (fail)
  by_cases hp : p < 2 ∨ 1048576 < p
  · refine (fresh_bad p w hp).mono ?_
    rintro e w1 ⟨rfl, rfl⟩
    clear hp
    go_wp2_with (fail)
    refine (awake_any w).mono ?_
    rintro e w2 ⟨rfl, hs2⟩
    go_wp2_with (fail)
    refine (awake_any w2).mono ?_
    rintro e w3 ⟨rfl, hs3⟩
    have HS3 := Lib.hid (hs2.trans hs3 (fun _ _ h => h))
    go_wp2
    go_ret
    exact ⟨rfl, HS3.out.to_below (Nat.le_refl _) (fun _ _ => id)⟩
  · refine (fresh_ok p w (by omega) (by omega)).mono ?_
    rintro e w1 ⟨bb, T0, rfl, hB0, hs1, hT0⟩
    clear hp
    go_wp2_with (fail)
    refine (awake_any w1).mono ?_
    rintro e w2 ⟨rfl, hs2⟩
    have hB2 := hB0.frm hs2 (fun _ _ => id)
    have hb0 : Below w.heap.size w w2 := (hs1.trans hs2 (fun _ _ h => h)).to_below (Nat.le_refl _) (fun _ _ => id)
    clear hB0 hs1 hs2
    go_wp2_with (fail)
    go_loopw [30] (fun i wr => ∃ (m K : Nat) (T : Nat → Prop), m ≤ ops.length ∧ i = .int .i64 m ∧ K ≤ m ∧ K ≤ 300 ∧ Bk wr bb p K T ∧ Below w.heap.size w wr ∧ ∀ b, T b → w.heap.size ≤ b) (fun i _ => ops.length - (intOf i).toNat)
    case atStart => exact ⟨0, 0, _, by omega, rfl, by omega, by omega, hB2, hb0, hT0⟩
    case round =>
      clear hB2 hT0 hb0
      obtain ⟨m, K, T, hm, rfl, hKm, hK3, hBr, hbr, hTr⟩ := hrel
      by_cases hlt : m < ops.length
      · obtain ⟨o, ho⟩ : ∃ o, ops[m]? = some o := ⟨_, List.getElem?_eq_getElem hlt⟩
        obtain ⟨sb, off, rfl, hsb, l0, l1, l2, l3, l4, l5, l6⟩ := aop_cells (HS.out.later hbr) ho
        have hi0 : (0 : Int) ≤ m := by omega
        have hi1 : (m : Int) < ops.length := by omega
        have HB := Lib.hid hBr
        have HBL := Lib.hid hbr
        have HT := Lib.hid hTr
        clear ho hBr hbr hTr
        by_cases hm3 : m < 300
        · have hi3 : (m : Int) < 300 := by omega
          go_wp2_with (fail)
          refine call_world fun v1 hv1 => ?_
          have ha1 : Same wr v1 := by rw [hv1]; exact (Frm.refl _ _).alloc _
          clear hv1 l0 l1 l2 l3 l4 l5 l6
          have hcall := one_any o (HB.out.frm ha1 (fun _ _ => id)) (by omega)
          unfold AOp.val at hcall
          refine hcall.mono ?_
          rintro e v2 ⟨rfl, T2, hB2, hst⟩
          clear hcall
          have hz1 := ha1.size
          have hzb := HBL.out.size
          have hb3 : Below w.heap.size w v2 := HBL.out.trans (((ha1.mono (S' := T) (fun _ _ h => h.elim)).trans hst.frm (fun _ _ h => h)).to_below hzb (fun i hi h => by have := HT.out i h; omega))
          have hT3 : ∀ b, T2 b → w.heap.size ≤ b := by
            intro b hb
            rcases hst.new b hb with h | h
            · exact HT.out b h
            · omega
          have HB3 := Lib.hid hB2
          clear hB2 hst ha1 HBL HB HT hz1 hzb
          go_wp2
          go_roundw
          case rel => exact ⟨m + 1, K + 1, T2, by omega, by go_num, by omega, by omega, HB3.out, hb3, hT3⟩
          case measure => simp [intOf]; omega
        · have hi3 : ¬ (m : Int) < 300 := by omega
          have ha : Same wr (wr.alloc (.cells #[.int .i64 o.kind, .int .i64 o.r, .int .i64 o.lo, .int .i64 o.hi, .int .i64 o.v, .int .i64 o.times, .bool o.raw] 45)) := (Frm.refl _ _).alloc _
          have HB3 := Lib.hid (HB.out.frm ha (fun _ _ => id))
          have HBL3 := Lib.hid (HBL.out.trans (ha.to_below HBL.out.size (fun _ _ => id)))
          clear ha HB HBL
          go_wp2
          go_roundw
          case rel => exact ⟨m + 1, K, T, by omega, by go_num, by omega, by omega, HB3.out, HBL3.out, HT.out⟩
          case measure => simp [intOf]; omega
      · obtain rfl : m = ops.length := by omega
        have HB := Lib.hid hBr
        clear hTr hBr
        go_wp2_with (fail)
        refine (HB.out.looks (by omega)).mono ?_
        rintro e v1 ⟨rfl, ha⟩
        have HBL := Lib.hid (hbr.trans (ha.to_below hbr.size (fun _ _ => id)))
        clear hbr ha
        go_wp2
        go_ret
        exact ⟨rfl, HBL.out⟩
end Go.Proofs.Ytkajgopkdolhcaa
