/- The contract of the arena's New. -/
import Derived.Test.YtkajgopkdolhcaaArRest
namespace Go.Proofs.Ytkajgopkdolhcaa
open Go.RowKit Go.Tk

def cpl (r : Nat) : Pl := ⟨⟨-1, r, r⟩, true, 255⟩
def l01 : List Pl := [cpl 0, cpl 1]
set_option maxHeartbeats 400000 in
theorem new_bad (p : Int) (w : World) (h : p < 2 ∨ 1048576 < p) :
    Calls Try.prog 8 #[.int .i64 p] w fun e w' => e = .returned (.tuple #[.pointer none, .int .i64 1]) ∧ w = w' := by
  rcases h with h | h
  · go_enter Try.func8, Try.ntmps8
    go_wp2
    go_ret2
    exact ⟨rfl, rfl⟩
  · have h1 : ¬ p < 2 := by omega
    go_enter Try.func8, Try.ntmps8
    go_wp2
    go_ret2
    exact ⟨rfl, rfl⟩
set_option maxHeartbeats 2000000 in
theorem new_ok (p : Int) (w : World) (h1 : ¬ p < 2) (h2 : p ≤ 1048576) :
    Calls Try.prog 8 #[.int .i64 p] w fun e w' => e = .returned (.tuple #[.pointer (some ⟨w.heap.size, 0, none⟩), .int .i64 0]) ∧ ∃ A C, ASt w' w.heap.size p 2 l01 [] A C none 0 ∧ Same w w' ∧ Fresh w.heap.size A := by
  go_enter Try.func8, Try.ntmps8
  go_wp2
  have hb0 := Blk.new w 54 #[.int .i64 p, .slice none 0 0, .slice none 0 0, .int .i64 2]
  have hs0 : Same w (w.alloc (.cells #[.int .i64 p, .slice none 0 0, .slice none 0 0, .int .i64 2] 54)) := (Frm.refl _ _).alloc _
  refine wp_world fun w0 hw0 => ?_
  rw [← hw0] at hb0 hs0
  clear hw0
  go_loopw [15] (fun i wr => ∃ (k : Nat) (A : Option Addr) (C : Nat), k ≤ 2 ∧ i = .int .u32 k ∧ Blk wr w.heap.size 54 #[.int .i64 p, .slice A k C, .slice none 0 0, .int .i64 2] ∧ Own wr 56 5 Pl.cells A k C (l01.take k) ∧ Same w wr ∧ Fresh w.heap.size A) (fun i _ => 2 - (intOf i).toNat)
  case atStart => exact ⟨0, none, 0, by omega, rfl, hb0, Own.nil _ _ _ _, hs0, fresh_none _⟩
  case round =>
    clear hb0 hs0
    obtain ⟨k, A, C, hk, rfl, hB, hO, hS, hA⟩ := hrel
    by_cases hlt : k < 2
    · have hk2 : (k : Int) < 2 := by omega
      have g1 := hB.cell 1
      have hg := hB.lt
      simp at g1
      have hgA : ¬ rowOf A w.heap.size := by rintro ⟨a, ha, hb⟩; exact hO.ne_blk hB (by decide) a ha hb
      have HB := Lib.hid hB
      have HO := Lib.hid hO
      have HS := Lib.hid hS
      have HA := Lib.hid hA
      clear hB hO hS hA
      go_wp2_with (at_builtin
                   refine Own.append_list rfl (.tmp 22) (.tmp 27) _ rfl Try.underlying52 info_place rfl (by omega) rfl (HO.out.frm ((Frm.refl (fun _ => False) _).alloc _) (fun _ _ => id)) Pl.cells_len (cpl k) wr.heap.size 1 rfl (Blk.new wr _ _) (by simp [Value.oneCell', Pl.cells]) (by unfold maxLen; simp; omega) (by simp; omega) ?_
                   intro gg cap w4 hO4 hg4 hat
                   have hB4 := ((HB.out.alloc _).grown hg4 (fun h => hgA (ownBlock_row.1 h.symm)))
                   have hL4 : Frm (fun b => rowOf A b) wr w4 := ((Frm.refl _ _).alloc _).grown hg4 (fun g hg => .inl (ownBlock_row.1 hg))
                   have hgg : gg ≠ w.heap.size := hO4.ne_blk hB4 (by decide) _ rfl
                   have hge : w.heap.size ≤ gg := by
                     rcases hat with h | h
                     · exact HA.out gg (ownBlock_row.1 h)
                     · have := HS.out.size
                       simp at h
                       omega
                   have hS4 : Same w w4 := HS.out.trans hL4 (fun i hi h => by have := HA.out i h; omega)
                   have f1 := hB4.free 1
                   have c1 := hB4.cell 1
                   simp at c1
                   have HB4 := Lib.hid hB4
                   have HO4 := Lib.hid hO4
                   have HS4 := Lib.hid hS4
                   clear hB4 hO4 hL4 hg4 hat HB HO HS HA hgA g1 hg hS4)
      go_roundw
      case rel =>
        refine ⟨k + 1, some ⟨gg, 0, none⟩, cap, by omega, by go_num, HB4.out.set 1 _, ?_, HS4.out.setNew _ _ (Nat.le_refl _), fresh_some hge⟩
        have h := HO4.out.far (p := ⟨w.heap.size, 1, none⟩) (fun a ha => by injection ha with ha; subst ha; exact hgg) (.slice (some ⟨gg, 0, none⟩) (k + 1) cap)
        have e : List.take k l01 ++ [cpl k] = List.take (k + 1) l01 := by
          match k, hlt with
          | 0, _ => rfl
          | 1, _ => rfl
        rw [e] at h
        exact h
      case measure => simp [intOf]; omega
    · obtain rfl : k = 2 := by omega
      have HB := Lib.hid hB
      clear hB
      go_wp2
      go_ret2
      exact ⟨rfl, A, C, ⟨HB.out, hO, Own.nil _ _ _ _, by simp [l01], by omega, by omega⟩, hS, hA⟩
end Go.Proofs.Ytkajgopkdolhcaa
