/- The contract of the arena's Alloc, where the list grows. -/
import Derived.Test.YtkajgopkdolhcaaArAlloc
namespace Go.Proofs.Ytkajgopkdolhcaa
open Go.RowKit Go.Tk
section
variable {w : World} {g : Nat} {pl us : Int} {ls : List Pl} {fr : List Int} {A : Option Addr} {C : Nat} {A' : Option Addr} {C' : Nat}
theorem info_place : (Try.prog.info? 56).map (fun i => (i.zero, i.size, i.bytes)) = some (some (.agg #[.int .i64 0, .int .u32 0, .int .u32 0, .bool false, .int .u8 0]), 5, 24) := by kernel_rfl
set_option maxHeartbeats 2000000 in
theorem alloc_push (h : ASt w g pl us ls [] A C A' C') (n : Nd) (hl0 : 0 ≤ n.lo) (hl1 : n.lo < 4294967296) (hh0 : 0 ≤ n.hi) (hh1 : n.hi < 4294967296) (hc : ckN ls n = 0) (hf : (ls.length : Int) < pl) (hp : pl ≤ 1048576) (hu : us < 4000000) :
    Calls Try.prog 9 #[.pointer (some ⟨g, 0, none⟩), n.val] w fun e w' => e = .returned (.tuple #[.int .u32 ls.length, .int .i64 0]) ∧
      ∃ A2 C2, ASt w' g pl (us + 1) (ls ++ [⟨n, true, 0⟩]) [] A2 C2 A' C' ∧ Frm (AFp g A A') w w' ∧ (∀ b, rowOf A2 b → rowOf A b ∨ w.heap.size ≤ b) := by
  have H := Lib.hid h
  have HC := Lib.hid hc
  have hf' : ¬ ((ls.length : Int) ≥ pl) := by omega
  have hlen := h.len
  have hu0 := h.us0
  clear h hc
  unfold Nd.val
  go_enter Try.func9, Try.ntmps9
  go_wp2_with (fail)
  refine call_world fun w1 hw1 => ?_
  have hs1 : Same w w1 := by rw [hw1]; exact (Frm.refl _ _).alloc _
  have hX := Blk.new w 34 #[.int .i64 n.v, .int .u32 n.lo, .int .u32 n.hi]
  rw [← hw1] at hX
  clear hw1
  refine ((H.out.frm hs1 (fun _ _ => id)).check n hl0 hl1 hh0 hh1).mono ?_
  rintro e w2 ⟨rfl, hs2⟩
  rw [HC.out]
  have hs := hs1.trans hs2 (fun _ _ h => h)
  have hB := (H.out.frm hs (fun _ _ => id)).blk
  have h0 := hB.cell 0
  have h1 := hB.cell 1
  have h2 := hB.cell 2
  have hg := hB.lt
  simp at h0 h1 h2
  go_wp2_with (fail)
  refine wp_quiet (by kernel_rfl) (by kernel_rfl) ?_
  repeat (any_goals (first | go_big_quiet_step (fail) | quiet_step (fail)))
  refine wpQuiet_nil ?_
  rintro _ ⟨q, rfl⟩
  have hs3 := hs.trans (more_same w2 q) (fun _ _ h => h)
  have hX3 := hX.frm (hs2.trans (more_same w2 q) (fun _ _ h => h)) id
  have hst3 := H.out.frm hs3 (fun _ _ => id)
  clear h0 h1 h2 hg hB hX hs hs2
  generalize more w2 q = w3 at *
  have hB := hst3.blk
  have hO := hst3.own
  have hap := hst3.apart
  have g0 := hB.cell 0
  have g1 := hB.cell 1
  have g3 := hB.cell 3
  have f1 := hB.free 1
  have f3 := hB.free 3
  have x0 := hX3.cell 0
  have x1 := hX3.cell 1
  have x2 := hX3.cell 2
  have hg := hB.lt
  have hx := hX3.lt
  simp at g0 g1 g3 x0 x1 x2
  have hXA : ¬ rowOf A w.heap.size := by rintro ⟨a, ha, hb⟩; exact hO.ne_blk hX3 (by decide) a ha hb
  have hgA : ¬ rowOf A g := fun h => (hap.1 g h).1 rfl
  go_wp2_with (fail)
  refine wp_mixS (fun b => rowOf A b) [0, 1, 2, 3, 4, 5, 6] [7, 8, 9, 10, 11] (by kernel_rfl) (by kernel_rfl) ?_
  simp only [pick, List.map_cons, List.map_nil, List.getD_cons_zero, List.getD_cons_succ]
  repeat (any_goals (first | go_big_quiet_step (fail) | quiet_step (fail)))
  refine wpQuiet_nil ?_
  refine wpEff_plain rfl (fun K hK => ?_)
  go_simp
  refine hK _ _ (Lat.mk_ (((Frm.refl _ _).drew).alloc _)) ?_
  clear hK K
  refine wpEff_plain rfl (fun K hK => ?_)
  refine Own.append (.tmp 72) (.tmp 75) _ rfl Try.underlying52 info_place rfl (by omega) rfl ((hO.frm (((Frm.refl (fun _ => False) _).alloc _).drew) (fun _ _ => id))) Pl.cells_len ⟨n, true, 0⟩ w3.heap.size 1 rfl (Blk.new w3 _ _) (by simp [Value.oneCell', Pl.cells]) (by unfold maxLen; omega) (by omega) ?_
  intro gg cap w4 hO4 hg4 hat
  have hB4 : Blk w4 g 54 #[.int .i64 pl, .slice A ls.length C, .slice A' 0 C', .int .i64 us] := ((hB.alloc _).drew.grown hg4 (fun h => hgA (ownBlock_row.1 h.symm)))
  have hL4 : Frm (fun b => rowOf A b) w3 w4 := (((Frm.refl _ _).alloc _).drew).grown hg4 (fun g hg => .inl (ownBlock_row.1 hg))
  refine hK _ _ (Lat.mk_ hL4) ?_
  clear hK K
  refine wpEff_plain rfl (fun K hK => ?_)
  go_simp
  refine hK _ _ (Lat.mk_ hL4) ?_
  clear hK K
  refine wpEff_plain rfl (fun K hK => ?_)
  go_simp
  refine hK _ _ (Lat.mk_ hL4) ?_
  clear hK K
  refine wpEff_last ?_
  have hat' : rowOf A gg ∨ w.heap.size ≤ gg := by
    rcases hat with h | h
    · exact .inl (ownBlock_row.1 h)
    · right
      have := hs3.size
      simp at h
      omega
  have hgg : gg ≠ g := hO4.ne_blk hB4 (by decide) _ rfl
  have hF4 : Row1 w4 30 rc A' 0 C' [] := hst3.fown.frm hL4 (fun a ha h => (hap.2 _ ⟨a, ha, rfl⟩).2 h)
  have hA'g : ¬ rowOf A' g := fun h => (hap.2 g h).1 rfl
  have hS4 : Frm (AFp g A A') w w4 := (hs3.mono (fun _ _ h => h.elim)).trans hL4 (fun i _ h => .inr (.inl h))
  clear g0 g1 g3 f1 f3 x0 x1 x2 hg hx hX3 hat hg4 hL4 hs3 hst3 hB hO hap hXA hgA hs1
  have g1 := hB4.cell 1
  have g3 := hB4.cell 3
  have f1 := hB4.free 1
  have f3 := hB4.free 3
  have hg := hB4.lt
  simp at g1 g3
  have HB4 := Lib.hid hB4
  have HO4 := Lib.hid hO4
  have HF4 := Lib.hid hF4
  have HS4 := Lib.hid hS4
  have HAT := Lib.hid hat'
  have hlb : (ls.length : Int) + 1 < 4294967296 := by omega
  clear hB4 hO4 hF4 hS4 hat'
  go_wp2
  go_ret2
  have hne : ∀ a : Addr, some (⟨gg, 0, none⟩ : Addr) = some a → a.block ≠ g := fun a ha => by injection ha with ha; subst ha; exact hgg
  have hne' : ∀ a : Addr, A' = some a → a.block ≠ g := fun a ha h => hA'g ⟨a, ha, h⟩
  refine ⟨?_, some ⟨gg, 0, none⟩, cap, ⟨?_, ?_, ?_, by simp; omega, by omega, by omega⟩, ?_, ?_⟩
  · simp
  · rw [List.length_append]
    exact (HB4.out.set 1 _).set 3 _
  · rw [List.length_append]
    exact (HO4.out.far (p := ⟨g, 1, none⟩) hne _).far (p := ⟨g, 3, none⟩) hne _
  · exact (HF4.out.far (p := ⟨g, 1, none⟩) hne' _).far (p := ⟨g, 3, none⟩) hne' _
  · exact (HS4.out.set _ _ (.inl rfl)).set _ _ (.inl rfl)
  · rintro b ⟨a, ha, rfl⟩
    injection ha with ha
    subst ha
    exact HAT.out
end
end Go.Proofs.Ytkajgopkdolhcaa
