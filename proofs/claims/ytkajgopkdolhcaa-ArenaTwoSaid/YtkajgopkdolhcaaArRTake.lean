/- The contract of the reference's Take. -/
import Derived.Test.YtkajgopkdolhcaaArRSet3
import Derived.Test.YtkajgopkdolhcaaMix
namespace Go.Proofs.Ytkajgopkdolhcaa
open Go.RowKit Go.Tk

theorem info_pe : (Try.prog.info? 79).map (fun i => (i.zero, i.size, i.bytes)) = some (some (.agg #[.int .u32 0, .int .i64 0, .int .u32 0, .int .u32 0, .int .i64 0]), 5, 32) := by kernel_rfl
section
variable {w : World} {d : Nat} {pl : Int} {es : List Pe} {B : Option Addr} {D : Nat}
set_option maxRecDepth 100000 in
set_option maxHeartbeats 2000000 in
theorem RSt.takeS (h : RSt w d pl es B D) (x : Nd) (r : Int) (hr : ¬ r ≤ 1) (hrp : r < pl) (hr1 : r < 4294967296) (hf : fndI es r = -1) (hl : es.length < 1048576) :
    Calls Try.prog 27 #[.pointer (some ⟨d, 0, none⟩), x.val, .int .u32 r] w fun e w' => e = .returned (.bool true) ∧
      ∃ B' D', RSt w' d pl (es ++ [⟨r, x, 0⟩]) B' D' ∧ Frm (RFp d B) w w' ∧ (∀ b, rowOf B' b → rowOf B b ∨ w.heap.size ≤ b) := by
  have H := Lib.hid h
  have HF := Lib.hid hf
  obtain ⟨i0, hi0, hz0, hz1, hz2⟩ := info_parts info_pe
  clear h hf
  unfold Nd.val
  go_enter Try.func27, Try.ntmps27
  go_wp2_with (fail)
  refine call_world fun w1 hw1 => ?_
  have hs1 : Same w w1 := by rw [hw1]; exact (Frm.refl _ _).alloc _
  have hX := Blk.new w 34 #[.int .i64 x.v, .int .u32 x.lo, .int .u32 x.hi]
  rw [← hw1] at hX
  clear hw1
  have hst := H.out.frm hs1 (fun _ _ => id)
  refine (hst.find r).mono ?_
  rintro e w2 ⟨rfl, rfl⟩
  rw [HF.out]
  have hdB := hst.ne
  have hB := hst.blk
  have hO := hst.own
  have hxB := hO.ne_blk hX (by decide)
  have d0 := hB.cell 0
  have d1 := hB.cell 1
  have f1 := hB.free 1
  have x0 := hX.cell 0
  have x1 := hX.cell 1
  have x2 := hX.cell 2
  have hx := hX.lt
  have hd := hB.lt
  have hrp' : ¬ r ≥ pl := by omega
  simp at d0 d1 x0 x1 x2
  go_wp2_with (fail)
  have hA1 : (Value.slice B es.length D).ownBlock ≠ some d := fun h => hdB _ (ownBlock_row.1 h) rfl
  have hA2 : (Value.slice B es.length D).ownBlock ≠ some w.heap.size := fun h => by
    obtain ⟨a, ha, he⟩ := ownBlock_row.1 h
    exact hxB a ha he
  refine wp_mixS (fun b => (Value.slice B es.length D).ownBlock = some b) [0, 1, 2, 3, 4, 5, 6, 7] [8, 9, 10, 11, 12] (by kernel_rfl) (by kernel_rfl) ?_
  simp only [pick, List.map_cons, List.map_nil, List.getD_cons_zero, List.getD_cons_succ]
  repeat (any_goals (first | go_big_quiet_step (fail) | quiet_step (fail)))
  refine wpQuiet_nil ?_
  refine wpEff_plain rfl (fun K hK => ?_)
  go_simp
  refine hK _ _ (Lat.mk_ (((Frm.refl _ _).drew).alloc _)) ?_
  clear hK K
  refine wpEff_plain rfl (fun K hK => ?_)
  refine Own.append (.tmp 28) (.tmp 32) _ rfl Try.underlying75 info_pe rfl (by omega) rfl ((hO.frm (((Frm.refl (fun _ => False) _).alloc _).drew) (fun _ _ => id))) Pe.cells_len ⟨r, x, 0⟩ w1.heap.size 1 rfl (Blk.new w1 _ _) (by simp [Value.oneCell', Pe.cells]) (by unfold maxLen; omega) (by omega) ?_
  intro gg cap w3 hO3 hg3 hat
  have hB3 := (hB.alloc _).drew.grown hg3 (Ne.symm hA1)
  have hL3 : Frm (fun b => (Value.slice B es.length D).ownBlock = some b) w1 w3 := (((Frm.refl _ _).alloc _).drew).grown hg3 (fun g hg => .inl hg)
  refine hK _ _ (Lat.mk_ hL3) ?_
  clear hK K
  refine wpEff_plain rfl (fun K hK => ?_)
  go_simp
  refine hK _ _ (Lat.mk_ hL3) ?_
  clear hK K
  refine wpEff_plain rfl (fun K hK => ?_)
  go_simp
  refine hK _ _ (Lat.mk_ hL3) ?_
  clear hK K
  refine wpEff_last ?_
  have f3 := hB3.free 1
  have c3 := hB3.cell 1
  have hdg : gg ≠ d := hO3.ne_blk hB3 (by decide) _ rfl
  simp at c3
  have hF3 : Frm (RFp d B) w w3 := (hs1.mono (S' := RFp d B) (fun _ _ h => h.elim)).trans hL3 (fun i _ h => .inr (ownBlock_row.1 h))
  have hat' : rowOf B gg ∨ w.heap.size ≤ gg := by
    rcases hat with h | h
    · exact .inl (ownBlock_row.1 h)
    · right
      have := hs1.size
      simp at h
      omega
  have HO3 := Lib.hid hO3
  have HB3 := Lib.hid hB3
  have HAT := Lib.hid hat'
  have HF3 := Lib.hid hF3
  clear hO3 hB3 hg3 hX hat hat' hF3 hL3 hB hO hst
  go_wp2
  go_ret
  refine ⟨rfl, some ⟨gg, 0, none⟩, cap, ⟨?_, ?_, by simp; omega⟩, HF3.out.set _ _ (.inl rfl), ?_⟩
  · rw [List.length_append]
    exact HB3.out.set _ _
  · rw [List.length_append]
    exact HO3.out.far (p := ⟨d, 1, none⟩) (fun a ha => by injection ha with ha; subst ha; exact hdg) _
  · rintro b ⟨a, ha, rfl⟩
    injection ha with ha
    subst ha
    exact HAT.out
end
end Go.Proofs.Ytkajgopkdolhcaa
