/- The contract of the reference's Put. -/
import Derived.Test.YtbajlmaceapfpaaCacheRef
import Derived.Test.YtbajlmaceapfpaaMix
namespace Go.Proofs.Ytbajlmaceapfpaa
open Go.RowKit Go.Tk

theorem info_entry : (Try.prog.info? 62).map (fun i => (i.zero, i.size, i.bytes)) = some (some (.agg #[.int .u8 0, .int .u32 0, .int .u32 0, .int .u32 0, .int .u32 0]), 5, 20) := by kernel_rfl
set_option maxHeartbeats 2000000 in
theorem rput_new (d : Nat) (A : Option Addr) (N C : Nat) (v0 v2 v3 : Value) (es : List Ent) (k : Ky) (r : Int) (w : World) (hb : Blk w d 55 #[v0, .slice A N C, v2, v3])
    (ho : Own w 62 5 Ent.cells A N C es) (hmax : (es.length + 1) * 20 ≤ 140737488355328) (hf : findI es k = -1) :
    Calls Try.prog 16 #[.pointer (some ⟨d, 0, none⟩), k.val, .int .u32 r] w fun e w' => e = .returned (.tuple #[]) ∧ ∃ A' C',
      Blk w' d 55 #[v0, .slice A' (es.length + 1) C', .int .i64 es.length, v3] ∧ Own w' 62 5 Ent.cells A' (es.length + 1) C' (es ++ [⟨k, r⟩]) ∧
      Frm (fun b => b = d ∨ rowOf A b) w w' ∧ (∀ b, rowOf A' b → rowOf A b ∨ w.heap.size ≤ b) := by
  have h1 := hb.cell 1
  have h2 := hb.cell 2
  have hd := hb.lt
  simp at h1 h2
  obtain rfl := ho.len
  obtain ⟨i0, hi0, hz0, hz1, hz2⟩ := info_parts info_entry
  have HF := Lib.hid hf
  clear hf
  unfold Ky.val
  go_enter Try.func16, Try.ntmps16
  go_wp2_with (fail)
  refine call_world fun w1 hw1 => ?_
  have hs1 : Same w w1 := by rw [hw1]; exact (Frm.refl _ _).alloc _
  have hX := Blk.new w 57 #[.int .u8 k.o, .int .u32 k.a, .int .u32 k.b, .int .u32 k.c]
  rw [← hw1] at hX
  clear hw1
  refine (find_any d A es.length C v0 v2 v3 es k w1 (hb.frm hs1 id) (ho.frm hs1 (fun _ _ => id)) (by omega)).mono ?_
  rintro e w2 ⟨rfl, hs2⟩
  rw [HF.out]
  have hs := hs1.trans hs2 (fun _ _ h => h)
  have hB := hb.frm hs id
  have hO := ho.frm hs (fun _ _ => id)
  have hX2 := hX.frm hs2 id
  have hdA := hO.ne_blk hB (by decide)
  have hxA := hO.ne_blk hX2 (by decide)
  clear hb ho hX h1 h2 hd
  have h1 := hB.cell 1
  have h2 := hB.cell 2
  have f1 := hB.free 1
  have f2 := hB.free 2
  have x0 := hX2.cell 0
  have x1 := hX2.cell 1
  have x2 := hX2.cell 2
  have x3 := hX2.cell 3
  have hx := hX2.lt
  have hd := hB.lt
  simp at h1 h2 x0 x1 x2 x3
  go_wp2_with (fail)
  have hA1 : (Value.slice A es.length C).ownBlock ≠ some d := by
    intro h
    cases A with
    | none => cases h
    | some a => injection h with h; exact hdA a rfl h
  have hA2 : (Value.slice A es.length C).ownBlock ≠ some w.heap.size := by
    intro h
    cases A with
    | none => cases h
    | some a => injection h with h; exact hxA a rfl h
  refine wp_mixS (fun b => (Value.slice A es.length C).ownBlock = some b) [0, 1, 2, 3, 4, 5, 6] [7, 8, 9, 10, 11] (by kernel_rfl) (by kernel_rfl) ?_
  simp only [pick, List.map_cons, List.map_nil, List.getD_cons_zero, List.getD_cons_succ]
  repeat (any_goals (first | go_big_quiet_step (fail) | quiet_step (fail)))
  refine wpQuiet_nil ?_
  refine wpEff_plain rfl (fun K hK => ?_)
  go_simp
  refine hK _ _ (Lat.mk_ (((Frm.refl _ _).drew).alloc _)) ?_
  clear hK K
  refine wpEff_plain rfl (fun K hK => ?_)
  refine Own.append (.tmp 21) (.tmp 24) _ rfl Try.underlying53 info_entry rfl (by omega) rfl ((hO.frm (((Frm.refl (fun _ => False) _).alloc _).drew) (fun _ _ => id))) Ent.cells_len ⟨k, 0⟩ w2.heap.size 1 rfl (Blk.new w2 _ _) (by simp [Value.oneCell', Ent.cells]) (by unfold maxLen; omega) hmax ?_
  intro gg cap w3 hO3 hg3 hat
  have hB3 := (hB.alloc _).drew.grown hg3 (Ne.symm hA1)
  have hL3 : Frm (fun b => (Value.slice A es.length C).ownBlock = some b) w2 w3 := (((Frm.refl _ _).alloc _).drew).grown hg3 (fun g hg => .inl hg)
  refine hK _ _ (Lat.mk_ hL3) ?_
  clear hK K
  refine wpEff_plain rfl (fun K hK => ?_)
  go_simp
  refine hK _ _ (Lat.mk_ hL3) ?_
  clear hK K
  refine wpEff_plain rfl (fun K hK => ?_)
  go_simp
  refine hK _ _ (Lat.mk_ hL3) ?_
  clear hK K
  refine wpEff_last ?_
  have f3 := hB3.free 1
  have c3 := hB3.cell 1
  have f4 := hB3.free 2
  have c4 := hB3.cell 2
  have hl : (es ++ [(⟨k, 0⟩ : Ent)])[es.length]? = some ⟨k, 0⟩ := by simp
  have f5 := hO3.free (es.length * 5 + 4)
  have c5 : w3.cell? ⟨gg, es.length * 5 + 4, none⟩ = some (.int .u32 0) := by
    obtain ⟨sb, hsb, _, hc⟩ := hO3.get Ent.cells_len hl
    obtain rfl : gg = sb := by simpa using hsb
    exact hc 4 (by omega)
  have hdg : gg ≠ d := hO3.ne_blk hB3 (by decide) _ rfl
  have hdg' : d ≠ gg := Ne.symm hdg
  simp at c3 c4
  have hF3 : Frm (fun b => b = d ∨ rowOf A b) w w3 := (hs.mono (S' := fun b => b = d ∨ rowOf A b) (fun _ _ h => h.elim)).trans hL3 (fun i _ h => .inr (ownBlock_row.1 h))
  have hat' : rowOf A gg ∨ w.heap.size ≤ gg := by
    rcases hat with h | h
    · exact .inl (ownBlock_row.1 h)
    · right
      have := hs.size
      simp at h
      omega
  have hFg : gg = d ∨ rowOf A gg ∨ w.heap.size ≤ gg := .inr hat'
  have HO3 := Lib.hid hO3
  have HB3 := Lib.hid hB3
  have HL := Lib.hid hl
  have HAT := Lib.hid hat'
  have HF3 := Lib.hid hF3
  clear hO3 hB3 hg3 hl hX2 hat hat' hFg hF3 hL3
  go_wp2
  go_end0
  refine ⟨rfl, some ⟨gg, 0, none⟩, cap, ((HB3.out.set _ _).far hdg' _).set _ _, ?_, ?_, ?_⟩
  · have h := ((HO3.out.far (p := ⟨d, 1, none⟩) (fun a ha => by injection ha with ha; subst ha; exact hdg) (.slice (some ⟨gg, 0, none⟩) (es.length + 1) cap)).store Ent.cells_len es.length 4 ⟨k, 0⟩ ⟨k, r⟩ (.int .u32 r) HL.out (by omega) rfl).far (p := ⟨d, 2, none⟩) (fun a ha => by injection ha with ha; subst ha; exact hdg) (.int .i64 es.length)
    rw [List.set_append_right _ _ (Nat.le_refl _), Nat.sub_self] at h
    exact h
  · refine ((HF3.out.set _ _ (.inl rfl)).setCell ?_ _).set _ _ (.inl rfl)
    rcases HAT.out with h | h
    · exact .inl (.inr h)
    · exact .inr h
  · rintro b ⟨a, ha, rfl⟩
    injection ha with ha
    subst ha
    exact HAT.out
set_option maxHeartbeats 2000000 in
theorem rput_old (d : Nat) (A : Option Addr) (N C n : Nat) (v0 v2 v3 : Value) (es : List Ent) (k : Ky) (e : Ent) (r : Int) (w : World) (hb : Blk w d 55 #[v0, .slice A N C, v2, v3])
    (ho : Own w 62 5 Ent.cells A N C es) (hmax : (es.length + 1) * 20 ≤ 140737488355328) (hf : findI es k = n) (he : es[n]? = some e) (hvo : ∃ x, v2 = .int .i64 x) :
    Calls Try.prog 16 #[.pointer (some ⟨d, 0, none⟩), k.val, .int .u32 r] w fun e' w' => e' = .returned (.tuple #[]) ∧
      Blk w' d 55 #[v0, .slice A N C, .int .i64 n, v3] ∧ Own w' 62 5 Ent.cells A N C (es.set n ⟨e.k, r⟩) ∧
      Frm (fun b => b = d ∨ rowOf A b) w w' := by
  obtain ⟨x, rfl⟩ := hvo
  have HF := Lib.hid hf
  clear hf
  unfold Ky.val
  go_enter Try.func16, Try.ntmps16
  go_wp2_with (fail)
  refine call_world fun w1 hw1 => ?_
  have hs1 : Same w w1 := by rw [hw1]; exact (Frm.refl _ _).alloc _
  clear hw1
  refine (find_any d A N C v0 (.int .i64 x) v3 es k w1 (hb.frm hs1 id) (ho.frm hs1 (fun _ _ => id)) (by omega)).mono ?_
  rintro e' w2 ⟨rfl, hs2⟩
  rw [HF.out]
  have hs := hs1.trans hs2 (fun _ _ h => h)
  have hB := hb.frm hs id
  have hO := ho.frm hs (fun _ _ => id)
  have hdA := hO.ne_blk hB (by decide)
  have hn := lt_of_get he
  obtain ⟨sb, rfl, hsb, hc⟩ := hO.get Ent.cells_len he
  have hdg : sb ≠ d := hdA _ rfl
  have hdg' : d ≠ sb := Ne.symm hdg
  have h1 := hB.cell 1
  have h2 := hB.cell 2
  have f2 := hB.free 2
  have f5 := hO.free (n * 5 + 4)
  have c5 : w2.cell? ⟨sb, n * 5 + 4, none⟩ = some (.int .u32 e.r) := hc 4 (by omega)
  obtain rfl := hO.len
  have hn0 : (0 : Int) ≤ n := by omega
  have hn1 : (n : Int) < es.length := by omega
  have hn2 : ¬ (n : Int) < 0 := by omega
  simp at h1 h2
  have HB := Lib.hid hB
  have HO := Lib.hid hO
  have HE := Lib.hid he
  clear hb ho hB hO hc he hdA
  go_wp2
  go_end0
  refine ⟨rfl, (HB.out.far hdg' _).set _ _, (HO.out.store Ent.cells_len n 4 e ⟨e.k, r⟩ (.int .u32 r) HE.out (by omega) rfl).far (p := ⟨d, 2, none⟩) (fun a ha => by injection ha with ha; subst ha; exact hdg) _, ?_⟩
  exact ((hs.mono (S' := fun b => b = d ∨ rowOf (some ⟨sb, 0, none⟩) b) (fun _ _ h => h.elim)).set _ _ (.inr ⟨_, rfl, rfl⟩)).set _ _ (.inl rfl)
end Go.Proofs.Ytbajlmaceapfpaa
