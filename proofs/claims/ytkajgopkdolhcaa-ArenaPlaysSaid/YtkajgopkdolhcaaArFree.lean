/- The contract of the arena's Free. -/
import Derived.Test.YtkajgopkdolhcaaArNew
namespace Go.Proofs.Ytkajgopkdolhcaa
open Go.RowKit Go.Tk

def zPl : Pl := ⟨zNd, false, 0⟩
theorem info_ref : (Try.prog.info? 30).map (fun i => (i.zero, i.size, i.bytes)) = some (some (.int .u32 0), 1, 4) := by kernel_rfl
theorem ownE_ok {ls : List Pl} {r : Int} (h : ownE ls r = 0) : 1 < r ∧ tk ls r = true := by
  unfold ownE at h
  split at h
  · cases h
  · rename_i h1
    refine ⟨by omega, ?_⟩
    cases ht : tk ls r with
    | true => rfl
    | false => exact absurd (.inr ht) h1
theorem tk_get {ls : List Pl} {r : Nat} (h : tk ls r = true) : ∃ p, ls[r]? = some p ∧ p.t = true := by
  unfold tk at h
  rw [Int.toNat_natCast] at h
  cases h' : ls[r]? with
  | none => rw [h'] at h; cases h
  | some p => rw [h'] at h; exact ⟨p, rfl, h⟩
section
variable {w : World} {g : Nat} {pl us : Int} {ls : List Pl} {fr : List Int} {A : Option Addr} {C : Nat} {A' : Option Addr} {C' : Nat}
set_option maxHeartbeats 1000000 in
theorem free_bad (h : ASt w g pl us ls fr A C A' C') (r : Int) (hr0 : 0 ≤ r) (hr1 : r < 4294967296) (hc : ownE ls r ≠ 0) :
    Calls Try.prog 11 #[.pointer (some ⟨g, 0, none⟩), .int .u32 r] w fun e w' => e = .returned (.int .i64 (ownE ls r)) ∧ w = w' := by
  have H := Lib.hid h
  have hc' : (ownE ls r != 0) = true := by simpa using hc
  clear h hc
  go_enter Try.func11, Try.ntmps11
  go_wp2_with (fail)
  refine (H.out.ownR r hr0 hr1).mono ?_
  rintro e w2 ⟨rfl, rfl⟩
  go_wp2
  go_ret
  exact ⟨rfl, rfl⟩
set_option maxRecDepth 100000 in
set_option maxHeartbeats 2000000 in
theorem free_ok {r : Nat} (h : ASt w g pl us ls fr A C A' C') (hr1 : (r : Int) < 4294967296) (hc : ownE ls r = 0) (hu : -4000000 < us) (hfl : fr.length ≤ 1048576) :
    Calls Try.prog 11 #[.pointer (some ⟨g, 0, none⟩), .int .u32 r] w fun e w' => e = .returned (.int .i64 0) ∧
      ∃ A2 C2, ASt w' g pl (us - 1) (ls.set r zPl) (fr ++ [(r : Int)]) A C A2 C2 ∧ Frm (AFp g A A') w w' ∧ (∀ b, rowOf A2 b → rowOf A' b ∨ w.heap.size ≤ b) := by
  obtain ⟨p, hp, hpt⟩ := tk_get (ownE_ok hc).2
  have hr := lt_of_get hp
  have hlen := h.len
  have hu1 := h.us1
  have hap := h.apart
  have hB := h.blk
  have hO := h.own
  have HF := Lib.hid h.fown
  have T := Lib.hid (h.ownR r (by omega) hr1)
  have HL := Lib.hid hc
  obtain ⟨sb, rfl, hsb, hcc⟩ := hO.get Pl.cells_len hp
  have g1 := hB.cell 1
  have g2 := hB.cell 2
  have g3 := hB.cell 3
  have f1 := hB.free 1
  have f2 := hB.free 2
  have f3 := hB.free 3
  have hg := hB.lt
  have c0 : w.cell? ⟨sb, r * 5, none⟩ = some (.int .i64 p.n.v) := hcc 0 (by omega)
  have c1 : w.cell? ⟨sb, r * 5 + 1, none⟩ = some (.int .u32 p.n.lo) := hcc 1 (by omega)
  have c2 : w.cell? ⟨sb, r * 5 + 2, none⟩ = some (.int .u32 p.n.hi) := hcc 2 (by omega)
  have c3 : w.cell? ⟨sb, r * 5 + 3, none⟩ = some (.bool p.t) := hcc 3 (by omega)
  have c4 : w.cell? ⟨sb, r * 5 + 4, none⟩ = some (.int .u8 p.c) := hcc 4 (by omega)
  have k0 := hO.free (r * 5)
  have k1 := hO.free (r * 5 + 1)
  have k2 := hO.free (r * 5 + 2)
  have k3 := hO.free (r * 5 + 3)
  have k4 := hO.free (r * 5 + 4)
  have hgs : sb ≠ g := (hap.1 sb ⟨_, rfl, rfl⟩).1
  have hsA' : ¬ rowOf A' sb := (hap.1 sb ⟨_, rfl, rfl⟩).2
  have hgA' : ¬ rowOf A' g := fun h => (hap.2 g h).1 rfl
  simp at g1 g2 g3
  have hi0 : (0 : Int) ≤ r := by omega
  have hi1 : (r : Int) < ls.length := by omega
  have HB := Lib.hid hB
  have HO := Lib.hid hO
  have HP := Lib.hid hp
  clear hB hO hp hcc h hap hc
  go_enter Try.func11, Try.ntmps11
  go_wp2_with (fail)
  refine T.out.mono ?_
  rintro e w2 ⟨rfl, rfl⟩
  rw [HL.out]
  go_wp2_with (at_builtin
               have hB2 : Blk (put w sb (r * 5) zPl.cells) g 54 _ := Blk.put (Ne.symm hgs) zPl.cells (r * 5) HB.out
               have hO2 := Own.put Pl.cells_len (by omega) HO.out hr zPl
               have hF2 : Row1 (put w sb (r * 5) zPl.cells) 30 rc A' fr.length C' fr := Own.farPut hsA' zPl.cells (r * 5) HF.out
               have hS2 : Frm (AFp g (some ⟨sb, 0, none⟩) A') w (put w sb (r * 5) zPl.cells) := Frm.put (.inr (.inl ⟨_, rfl, rfl⟩)) zPl.cells (r * 5) (Frm.refl _ _)
               have hz2 : (put w sb (r * 5) zPl.cells).heap.size = w.heap.size := by simp [put, Pl.cells]
               refine list_world fun w3 hw3 => ?_
               replace hw3 : w3 = (put w sb (r * 5) zPl.cells).alloc (.cells #[.int .u32 r] 30) := hw3
               generalize put w sb (r * 5) zPl.cells = wp at *
               have hN := Blk.new wp 30 #[.int .u32 r]
               rw [hz2] at hN
               have hB3 := hB2.alloc (.cells #[.int .u32 r] 30)
               have hO3 := hO2.frm ((Frm.refl (fun _ => False) wp).alloc (.cells #[.int .u32 r] 30)) (fun _ _ => id)
               have hF3 := hF2.frm ((Frm.refl (fun _ => False) wp).alloc (.cells #[.int .u32 r] 30)) (fun _ _ => id)
               have hS3 := hS2.alloc (.cells #[.int .u32 r] 30)
               have hz3 : w.heap.size ≤ w3.heap.size := by rw [hw3]; simp; omega
               rw [← hw3] at hN hB3 hO3 hF3 hS3
               refine Own.append_list (f := fun x => [rc x]) rfl (.tmp 25) (.tmp 27) _ rfl Try.underlying28 info_ref rfl (by omega) rfl hF3 (fun _ => rfl) (r : Int) w.heap.size 1 rfl hN (by simp [Value.oneCell', rc]) (by unfold maxLen; omega) (by omega) ?_
               intro gg cap w4 hF4 hg4 hat
               have hL4 : Frm (fun b => rowOf A' b) w3 w4 := (Frm.refl _ _).grown hg4 (fun g hg => .inl (ownBlock_row.1 hg))
               have hB4 := hB3.frm hL4 hgA'
               have hO4 := hO3.frm hL4 (fun a ha h => by injection ha with ha; subst ha; exact hsA' h)
               have hS4 : Frm (AFp g (some ⟨sb, 0, none⟩) A') w w4 := hS3.trans hL4 (fun i _ h => .inr (.inr h))
               have hgg : gg ≠ g := hF4.ne_blk hB4 (by decide) _ rfl
               have hat' : rowOf A' gg ∨ w.heap.size ≤ gg := by
                 rcases hat with h | h
                 · exact .inl (ownBlock_row.1 h)
                 · right; omega
               have y2 := hB4.cell 2
               have y3 := hB4.cell 3
               have z2 := hB4.free 2
               have z3 := hB4.free 3
               simp at y2 y3
               have HB4 := Lib.hid hB4
               have HO4 := Lib.hid hO4
               have HF4 := Lib.hid hF4
               have HS4 := Lib.hid hS4
               have HAT := Lib.hid hat'
               clear hB4 hO4 hF4 hS4 hat' hat hL4 hg4 hN hB3 hO3 hF3 hS3 hz3 hw3 hB2 hO2 hF2 hS2 hz2 HB HO HF g1 g2 g3 f1 f2 f3 c0 c1 c2 c3 c4 k0 k1 k2 k3 k4 hg)
  go_ret
  have hne : ∀ a : Addr, some (⟨gg, 0, none⟩ : Addr) = some a → a.block ≠ g := fun a ha => by injection ha with ha; subst ha; exact hgg
  have hne' : ∀ a : Addr, some (⟨sb, 0, none⟩ : Addr) = some a → a.block ≠ g := fun a ha => by injection ha with ha; subst ha; exact hgs
  refine ⟨rfl, some ⟨gg, 0, none⟩, cap, ⟨?_, ?_, ?_, by simpa using hlen, by omega, by omega⟩, ?_, ?_⟩
  · rw [List.length_append, List.length_set]
    exact (HB4.out.set 2 _).set 3 _
  · rw [List.length_set]
    exact (HO4.out.far (p := ⟨g, 2, none⟩) hne' _).far (p := ⟨g, 3, none⟩) hne' _
  · rw [List.length_append]
    exact (HF4.out.far (p := ⟨g, 2, none⟩) hne _).far (p := ⟨g, 3, none⟩) hne _
  · exact (HS4.out.set _ _ (.inl rfl)).set _ _ (.inl rfl)
  · rintro b ⟨a, ha, rfl⟩
    injection ha with ha
    subst ha
    exact HAT.out
end
end Go.Proofs.Ytkajgopkdolhcaa
