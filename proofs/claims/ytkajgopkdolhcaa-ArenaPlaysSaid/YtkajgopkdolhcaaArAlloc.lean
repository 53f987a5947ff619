/- The contract of the arena's Alloc. -/
import Derived.Test.YtkajgopkdolhcaaArFns
namespace Go.Proofs.Ytkajgopkdolhcaa
open Go.RowKit Go.Tk

structure ASt (w : World) (g : Nat) (pl us : Int) (ls : List Pl) (fr : List Int) (A : Option Addr) (C : Nat) (A' : Option Addr) (C' : Nat) : Prop where
  blk : Blk w g 54 #[.int .i64 pl, .slice A ls.length C, .slice A' fr.length C', .int .i64 us]
  own : Own w 56 5 Pl.cells A ls.length C ls
  fown : Row1 w 30 rc A' fr.length C' fr
  len : ls.length ≤ 1048576
  us0 : -4000000 ≤ us
  us1 : us ≤ 4000000
def AFp (g : Nat) (A A' : Option Addr) (b : Nat) : Prop := b = g ∨ rowOf A b ∨ rowOf A' b
theorem ASt.frm {w w' : World} {S : Nat → Prop} {g : Nat} {pl us : Int} {ls : List Pl} {fr : List Int} {A : Option Addr} {C : Nat} {A' : Option Addr} {C' : Nat} (h : ASt w g pl us ls fr A C A' C') (hf : Frm S w w') (hs : ∀ b, AFp g A A' b → ¬ S b) :
    ASt w' g pl us ls fr A C A' C' :=
  ⟨h.blk.frm hf (hs _ (.inl rfl)), h.own.frm hf (fun a ha => hs _ (.inr (.inl ⟨a, ha, rfl⟩))), h.fown.frm hf (fun a ha => hs _ (.inr (.inr ⟨a, ha, rfl⟩))), h.len, h.us0, h.us1⟩
theorem ASt.lt {w : World} {g : Nat} {pl us : Int} {ls : List Pl} {fr : List Int} {A : Option Addr} {C : Nat} {A' : Option Addr} {C' : Nat} (h : ASt w g pl us ls fr A C A' C') : ∀ b, AFp g A A' b → b < w.heap.size := by
  rintro b (rfl | ⟨a, ha, rfl⟩ | ⟨a, ha, rfl⟩)
  · exact h.blk.lt
  · exact h.own.block a ha
  · exact h.fown.block a ha
theorem ASt.apart {w : World} {g : Nat} {pl us : Int} {ls : List Pl} {fr : List Int} {A : Option Addr} {C : Nat} {A' : Option Addr} {C' : Nat} (h : ASt w g pl us ls fr A C A' C') :
    (∀ b, rowOf A b → b ≠ g ∧ ¬ rowOf A' b) ∧ (∀ b, rowOf A' b → b ≠ g ∧ ¬ rowOf A b) := by
  refine ⟨fun b hb => ⟨?_, h.own.ne_own h.fown (by decide) b hb⟩, fun b hb => ⟨?_, fun h2 => h.own.ne_own h.fown (by decide) b h2 hb⟩⟩
  · obtain ⟨a, ha, rfl⟩ := hb; exact h.own.ne_blk h.blk (by decide) a ha
  · obtain ⟨a, ha, rfl⟩ := hb; exact h.fown.ne_blk h.blk (by decide) a ha

section
variable {w : World} {g : Nat} {pl us : Int} {ls : List Pl} {fr : List Int} {A : Option Addr} {C : Nat} {A' : Option Addr} {C' : Nat}
theorem ASt.check (h : ASt w g pl us ls fr A C A' C') (n : Nd) (hl0 : 0 ≤ n.lo) (hl1 : n.lo < 4294967296) (hh0 : 0 ≤ n.hi) (hh1 : n.hi < 4294967296) :
    Calls Try.prog 21 #[.pointer (some ⟨g, 0, none⟩), n.val] w fun e w' => e = .returned (.int .i64 (ckN ls n)) ∧ Same w w' :=
  check_any g _ _ _ ls A C n w h.blk h.own (by have := h.len; omega) hl0 hl1 hh0 hh1
theorem ASt.ownR (h : ASt w g pl us ls fr A C A' C') (r : Int) (hr0 : 0 ≤ r) (hr1 : r < 4294967296) :
    Calls Try.prog 22 #[.pointer (some ⟨g, 0, none⟩), .int .u32 r] w fun e w' => e = .returned (.int .i64 (ownE ls r)) ∧ w = w' :=
  own_any g _ _ _ ls A C r w h.blk h.own (by have := h.len; omega) hr0 hr1
theorem ASt.taken (h : ASt w g pl us ls fr A C A' C') (r : Int) (hr0 : 0 ≤ r) (hr1 : r < 4294967296) :
    Calls Try.prog 23 #[.pointer (some ⟨g, 0, none⟩), .int .u32 r] w fun e w' => e = .returned (.bool (tk ls r)) ∧ w = w' :=
  taken_any g _ _ _ ls A C r w h.blk h.own (by have := h.len; omega) hr0 hr1

set_option maxHeartbeats 1000000 in
theorem alloc_bad (h : ASt w g pl us ls fr A C A' C') (n : Nd) (hl0 : 0 ≤ n.lo) (hl1 : n.lo < 4294967296) (hh0 : 0 ≤ n.hi) (hh1 : n.hi < 4294967296) (hc : ckN ls n ≠ 0) :
    Calls Try.prog 9 #[.pointer (some ⟨g, 0, none⟩), n.val] w fun e w' => e = .returned (.tuple #[.int .u32 0, .int .i64 (ckN ls n)]) ∧ Same w w' := by
  have H := Lib.hid h
  have hc' : (ckN ls n != 0) = true := by simpa using hc
  clear h hc
  unfold Nd.val
  go_enter Try.func9, Try.ntmps9
  go_wp2_with (fail)
  refine call_world fun w1 hw1 => ?_
  have hs1 : Same w w1 := by rw [hw1]; exact (Frm.refl _ _).alloc _
  clear hw1
  refine ((H.out.frm hs1 (fun _ _ => id)).check n hl0 hl1 hh0 hh1).mono ?_
  rintro e w2 ⟨rfl, hs2⟩
  go_wp2
  go_ret2
  exact ⟨rfl, hs1.trans hs2 (fun _ _ h => h)⟩

set_option maxHeartbeats 1000000 in
theorem alloc_full (h : ASt w g pl us ls [] A C A' C') (n : Nd) (hl0 : 0 ≤ n.lo) (hl1 : n.lo < 4294967296) (hh0 : 0 ≤ n.hi) (hh1 : n.hi < 4294967296) (hc : ckN ls n = 0) (hf : pl ≤ ls.length) :
    Calls Try.prog 9 #[.pointer (some ⟨g, 0, none⟩), n.val] w fun e w' => e = .returned (.tuple #[.int .u32 0, .int .i64 9]) ∧ Same w w' := by
  have H := Lib.hid h
  have HC := Lib.hid hc
  have hf' : (ls.length : Int) ≥ pl := hf
  clear h hc hf
  unfold Nd.val
  go_enter Try.func9, Try.ntmps9
  go_wp2_with (fail)
  refine call_world fun w1 hw1 => ?_
  have hs1 : Same w w1 := by rw [hw1]; exact (Frm.refl _ _).alloc _
  clear hw1
  refine ((H.out.frm hs1 (fun _ _ => id)).check n hl0 hl1 hh0 hh1).mono ?_
  rintro e w2 ⟨rfl, hs2⟩
  rw [HC.out]
  have hs := hs1.trans hs2 (fun _ _ h => h)
  have hB := (H.out.frm hs (fun _ _ => id)).blk
  have h0 := hB.cell 0
  have h1 := hB.cell 1
  have h2 := hB.cell 2
  have hg := hB.lt
  simp at h0 h1 h2
  go_wp2_with (fail)
  refine wp_quiet (by kernel_rfl) (by kernel_rfl) ?_
  repeat (any_goals (first | go_big_quiet_step (fail) | quiet_step (fail)))
  refine wpQuiet_nil ?_
  rintro _ ⟨q, rfl⟩
  go_wp2
  go_ret2
  exact ⟨rfl, hs.trans (more_same _ _) (fun _ _ h => h)⟩

set_option maxHeartbeats 2000000 in
theorem alloc_pop {r : Nat} (h : ASt w g pl us ls (fr ++ [(r : Int)]) A C A' C') (n : Nd) (hl0 : 0 ≤ n.lo) (hl1 : n.lo < 4294967296) (hh0 : 0 ≤ n.hi) (hh1 : n.hi < 4294967296) (hc : ckN ls n = 0) (hr : r < ls.length) (hu : us < 4000000) :
    Calls Try.prog 9 #[.pointer (some ⟨g, 0, none⟩), n.val] w fun e w' => e = .returned (.tuple #[.int .u32 r, .int .i64 0]) ∧ ASt w' g pl (us + 1) (ls.set r ⟨n, true, 0⟩) fr A C A' C' ∧ Frm (AFp g A A') w w' := by
  have H := Lib.hid h
  have HC := Lib.hid hc
  have hlen := h.len
  have hu0 := h.us0
  have hfl := h.fown.len
  have hfb : fr.length < 9223372036854775807 := by
    rcases h.fown.own.2 with ⟨_, h0⟩ | ⟨_, cap, _, h1, _, _, h3, h4, _⟩
    · simp at h0
    · unfold maxLen at h4; simp at h3; omega
  clear h hc
  unfold Nd.val
  go_enter Try.func9, Try.ntmps9
  go_wp2_with (fail)
  refine call_world fun w1 hw1 => ?_
  have hs1 : Same w w1 := by rw [hw1]; exact (Frm.refl _ _).alloc _
  have hX := Blk.new w 34 #[.int .i64 n.v, .int .u32 n.lo, .int .u32 n.hi]
  rw [← hw1] at hX
  clear hw1
  refine ((H.out.frm hs1 (fun _ _ => id)).check n hl0 hl1 hh0 hh1).mono ?_
  rintro e w2 ⟨rfl, hs2⟩
  rw [HC.out]
  have hs := hs1.trans hs2 (fun _ _ h => h)
  have h2 := H.out.frm hs (fun _ _ => id)
  have hX2 := hX.frm hs2 id
  have hB := h2.blk
  have hO := h2.own
  have hF := h2.fown
  obtain ⟨fb, rfl, hfbk, hfc⟩ := hF.at1 (i := fr.length) (x := (r : Int)) (by simp)
  obtain ⟨p, hp⟩ : ∃ p, ls[r]? = some p := ⟨_, List.getElem?_eq_getElem hr⟩
  obtain ⟨sb, rfl, hsb, hcc⟩ := hO.get Pl.cells_len hp
  have hl1' : (fr ++ [(r : Int)]).length = fr.length + 1 := by simp
  rw [hl1'] at hB
  have g0 := hB.cell 0
  have g1 := hB.cell 1
  have g2 := hB.cell 2
  have g3 := hB.cell 3
  have f0 := hB.free 0
  have f1 := hB.free 1
  have f2 := hB.free 2
  have f3 := hB.free 3
  have x0 := hX2.cell 0
  have x1 := hX2.cell 1
  have x2 := hX2.cell 2
  have hg := hB.lt
  have hx := hX2.lt
  have c0 : w2.cell? ⟨sb, r * 5, none⟩ = some (.int .i64 p.n.v) := hcc 0 (by omega)
  have c1 : w2.cell? ⟨sb, r * 5 + 1, none⟩ = some (.int .u32 p.n.lo) := hcc 1 (by omega)
  have c2 : w2.cell? ⟨sb, r * 5 + 2, none⟩ = some (.int .u32 p.n.hi) := hcc 2 (by omega)
  have c3 : w2.cell? ⟨sb, r * 5 + 3, none⟩ = some (.bool p.t) := hcc 3 (by omega)
  have c4 : w2.cell? ⟨sb, r * 5 + 4, none⟩ = some (.int .u8 p.c) := hcc 4 (by omega)
  have k0 := hO.free (r * 5)
  have k1 := hO.free (r * 5 + 1)
  have k2 := hO.free (r * 5 + 2)
  have k3 := hO.free (r * 5 + 3)
  have k4 := hO.free (r * 5 + 4)
  have hcap : fr.length + 1 ≤ C' := by
    rcases hF.own.2 with ⟨h0, _⟩ | ⟨_, cap, _, h1, _, _, h3, h4, _⟩
    · cases h0
    · injection h1 with _ _ hC; subst hC; simp at h3; omega
  have hap := h2.apart
  have hgs : sb ≠ g := (hap.1 sb ⟨_, rfl, rfl⟩).1
  have hgf : fb ≠ g := (hap.2 fb ⟨_, rfl, rfl⟩).1
  have hsf : sb ≠ fb := fun h => (hap.1 sb ⟨_, rfl, rfl⟩).2 ⟨_, rfl, h.symm⟩
  have hXg : w.heap.size ≠ g := by have := H.out.blk.lt; omega
  have hXs : w.heap.size ≠ sb := by have := H.out.own.block _ rfl; simp at this; omega
  have hfc' : w2.cell? ⟨fb, fr.length, none⟩ = some (.int .u32 r) := hfc
  simp at g0 g1 g2 g3 x0 x1 x2
  have hi0 : (0 : Int) ≤ r := by omega
  have hi1 : (r : Int) < ls.length := by omega
  have HO := Lib.hid hO
  have HF := Lib.hid hF
  have HB := Lib.hid hB
  have HP := Lib.hid hp
  have HS := Lib.hid hs
  have HX := Lib.hid hX2
  clear hO hF hB hX hX2 hp hcc hfc h2 hap hs hs1 hs2 hl1'
  go_wp2_with (fail)
  refine wp_world fun w3 hw3 => ?_
  have hB3 := HB.out.set 2 (.slice (some ⟨fb, 0, none⟩) fr.length C')
  have hO3 := HO.out.far (p := ⟨g, 2, none⟩) (fun a ha => by injection ha with ha; subst ha; exact hgs) (.slice (some ⟨fb, 0, none⟩) fr.length C')
  have hF3 := HF.out.pop1.far (p := ⟨g, 2, none⟩) (fun a ha => by injection ha with ha; subst ha; exact hgf) (.slice (some ⟨fb, 0, none⟩) fr.length C')
  have hX3 := HX.out.far (p := ⟨g, 2, none⟩) hXg (.slice (some ⟨fb, 0, none⟩) fr.length C')
  have hs3 : Frm (AFp g (some ⟨sb, 0, none⟩) (some ⟨fb, 0, none⟩)) w w3 := by
    rw [hw3]; exact (HS.out.mono (fun _ _ h => h.elim)).set _ _ (.inl rfl)
  rw [← hw3] at hB3 hO3 hF3 hX3
  clear hw3 g0 g1 g2 g3 f0 f1 f2 f3 x0 x1 x2 c0 c1 c2 c3 c4 k0 k1 k2 k3 k4 hg hx hfc' hfbk hsb
  have g0 := hB3.cell 0
  have g1 := hB3.cell 1
  have g3 := hB3.cell 3
  have f3 := hB3.free 3
  have x0 := hX3.cell 0
  have x1 := hX3.cell 1
  have x2 := hX3.cell 2
  have hg := hB3.lt
  have hx := hX3.lt
  obtain ⟨_, hsb', hsb, hcc⟩ := hO3.get Pl.cells_len HP.out
  injection hsb' with hsb'
  injection hsb' with hsb'
  subst hsb'
  have c0 : w3.cell? ⟨sb, r * 5, none⟩ = some (.int .i64 p.n.v) := hcc 0 (by omega)
  have c1 : w3.cell? ⟨sb, r * 5 + 1, none⟩ = some (.int .u32 p.n.lo) := hcc 1 (by omega)
  have c2 : w3.cell? ⟨sb, r * 5 + 2, none⟩ = some (.int .u32 p.n.hi) := hcc 2 (by omega)
  have c3 : w3.cell? ⟨sb, r * 5 + 3, none⟩ = some (.bool p.t) := hcc 3 (by omega)
  have c4 : w3.cell? ⟨sb, r * 5 + 4, none⟩ = some (.int .u8 p.c) := hcc 4 (by omega)
  have k0 := hO3.free (r * 5)
  have k1 := hO3.free (r * 5 + 1)
  have k2 := hO3.free (r * 5 + 2)
  have k3 := hO3.free (r * 5 + 3)
  have k4 := hO3.free (r * 5 + 4)
  simp at g0 g1 g3 x0 x1 x2
  have HB3 := Lib.hid hB3
  have HO3 := Lib.hid hO3
  have HF3 := Lib.hid hF3
  have HS3 := Lib.hid hs3
  clear hB3 hO3 hF3 hX3 hs3 hcc HB HO HF HX HS
  refine wp_quiet_tail 8 (by kernel_rfl) (by kernel_rfl) ?_
  simp only [List.take_succ_cons, List.take_zero, List.drop_succ_cons, List.drop_zero]
  repeat (any_goals (first | go_big_quiet_step (fail) | quiet_step (fail)))
  refine wpQuiet_nil ?_
  rintro _ ⟨q, rfl⟩
  go_wp2
  go_ret2
  have hq := more_same w3 q
  have hgs' : ¬ rowOf (some (⟨fb, 0, none⟩ : Addr)) sb := by rintro ⟨a, ha, hb⟩; injection ha with ha; subst ha; exact hsf hb.symm
  refine ⟨rfl, ⟨?_, ?_, ?_, by simpa using hlen, by omega, by omega⟩, ?_⟩
  · rw [List.length_set]
    exact (Blk.put (Ne.symm hgs) [.int .i64 n.v, .int .u32 n.lo, .int .u32 n.hi, .bool true, .int .u8 0] (r * 5) (HB3.out.frm hq id)).set 3 _
  · rw [List.length_set]
    exact (Own.put Pl.cells_len (by omega) (HO3.out.frm hq (fun _ _ => id)) hr ⟨n, true, 0⟩).far (p := ⟨g, 3, none⟩) (fun a ha => by injection ha with ha; subst ha; exact hgs) _
  · exact (Own.farPut hgs' [.int .i64 n.v, .int .u32 n.lo, .int .u32 n.hi, .bool true, .int .u8 0] (r * 5) (HF3.out.frm hq (fun _ _ => id))).far (p := ⟨g, 3, none⟩) (fun a ha => by injection ha with ha; subst ha; exact hgf) _
  · exact (Frm.put (.inr (.inl ⟨_, rfl, rfl⟩)) [.int .i64 n.v, .int .u32 n.lo, .int .u32 n.hi, .bool true, .int .u8 0] (r * 5) (HS3.out.trans hq (fun _ _ h => h.elim))).set _ _ (.inl rfl)

end
end Go.Proofs.Ytkajgopkdolhcaa
