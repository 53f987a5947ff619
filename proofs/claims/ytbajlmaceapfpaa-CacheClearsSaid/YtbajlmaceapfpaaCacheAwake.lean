/- The law's first look: some calls whose answers are fixed. -/
import Derived.Test.YtbajlmaceapfpaaCacheRem
namespace Go.Proofs.Ytbajlmaceapfpaa
open Go.RowKit Go.Tk

/-- a cache alone -/
structure CSt (w : World) (g n cl : Nat) (ls : List Ln) (L : Option Nat) : Prop where
  pos : 0 < n
  max : n ≤ 1048576
  blk : Blk w g 52 #[lv L n, .int .i64 n, .int .u64 cl]
  lines : LinesOk w L n ls
  len : ls.length = n
theorem CSt.frm {w w' : World} {S : Nat → Prop} {g n cl : Nat} {ls : List Ln} {L : Option Nat} (h : CSt w g n cl ls L) (hf : Frm S w w') (h1 : ¬ S g) (h2 : ∀ b, L = some b → ¬ S b) : CSt w' g n cl ls L :=
  ⟨h.pos, h.max, h.blk.frm hf h1, h.lines.frm hf h2, h.len⟩
theorem CSt.get {w : World} {g n cl : Nat} {ls : List Ln} {L : Option Nat} (h : CSt w g n cl ls L) (hc : cl < 9223372036854775807) (k : Ky) :
    ∃ l, ls[k.at n]? = some l ∧ Calls Try.prog 14 #[.pointer (some ⟨g, 0, none⟩), k.val] w fun e w' => e = .returned (.tuple #[.int .u32 (ansR l k cl), .bool (hit l k cl)]) ∧ Same w w' :=
  get_st h.pos h.max h.blk h.lines h.len hc k
theorem CSt.put {w : World} {g n cl : Nat} {ls : List Ln} {L : Option Nat} (h : CSt w g n cl ls L) (hc : cl < 9223372036854775807) (k : Ky) (r : Int) :
    Calls Try.prog 12 #[.pointer (some ⟨g, 0, none⟩), k.val, .int .u32 r] w fun e w' => e = .returned (.tuple #[]) ∧
      ∃ L', CSt w' g n cl (ls.set (k.at n) ⟨k, r, (cl : Int) + 1⟩) L' ∧ Frm (fun b => b = g ∨ L = some b) w w' ∧ (∀ b, L' = some b → L = some b ∨ w.heap.size ≤ b) :=
  (put_st h.pos h.max h.blk h.lines h.len hc k r).mono fun _ _ ⟨h1, L', h2, h3, h4, h5⟩ => ⟨h1, L', ⟨h.pos, h.max, h2, h3, by simpa using h.len⟩, h4, h5⟩
theorem CSt.clear {w : World} {g n cl : Nat} {ls : List Ln} {L : Option Nat} (h : CSt w g n cl ls L) (hc : cl < 9223372036854775807) :
    Calls Try.prog 13 #[.pointer (some ⟨g, 0, none⟩)] w fun e w' => e = .returned (.tuple #[]) ∧ CSt w' g n (cl + 1) ls L ∧ Frm (fun b => b = g) w w' := by
  refine (clear_any g n cl _ w h.blk hc).mono ?_
  rintro e w' ⟨he, rfl⟩
  have hf : Frm (fun b => b = g) w (w.setCell ⟨g, 2, none⟩ (.int .u64 (cl + 1 : Nat))) := (Frm.refl (fun b => b = g) _).set _ _ rfl
  refine ⟨he, ⟨h.pos, h.max, h.blk.set 2 _, h.lines.frm hf (fun b hb => ?_), h.len⟩, hf⟩
  have hl := h.lines
  subst hb
  exact Blk.ne hl h.blk (by decide)
theorem CSt.new (w : World) (n : Nat) (hp : 0 < n) (hm : n ≤ 1048576) :
    Calls Try.prog 8 #[.int .i64 n] w fun e w' => e = .returned (.tuple #[.pointer (some ⟨w.heap.size, 0, none⟩), .int .i64 0]) ∧ CSt w' w.heap.size n 0 (List.replicate n zeroLn) none ∧ Same w w' := by
  refine (new_ok n w (by omega) (by omega)).mono ?_
  rintro e w' ⟨he, rfl⟩
  exact ⟨he, ⟨hp, hm, Blk.new _ _ _, rfl, by simp⟩, (Frm.refl _ _).alloc _⟩

theorem set_get {n : Nat} {ls : List Ln} {i : Nat} {x l : Ln} (hlen : ls.length = n) (hi : i < n) (h : (ls.set i x)[i]? = some l) : l = x := by
  rw [List.getElem?_set, if_pos rfl, if_pos (by omega)] at h
  injection h with h
  exact h.symm
theorem set_cases {ls : List Ln} {i j : Nat} {x l : Ln} (h : (ls.set i x)[j]? = some l) : l = x ∨ ls[j]? = some l := by
  rw [List.getElem?_set] at h
  split at h
  · split at h
    · injection h with h; exact .inl h.symm
    · cases h
  · exact .inr h
set_option maxHeartbeats 1000000 in
theorem awake_any (w : World) : Calls Try.prog 7 #[] w fun e w' => e = .returned (.bool true) ∧ Same w w' := by
  go_enter Try.func7, Try.ntmps7
  go_wp2_with (fail)
  refine (CSt.new w 3 (by decide) (by decide)).mono ?_
  rintro e w1 ⟨rfl, hc1, hs1⟩
  have hg1 := hc1.blk.lt
  go_wp2_with (fail)
  refine call_world fun w2 hw2 => ?_
  have hs2 : Same w1 w2 := by rw [hw2]; exact (Frm.refl _ _).alloc _
  have hX := Blk.new w1 34 #[.int .u8 3, .int .u32 4, .int .u32 5, .int .u32 6]
  rw [← hw2] at hX
  clear hw2
  have hc2 := hc1.frm hs2 id (fun _ _ => id)
  have hgX := hc2.blk.ne hX (by decide)
  refine (hc2.put (by decide) ⟨3, 4, 5, 6⟩ 7).mono ?_
  rintro e w3 ⟨rfl, L, hc3, hf3, hL⟩
  have hX3 := hX.frm hf3 (by rintro (h | h); exact hgX h.symm; cases h)
  have x0 := hX3.cell 0
  have x1 := hX3.cell 1
  have x2 := hX3.cell 2
  have x3 := hX3.cell 3
  simp at x0 x1 x2 x3
  go_wp2_with (fail)
  obtain ⟨l, hl, hget⟩ := hc3.get (by decide) ⟨3, 4, 5, 6⟩
  have hl1 := set_get (n := 3) (by simp) (idx_lt (by decide) _ _ _ _) hl
  have hh : hit l ⟨3, 4, 5, 6⟩ 0 = true := by rw [hl1]; simp [hit]
  have hr : ansR l ⟨3, 4, 5, 6⟩ 0 = 7 := by unfold ansR; rw [hh, hl1]; rfl
  rw [hh, hr] at hget
  refine hget.mono ?_
  rintro e w4 ⟨rfl, hs4⟩
  clear hget
  have hc4 := hc3.frm hs4 id (fun _ _ => id)
  have hX4 := hX3.frm hs4 id
  obtain ⟨l', hl', hget⟩ := hc4.get (by decide) ⟨3, 4, 5, 7⟩
  have hh' : hit l' ⟨3, 4, 5, 7⟩ 0 = false := by
    rcases set_cases hl' with h | h
    · rw [h]; simp [hit]
    · have := List.eq_of_mem_replicate (List.mem_of_getElem? h)
      rw [this]; simp [hit, zeroLn]
  have hr' : ansR l' ⟨3, 4, 5, 7⟩ 0 = 0 := by unfold ansR; rw [hh']; rfl
  rw [hh', hr'] at hget
  go_wp2_with (fail)
  refine hget.mono ?_
  rintro e w5 ⟨rfl, hs5⟩
  clear hget
  have hc5 := hc4.frm hs5 id (fun _ _ => id)
  have hX5 := hX4.frm hs5 id
  go_wp2_with (fail)
  refine (hc5.clear (by decide)).mono ?_
  rintro e w6 ⟨rfl, hc6, hf6⟩
  have hX6 := hX5.frm hf6 (Ne.symm hgX)
  have y0 := hX6.cell 0
  have y1 := hX6.cell 1
  have y2 := hX6.cell 2
  have y3 := hX6.cell 3
  simp at y0 y1 y2 y3
  obtain ⟨l2, hl2, hget⟩ := hc6.get (by decide) ⟨3, 4, 5, 6⟩
  have hl3 := set_get (n := 3) (by simp) (idx_lt (by decide) _ _ _ _) hl2
  have hh2 : hit l2 ⟨3, 4, 5, 6⟩ (0 + 1) = false := by rw [hl3]; simp [hit]
  have hr2 : ansR l2 ⟨3, 4, 5, 6⟩ (0 + 1) = 0 := by unfold ansR; rw [hh2]; rfl
  rw [hh2, hr2] at hget
  go_wp2_with (fail)
  refine hget.mono ?_
  rintro e w7 ⟨rfl, hs7⟩
  clear hget
  have hc7 := hc6.frm hs7 id (fun _ _ => id)
  go_wp2_with (fail)
  refine (gen_same w.heap.size 3 (0 + 1) _ w7 hc7.blk).mono ?_
  rintro e w8 ⟨rfl, hs8⟩
  go_wp2
  go_ret
  refine ⟨by simp, ?_⟩
  have z1 := hs1.size
  have z2 := hs2.size
  have z3 := hf3.size
  have z4 := hs4.size
  have z5 := hs5.size
  have z6 := hf6.size
  refine ((((((hs1.trans hs2 (fun _ _ h => h)).trans hf3 ?_).trans hs4 (fun _ _ h => h)).trans hs5 (fun _ _ h => h)).trans hf6 ?_).trans hs7 (fun _ _ h => h)).trans hs8 (fun _ _ h => h)
  · rintro i hi (h | h)
    · omega
    · cases h
  · intro i hi h
    omega
end Go.Proofs.Ytbajlmaceapfpaa
