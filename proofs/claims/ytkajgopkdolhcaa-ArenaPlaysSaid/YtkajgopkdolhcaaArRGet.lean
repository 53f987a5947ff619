/- The contracts of the reference's DocCount, DocGet, DocUp, DocDown. -/
import Derived.Test.YtkajgopkdolhcaaArRef
namespace Go.Proofs.Ytkajgopkdolhcaa
open Go.RowKit Go.Tk

section
variable {w : World} {d : Nat} {pl : Int} {es : List Pe} {B : Option Addr} {D : Nat}
theorem RSt.ne (h : RSt w d pl es B D) : ∀ b, rowOf B b → b ≠ d := by
  rintro b ⟨a, ha, rfl⟩
  exact h.own.ne_blk h.blk (by decide) a ha
theorem RSt.setOne {sb n j : Nat} {e e' : Pe} {u : Value} (h : RSt w d pl es (some ⟨sb, 0, none⟩) D) (he : es[n]? = some e) (hj : j < 5) (hc : e'.cells = e.cells.set j u) :
    RSt (w.setCell ⟨sb, n * 5 + j, none⟩ u) d pl (es.set n e') (some ⟨sb, 0, none⟩) D ∧ Frm (RFp d (some ⟨sb, 0, none⟩)) w (w.setCell ⟨sb, n * 5 + j, none⟩ u) := by
  have hn := h.ne sb ⟨_, rfl, rfl⟩
  refine ⟨⟨?_, ?_, by simpa using h.len⟩, (Frm.refl _ _).set _ _ (.inr ⟨_, rfl, rfl⟩)⟩
  · rw [List.length_set]; exact h.blk.far (p := ⟨sb, n * 5 + j, none⟩) (Ne.symm hn) u
  · rw [List.length_set]; exact h.own.store Pe.cells_len n j e e' u he hj hc

set_option maxHeartbeats 1000000 in
theorem RSt.count1 (r : Int) (hr : r ≤ 1) : Calls Try.prog 32 #[.pointer (some ⟨d, 0, none⟩), .int .u32 r] w fun e w' => e = .returned (.tuple #[.int .i64 255, .int .i64 0]) ∧ w = w' := by
  go_enter Try.func32, Try.ntmps32
  go_wp2_with (fail)
  go_ret2
  exact ⟨rfl, rfl⟩
set_option maxHeartbeats 1000000 in
theorem RSt.countN (h : RSt w d pl es B D) (r : Int) (hr : ¬ r ≤ 1) (hf : fndI es r = -1) : Calls Try.prog 32 #[.pointer (some ⟨d, 0, none⟩), .int .u32 r] w fun e w' => e = .returned (.tuple #[.int .i64 0, .int .i64 3]) ∧ w = w' := by
  have F := h.find r
  rw [hf] at F
  have F' := Lib.hid F
  clear F hf h
  go_enter Try.func32, Try.ntmps32
  go_wp2_with (fail)
  refine F'.out.mono ?_
  rintro e w1 ⟨rfl, rfl⟩
  go_wp2_with (fail)
  go_ret2
  exact ⟨rfl, rfl⟩
set_option maxHeartbeats 1000000 in
theorem RSt.countS (h : RSt w d pl es B D) (r : Int) (hr : ¬ r ≤ 1) {n : Nat} {e : Pe} (hf : fndI es r = n) (he : es[n]? = some e) : Calls Try.prog 32 #[.pointer (some ⟨d, 0, none⟩), .int .u32 r] w fun e' w' => e' = .returned (.tuple #[.int .i64 e.c, .int .i64 0]) ∧ w = w' := by
  have F := h.find r
  rw [hf] at F
  have F' := Lib.hid F
  have hlt := lt_of_get he
  obtain ⟨sb, rfl, hsb, hc⟩ := h.own.get Pe.cells_len he
  have c4 : w.cell? ⟨sb, n * 5 + 4, none⟩ = some (.int .i64 e.c) := hc 4 (by omega)
  have g1 := h.blk.cell 1
  have hi0 : (0 : Int) ≤ n := by omega
  have hi1 : (n : Int) < es.length := by omega
  have hn0 : ¬ (n : Int) < 0 := by omega
  simp at g1
  clear F hf h hc he
  go_enter Try.func32, Try.ntmps32
  go_wp2_with (fail)
  refine F'.out.mono ?_
  rintro e w1 ⟨rfl, rfl⟩
  go_wp2_with (fail)
  go_ret2
  exact ⟨rfl, rfl⟩
set_option maxHeartbeats 1000000 in
theorem RSt.up1 (r : Int) (hr : r ≤ 1) : Calls Try.prog 36 #[.pointer (some ⟨d, 0, none⟩), .int .u32 r] w fun e w' => e = .returned (.int .i64 0) ∧ w = w' := by
  go_enter Try.func36, Try.ntmps36
  go_wp2_with (fail)
  go_ret
  exact ⟨rfl, rfl⟩
set_option maxHeartbeats 1000000 in
theorem RSt.upN (h : RSt w d pl es B D) (r : Int) (hr : ¬ r ≤ 1) (hf : fndI es r = -1) : Calls Try.prog 36 #[.pointer (some ⟨d, 0, none⟩), .int .u32 r] w fun e w' => e = .returned (.int .i64 3) ∧ w = w' := by
  have F := h.find r
  rw [hf] at F
  have F' := Lib.hid F
  clear F hf h
  go_enter Try.func36, Try.ntmps36
  go_wp2_with (fail)
  refine F'.out.mono ?_
  rintro e w1 ⟨rfl, rfl⟩
  go_wp2_with (fail)
  go_ret
  exact ⟨rfl, rfl⟩
set_option maxHeartbeats 1000000 in
theorem RSt.down1 (r : Int) (hr : r ≤ 1) : Calls Try.prog 37 #[.pointer (some ⟨d, 0, none⟩), .int .u32 r] w fun e w' => e = .returned (.int .i64 0) ∧ w = w' := by
  go_enter Try.func37, Try.ntmps37
  go_wp2_with (fail)
  go_ret
  exact ⟨rfl, rfl⟩
set_option maxHeartbeats 1000000 in
theorem RSt.downN (h : RSt w d pl es B D) (r : Int) (hr : ¬ r ≤ 1) (hf : fndI es r = -1) : Calls Try.prog 37 #[.pointer (some ⟨d, 0, none⟩), .int .u32 r] w fun e w' => e = .returned (.int .i64 3) ∧ w = w' := by
  have F := h.find r
  rw [hf] at F
  have F' := Lib.hid F
  clear F hf h
  go_enter Try.func37, Try.ntmps37
  go_wp2_with (fail)
  refine F'.out.mono ?_
  rintro e w1 ⟨rfl, rfl⟩
  go_wp2_with (fail)
  go_ret
  exact ⟨rfl, rfl⟩
set_option maxRecDepth 100000 in
set_option maxHeartbeats 1000000 in
theorem RSt.downS (h : RSt w d pl es B D) (r : Int) (hr : ¬ r ≤ 1) {n : Nat} {e : Pe} (hf : fndI es r = n) (he : es[n]? = some e) (p0 : 0 ≤ e.c) (p1 : e.c ≤ 255) :
    Calls Try.prog 37 #[.pointer (some ⟨d, 0, none⟩), .int .u32 r] w fun e' w' => e' = .returned (.int .i64 (if e.c = 0 then 7 else 0)) ∧ RSt w' d pl (es.set n ⟨e.r, e.n, dnC e.c⟩) B D ∧ Frm (RFp d B) w w' := by
  have H := Lib.hid h
  have F := h.find r
  rw [hf] at F
  have F' := Lib.hid F
  have hlt := lt_of_get he
  obtain ⟨sb, rfl, hsb, hc⟩ := h.own.get Pe.cells_len he
  have c4 : w.cell? ⟨sb, n * 5 + 4, none⟩ = some (.int .i64 e.c) := hc 4 (by omega)
  have k4 := h.own.free (n * 5 + 4)
  have g1 := h.blk.cell 1
  have hi0 : (0 : Int) ≤ n := by omega
  have hi1 : (n : Int) < es.length := by omega
  have hn0 : ¬ (n : Int) < 0 := by omega
  simp at g1
  have HE := Lib.hid he
  clear F hf h hc he
  by_cases hz : e.c = 0
  · have he : (⟨e.r, e.n, dnC e.c⟩ : Pe) = e := by cases e; simp only at hz; subst hz; rfl
    rw [he, set_self HE.out, if_pos hz]
    clear he
    rw [hz] at c4
    go_enter Try.func37, Try.ntmps37
    go_wp2_with (fail)
    refine F'.out.mono ?_
    rintro e w1 ⟨rfl, rfl⟩
    go_wp2_with (fail)
    go_ret
    exact ⟨rfl, H.out, Frm.refl _ _⟩
  · rw [if_neg hz]
    have hz' : (e.c == 0) = false := by simpa using hz
    by_cases hm : e.c < 255
    · go_enter Try.func37, Try.ntmps37
      go_wp2_with (fail)
      refine F'.out.mono ?_
      rintro e w1 ⟨rfl, rfl⟩
      go_wp2_with (fail)
      go_ret
      have hs := H.out.setOne (j := 4) (e' := ⟨e.r, e.n, dnC e.c⟩) (u := .int .i64 (e.c - 1)) HE.out (by omega) (by simp [Pe.cells, dnC, hz, hm])
      exact ⟨rfl, hs.1, hs.2⟩
    · have he : (⟨e.r, e.n, dnC e.c⟩ : Pe) = e := by simp [dnC, hm]
      rw [he, set_self HE.out]
      clear he
      rw [show e.c = 255 by omega] at c4
      clear hm p0 p1 hz hz'
      go_enter Try.func37, Try.ntmps37
      go_wp2_with (fail)
      refine F'.out.mono ?_
      rintro e w1 ⟨rfl, rfl⟩
      go_wp2_with (fail)
      go_ret
      exact ⟨rfl, H.out, Frm.refl _ _⟩
end
end Go.Proofs.Ytkajgopkdolhcaa
