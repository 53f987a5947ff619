/- The contracts of the reference's DocUp, DocGet, DocSet where they find the place. -/
import Derived.Test.YtkajgopkdolhcaaArRGet
namespace Go.Proofs.Ytkajgopkdolhcaa
open Go.RowKit Go.Tk

section
variable {w : World} {d : Nat} {pl : Int} {es : List Pe} {B : Option Addr} {D : Nat}
set_option maxRecDepth 100000 in
set_option maxHeartbeats 1000000 in
theorem RSt.upS (h : RSt w d pl es B D) (r : Int) (hr : ¬ r ≤ 1) {n : Nat} {e : Pe} (hf : fndI es r = n) (he : es[n]? = some e) (p0 : 0 ≤ e.c) (p1 : e.c ≤ 255) :
    Calls Try.prog 36 #[.pointer (some ⟨d, 0, none⟩), .int .u32 r] w fun e' w' => e' = .returned (.int .i64 0) ∧ RSt w' d pl (es.set n ⟨e.r, e.n, upC e.c⟩) B D ∧ Frm (RFp d B) w w' := by
  have H := Lib.hid h
  have F := h.find r
  rw [hf] at F
  have F' := Lib.hid F
  have hlt := lt_of_get he
  have hlen := h.len
  have hd := h.blk.lt
  obtain ⟨sb, rfl, hsb, hc⟩ := h.own.get Pe.cells_len he
  have c4 : w.cell? ⟨sb, n * 5 + 4, none⟩ = some (.int .i64 e.c) := hc 4 (by omega)
  have k4 := h.own.free (n * 5 + 4)
  have g1 := h.blk.cell 1
  have hi0 : (0 : Int) ≤ n := by omega
  have hi1 : (n : Int) < es.length := by omega
  have hn0 : ¬ (n : Int) < 0 := by omega
  simp at g1
  have HE := Lib.hid he
  clear F hf h hc he
  have HW : Hid (∀ q k, upC e.c = q → RSt ((more w k).setCell ⟨sb, n * 5 + 4, none⟩ (.int .i64 q)) d pl (es.set n ⟨e.r, e.n, upC e.c⟩) (some ⟨sb, 0, none⟩) D ∧ Frm (RFp d (some ⟨sb, 0, none⟩)) w ((more w k).setCell ⟨sb, n * 5 + 4, none⟩ (.int .i64 q))) := Lib.hid (fun q k hq => by
    subst hq
    have hk := more_same w k
    obtain ⟨a, f⟩ := (H.out.frm hk (fun _ _ => id)).setOne (j := 4) (u := .int .i64 (upC e.c)) (e' := ⟨e.r, e.n, upC e.c⟩) HE.out (by omega) rfl
    exact ⟨a, (hk.mono (fun _ _ h => h.elim)).trans f (fun _ _ h => h)⟩)
  go_enter Try.func36, Try.ntmps36
  go_wp2_with (fail)
  refine F'.out.mono ?_
  rintro e w1 ⟨rfl, rfl⟩
  go_wp2_with (fail)
  refine wp_quiet_tail 17 (by kernel_rfl) (by kernel_rfl) ?_
  simp only [List.take_succ_cons, List.take_zero, List.drop_succ_cons, List.drop_zero]
  by_cases hm : e.c < 255
  · have hm1 : ¬ (255 : Int) < e.c + 1 := by omega
    have hm2 : e.c + 1 ≤ (255 : Int) := by omega
    have HM : Hid (upC e.c = e.c + 1) := Lib.hid (by simp [upC, hm])
    repeat (any_goals (first | go_big_quiet_step (fail) | quiet_step (fail)))

    all_goals (refine wpQuiet_nil ?_; rintro _ ⟨q, rfl⟩)
    go_wp2
    go_ret
    exact ⟨rfl, HW.out _ _ HM.out⟩
  · have HM : Hid (upC e.c = 255) := Lib.hid (by unfold upC; split <;> omega)
    rw [show e.c = 255 by omega] at c4
    repeat (any_goals (first | go_big_quiet_step (fail) | quiet_step (fail)))
    all_goals (refine wpQuiet_nil ?_; rintro _ ⟨q, rfl⟩)
    go_wp2
    go_ret
    exact ⟨rfl, HW.out _ _ HM.out⟩
end
end Go.Proofs.Ytkajgopkdolhcaa
