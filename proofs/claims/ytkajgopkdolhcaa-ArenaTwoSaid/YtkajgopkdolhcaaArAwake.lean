/- The arena's laws: their first look. -/
import Derived.Test.YtkajgopkdolhcaaArFree
namespace Go.Proofs.Ytkajgopkdolhcaa
open Go.RowKit Go.Tk

theorem eql_nd (x y : Nd) (w : World) : (binOp .eql 34 x.val y.val).run Try.prog w = .ok (.bool (decide (x = y))) w := by
  obtain ⟨o, a, b⟩ := x
  obtain ⟨o', a', b'⟩ := y
  unfold Nd.val
  simp only [binOp]
  by_cases h1 : o = o' <;> by_cases h2 : a = a' <;> by_cases h3 : b = b' <;> simp [Op.equal, Op.maxDepth, run_equalIn_struct, go_sem, h1, h2, h3]
theorem neq_nd (x y : Nd) (w : World) : (binOp .neq 34 x.val y.val).run Try.prog w = .ok (.bool (!decide (x = y))) w := by
  obtain ⟨o, a, b⟩ := x
  obtain ⟨o', a', b'⟩ := y
  unfold Nd.val
  simp only [binOp]
  by_cases h1 : o = o' <;> by_cases h2 : a = a' <;> by_cases h3 : b = b' <;> simp [Op.equal, Op.maxDepth, run_equalIn_struct, go_sem, h1, h2, h3]

set_option maxRecDepth 100000 in
set_option maxHeartbeats 2000000 in
theorem awake_any (w : World) : Calls Try.prog 7 #[] w fun e w' => e = .returned (.bool true) ∧ Same w w' := by
  go_enter Try.func7, Try.ntmps7
  go_wp2_with (fail)
  refine (new_ok 4 w (by decide) (by decide)).mono ?_
  rintro e w1 ⟨rfl, A, C, h1, hs1, hA1⟩
  have c1 := alloc_push h1 ⟨5, 0, 1⟩ (by decide) (by decide) (by decide) (by decide) (by decide) (by decide) (by decide) (by decide)
  rw [show ((l01.length : Nat) : Int) = 2 from rfl] at c1
  go_wp2_with (fail)
  refine c1.mono ?_
  rintro e w2 ⟨rfl, A2, C2, h2, hf2, hA2⟩
  have c2 := alloc_push h2 ⟨6, 2, 1⟩ (by decide) (by decide) (by decide) (by decide) (by decide) (by decide) (by decide) (by decide)
  rw [show (((l01 ++ [(⟨⟨5, 0, 1⟩, true, 0⟩ : Pl)]).length : Nat) : Int) = 3 from rfl] at c2
  clear c1
  go_wp2_with (fail)
  refine c2.mono ?_
  rintro e w3 ⟨rfl, A3, C3, h3, hf3, hA3⟩
  clear c2
  go_wp2_with (fail)
  refine (alloc_full h3 ⟨5, 0, 1⟩ (by decide) (by decide) (by decide) (by decide) (by decide) (by decide)).mono ?_
  rintro e w4 ⟨rfl, hs4⟩
  have h4 := h3.frm hs4 (fun _ _ => id)
  have c4 := h4.get 3 (by decide) (by decide)
  rw [show getN (l01 ++ [(⟨⟨5, 0, 1⟩, true, 0⟩ : Pl)] ++ [(⟨⟨6, 2, 1⟩, true, 0⟩ : Pl)]) 3 = ⟨6, 2, 1⟩ from rfl, show getE (l01 ++ [(⟨⟨5, 0, 1⟩, true, 0⟩ : Pl)] ++ [(⟨⟨6, 2, 1⟩, true, 0⟩ : Pl)]) 3 = 0 from rfl] at c4
  simp only [Nd.val] at c4
  go_wp2_with (fail)
  refine c4.mono ?_
  rintro e w5 ⟨rfl, hs5⟩
  clear c4
  have h5 := h4.frm hs5 (fun _ _ => id)
  have heq : ∀ w, (binOp .eql 34 (.agg #[.int .i64 6, .int .u32 2, .int .u32 1]) (.agg #[.int .i64 6, .int .u32 2, .int .u32 1])).run Try.prog w = .ok (.bool true) w := fun w => eql_nd ⟨6, 2, 1⟩ ⟨6, 2, 1⟩ w
  have hS5 : Same w w5 := by
    have z1 := hs1.size
    have z2 := hf2.size
    have a1 : Same w w2 := hs1.trans hf2 (by
      rintro i hi (h | h | ⟨a, h, _⟩)
      · omega
      · have := hA1 i h; omega
      · cases h)
    have a2 : Same w w3 := a1.trans hf3 (by
      rintro i hi (h | h | ⟨a, h, _⟩)
      · omega
      · rcases hA2 i h with h | h
        · have := hA1 i h; omega
        · omega
      · cases h)
    exact (a2.trans hs4 (fun _ _ h => h)).trans hs5 (fun _ _ h => h)
  have H5 := Lib.hid h5
  have HS5 := Lib.hid hS5
  clear h1 hs1 hA1 h2 hf2 hA2 h3 hf3 hA3 h4 hs4 hs5 h5 hS5
  go_wp2_with (fail)
  refine call_world fun w6 hw6 => ?_
  have hs6 : Same w5 w6 := by rw [hw6]; exact (Frm.refl _ _).alloc _
  clear hw6
  refine ((H5.out.frm hs6 (fun _ _ => id)).used).mono ?_
  rintro e w7 ⟨rfl, rfl⟩
  go_wp2_with (fail)
  refine ((H5.out.frm hs6 (fun _ _ => id)).places).mono ?_
  rintro e w7 ⟨rfl, rfl⟩
  go_wp2
  go_ret
  exact ⟨by simp, HS5.out.trans hs6 (fun _ _ h => h)⟩
end Go.Proofs.Ytkajgopkdolhcaa
