/- PermTwos: its walk. -/
import Derived.Test.YtibjpclmiaimaaaPmAwake
namespace Go.Proofs.Ytibjpclmiaimaaa
open Go.RowKit Go.Tk

theorem coL_le (p q : List Int) : (coL p q).length ≤ q.length := by unfold coL; split <;> simp [compL]
theorem paL_le (p q : List Int) : (paL p q).length ≤ 4096 := by
  unfold paL
  split
  · rename_i h
    obtain ⟨_, _, h1, h2⟩ := both_ok h
    exact pst_path64 h2 (by omega)
  · simp
abbrev intKs : List Leaf := [.int .i64]
theorem icell_of {w : World} (l : List Value) (h : CellsOk w intKs l) : ∃ x : Int, l = icell x := by
  simp only [CellsOk, CellOk] at h
  obtain ⟨v0, l0, rfl, ⟨n0, rfl, _⟩, rfl⟩ := h
  exact ⟨n0, rfl⟩
set_option maxHeartbeats 2000000 in
theorem twos_walk (A B : Option Addr) (n m C D : Nat) (xs ys : List Int) (w : World) (h : IL w A n xs) (h2 : IL w B m ys) (hr : n * 8 ≤ 140737488351232) (hr2 : m * 8 ≤ 140737488351232) :
    Calls Try.prog 3 #[.slice A n C, .slice B m D] w fun e w' => e = .returned (.bool true) ∧ Below w.heap.size w w' := by
  obtain rfl := h.len
  obtain rfl := h2.len
  have hco : (coL xs ys).length * 8 ≤ 140737488351232 := by have := coL_le xs ys; omega
  have hpa : (paL xs ys).length * 8 ≤ 140737488351232 := by have := paL_le xs ys; omega
  have HX := Lib.hid h
  have HY := Lib.hid h2
  clear h h2
  go_enter Try.func3, Try.ntmps3
  go_wp2_with (fail)
  refine (awake_any w).mono ?_
  rintro e w1 ⟨rfl, hs1⟩
  have HS2 := Lib.hid hs1
  clear hs1
  go_wp2_with (fail)
  refine (compose_any A B _ _ C D xs ys _ (Sl.same HX.out HS2.out) (Sl.same HY.out HS2.out) hr hr2).mono ?_
  rintro e w3 ⟨Aa, Ca, rfl, hN3⟩
  have hs3 := hN3.2.2
  have HS4 := Lib.hid ((HS2.out).trans hs3 (fun _ _ h => h))
  have HL4_a := Lib.hid hN3.il
  clear HS2 hs3
  clear hN3
  go_wp2_with (fail)
  refine (docCompose_any A B _ _ C D xs ys _ (Sl.same HX.out HS4.out) (Sl.same HY.out HS4.out) hr hr2).mono ?_
  rintro e w5 ⟨Ab, Cb, rfl, hN5⟩
  have hs5 := hN5.2.2
  have HL6_a := Lib.hid (Sl.same HL4_a.out hs5)
  have HS6 := Lib.hid ((HS4.out).trans hs5 (fun _ _ h => h))
  have HL6_b := Lib.hid hN5.il
  clear HL4_a HS4 hs5
  clear hN5
  go_wp2_with (fail)
  refine (path_any A B _ _ C D xs ys _ (Sl.same HX.out HS6.out) (Sl.same HY.out HS6.out) hr hr2).mono ?_
  rintro e w7 ⟨Ac, Cc, rfl, hN7⟩
  have hs7 := hN7.2.2
  have HL8_a := Lib.hid (Sl.same HL6_a.out hs7)
  have HL8_b := Lib.hid (Sl.same HL6_b.out hs7)
  have HS8 := Lib.hid ((HS6.out).trans hs7 (fun _ _ h => h))
  have HL8_c := Lib.hid hN7.il
  clear HL6_a HL6_b HS6 hs7
  clear hN7
  go_wp2_with (fail)
  refine (docPath_any A B _ _ C D xs ys _ (Sl.same HX.out HS8.out) (Sl.same HY.out HS8.out) hr hr2).mono ?_
  rintro e w9 ⟨Ad, Cd, rfl, hN9⟩
  have hs9 := hN9.2.2
  have HL10_a := Lib.hid (Sl.same HL8_a.out hs9)
  have HL10_b := Lib.hid (Sl.same HL8_b.out hs9)
  have HL10_c := Lib.hid (Sl.same HL8_c.out hs9)
  have HS10 := Lib.hid ((HS8.out).trans hs9 (fun _ _ h => h))
  have HL10_d := Lib.hid hN9.il
  clear HL8_a HL8_b HL8_c HS8 hs9
  clear hN9
  go_wp2_with (fail)
  refine (same_any Aa Ab _ _ Ca Cb _ _ _ HL10_a.out HL10_b.out hco hco).mono ?_
  rintro e w11 ⟨rfl, hs11⟩
  have HL12_a := Lib.hid (Sl.same HL10_a.out hs11)
  have HL12_b := Lib.hid (Sl.same HL10_b.out hs11)
  have HL12_c := Lib.hid (Sl.same HL10_c.out hs11)
  have HL12_d := Lib.hid (Sl.same HL10_d.out hs11)
  have HS12 := Lib.hid ((HS10.out).trans hs11 (fun _ _ h => h))
  clear HL10_a HL10_b HL10_c HL10_d HS10 hs11
  clear HL12_a
  clear HL12_b
  simp only [decide_true]
  go_wp2_with (fail)
  refine (same_any Ac Ad _ _ Cc Cd _ _ _ HL12_c.out HL12_d.out hpa hpa).mono ?_
  rintro e w13 ⟨rfl, hs13⟩
  have HL14_c := Lib.hid (Sl.same HL12_c.out hs13)
  have HL14_d := Lib.hid (Sl.same HL12_d.out hs13)
  have HS14 := Lib.hid ((HS12.out).trans hs13 (fun _ _ h => h))
  clear HL12_c HL12_d HS12 hs13
  clear HL14_c
  clear HL14_d
  simp only [decide_true]
  go_wp2
  go_ret
  exact ⟨rfl, HS14.out.to_below (Nat.le_refl _) (fun _ _ => id)⟩
end Go.Proofs.Ytibjpclmiaimaaa
