/- The contract of the reference's DocFree. -/
import Derived.Test.YtkajgopkdolhcaaArRTake
import Derived.Test.YtkajgopkdolhcaaStep
namespace Go.Proofs.Ytkajgopkdolhcaa
open Go.RowKit Go.Tk

section
variable {w : World} {d : Nat} {pl : Int} {es : List Pe} {B : Option Addr} {D : Nat}
set_option maxHeartbeats 1000000 in
theorem RSt.freeN (h : RSt w d pl es B D) (r : Int) (hf : fndI es r = -1) : Calls Try.prog 28 #[.pointer (some ⟨d, 0, none⟩), .int .u32 r] w fun e w' => e = .returned (.int .i64 3) ∧ w = w' := by
  have F := h.find r
  rw [hf] at F
  have F' := Lib.hid F
  clear F hf h
  go_enter Try.func28, Try.ntmps28
  go_wp2_with (fail)
  refine F'.out.mono ?_
  rintro e w1 ⟨rfl, rfl⟩
  go_wp2_with (fail)
  go_ret
  exact ⟨rfl, rfl⟩
set_option maxRecDepth 100000 in
set_option maxHeartbeats 2000000 in
theorem RSt.freeS (h : RSt w d pl es B D) (r : Int) {n : Nat} {e : Pe} (hf : fndI es r = n) (he : es[n]? = some e) :
    Calls Try.prog 28 #[.pointer (some ⟨d, 0, none⟩), .int .u32 r] w fun e' w' => e' = .returned (.int .i64 0) ∧
      ∃ B' D', RSt w' d pl (es.take n ++ es.drop (n + 1)) B' D' ∧ Frm (RFp d B) w w' ∧ (∀ b, rowOf B' b → rowOf B b ∨ w.heap.size ≤ b) := by
  have F := h.find r
  rw [hf] at F
  have F' := Lib.hid F
  have hlt := lt_of_get he
  have hlen := h.len
  have hd := h.blk.lt
  have g1 := h.blk.cell 1
  have f1 := h.blk.free 1
  have hcells := fun i x => h.own.get (i := i) (x := x) Pe.cells_len
  obtain ⟨sb, rfl, hsb⟩ := h.own.form (by omega)
  have hi0 : (0 : Int) ≤ n := by omega
  have hi1 : (n : Int) < es.length := by omega
  have hn0 : ¬ (n : Int) < 0 := by omega
  have hcap : es.length ≤ D := h.own.cap
  simp at g1
  have H := Lib.hid h
  clear F hf h he
  go_enter Try.func28, Try.ntmps28
  go_wp2_with (fail)
  refine F'.out.mono ?_
  rintro e' w1 ⟨rfl, rfl⟩
  have hpc : ∀ (i : Nat) (x : Pe), es[i]? = some x → ∀ j, j < 5 → w.cell? ⟨sb, i * 5 + j, none⟩ = (Pe.cells x)[j]? := fun i x hx => by
    obtain ⟨sb', h1, _, h3⟩ := hcells i x hx
    cases h1
    exact h3
  have hlt1 : (es.take n).length = n := by rw [List.length_take]; omega
  have hone : ∀ y : Pe, ∀ u ∈ y.cells, u.oneCell' = true := fun y u hu => by
    simp only [Pe.cells, List.mem_cons, List.not_mem_nil, or_false] at hu
    rcases hu with rfl | rfl | rfl | rfl | rfl <;> rfl
  have hp1 := part_cells Pe.cells_len (by omega) hpc 0 (es.take n) (fun i x hx => by
    rw [List.getElem?_take] at hx
    split at hx
    · rw [Nat.zero_add]; exact hx
    · cases hx)
  have HPC := Lib.hid hpc
  have HP1 := Lib.hid hp1
  have HT := Lib.hid hlt1
  have HU := Lib.hid hone
  clear hpc hp1 hlt1 hone hcells
  have hlt2 : (es.drop (n + 1)).length = es.length - (n + 1) := List.length_drop
  have HT2 := Lib.hid hlt2
  clear hlt2
  go_upto_region 5 with fail
  refine wp_read 7 ?_
  simp only [List.take_succ_cons, List.take_zero, List.drop_succ_cons, List.drop_zero]
  repeat (any_goals (first | go_big_quiet_step (fail) | quiet_step (fail)))
  refine wpQuiet_nil ?_
  refine wpList_plain rfl fun K hK => ?_
  refine Own.append_many (.tmp 12) (.tmp 18) _ rfl Try.underlying75 info_pe rfl (by omega) rfl (Own.nil w _ _ _) Pe.cells_len (es.take n) (some ⟨sb, 0, none⟩) D (by rw [HT.out]; rfl) (fun _ => ⟨_, rfl, by simpa using HP1.out⟩) (fun y _ => HU.out y) (by rw [HT.out]; simp [maxLen]; omega) (by rw [HT.out]; simp; omega) ?_
  intro A1 C1 w1 hO1 hg1 hat1
  refine hK _ _ ?_
  clear hK K
  simp only [List.nil_append, HT.out] at hO1 ⊢
  have hs1 : Same w w1 := (Frm.refl _ _).grown hg1 (fun g hg => by cases hg)
  have h1 := H.out.frm hs1 (fun _ _ => id)
  have e1 := h1.blk.cell 1
  have ef := h1.blk.free 1
  have ed := h1.blk.lt
  simp at e1
  have hp2 : ∀ j u, ((es.drop (n + 1)).flatMap Pe.cells)[j]? = some u → w1.cell? ((⟨sb, (n + 1) * 5, none⟩ : Addr).add j) = some u := part_cells Pe.cells_len (by omega) (fun i x hx j hj => by rw [← HPC.out i x hx j hj]; exact hs1.cell hsb id) (n + 1) (es.drop (n + 1)) (fun i x hx => by rw [List.getElem?_drop] at hx; exact hx)
  have H1 := Lib.hid h1
  have HO1 := Lib.hid hO1
  have HS1 := Lib.hid hs1
  have HA1 := Lib.hid hat1
  have HP2 := Lib.hid hp2
  have hi2 : (n : Int) + 1 ≤ es.length := by omega
  have hi3 : (0 : Int) ≤ n + 1 := by omega
  have hi4 : ((n : Int) + 1).toNat = n + 1 := by omega
  have hi5 : IntKind.i64.wrap ((n : Int) + 1) = n + 1 := IntWalk.i64_in _ (by omega)
  clear h1 hO1 hs1 hat1 hg1 hp2
  go_upto_region 6 with fail
  refine wp_read 9 ?_
  simp only [List.take_succ_cons, List.take_zero, List.drop_succ_cons, List.drop_zero]
  repeat (any_goals (first | go_big_quiet_step (fail) | quiet_step (fail)))
  refine wpQuiet_nil ?_
  refine wpList_plain rfl fun K hK => ?_
  refine Own.append_many (.tmp 21) (.tmp 28) _ rfl Try.underlying75 info_pe rfl (by omega) rfl HO1.out Pe.cells_len (es.drop (n + 1)) (if D = n + 1 then some ⟨sb, 0, none⟩ else some ⟨sb, (n + 1) * 5, none⟩) (D - (n + 1)) (by rw [HT2.out]; rfl) (fun hne => ?_) (fun y _ => HU.out y) (by rw [HT.out, HT2.out]; simp [maxLen]; omega) (by rw [HT.out, HT2.out]; omega) ?_
  · split
    · exact absurd (List.drop_eq_nil_of_le (by omega)) hne
    · exact ⟨_, rfl, HP2.out⟩
  intro A2 C2 w2 hO2 hg2 hat2
  refine hK _ _ ?_
  clear hK K
  have hs2 : Frm (fun b => rowOf A1 b) w1 w2 := (Frm.refl _ _).grown hg2 (fun g hg => .inl (ownBlock_row.1 hg))
  have hA1d : ¬ rowOf A1 d := fun hr => by
    obtain ⟨a, ha, he⟩ := hr
    exact HO1.out.ne_blk H1.out.blk (by decide) a ha he
  have hlen2 : (es.take n ++ es.drop (n + 1)).length ≤ 1048576 := by rw [List.length_append, HT.out, HT2.out]; omega
  have b2 := H1.out.blk.frm hs2 hA1d
  have e2 := b2.cell 1
  have ef2 := b2.free 1
  have ed2 := b2.lt
  simp at e2
  generalize hes2 : es.take n ++ es.drop (n + 1) = es2 at hO2 hlen2 ⊢
  have HE := Lib.hid hes2
  clear hes2
  have HB2 := Lib.hid b2
  have HO2 := Lib.hid hO2
  have HS2 := Lib.hid hs2
  have HA2 := Lib.hid hat2
  clear b2 hO2 hs2 hat2 hg2 hA1d
  have hA2d : ∀ a, A2 = some a → a.block ≠ d := fun a ha => HO2.out.ne_blk HB2.out (by decide) a ha
  have hfin : ∃ B' D', RSt (w2.setCell ⟨d, 1, none⟩ (Value.slice A2 es2.length C2)) d pl (es.take n ++ es.drop (n + 1)) B' D' ∧ Frm (RFp d (some ⟨sb, 0, none⟩)) w (w2.setCell ⟨d, 1, none⟩ (Value.slice A2 es2.length C2)) ∧
      (∀ b, rowOf B' b → rowOf (some ⟨sb, 0, none⟩) b ∨ w.heap.size ≤ b) := by
    rw [HE.out]
    refine ⟨A2, C2, ⟨HB2.out.set _ _, HO2.out.far (p := ⟨d, 1, none⟩) hA2d _, hlen2⟩, ?_, ?_⟩
    · refine ((HS1.out.mono (S' := RFp d (some ⟨sb, 0, none⟩)) (fun _ _ h => h.elim)).trans HS2.out (fun i hi h => ?_)).set _ _ (.inl rfl)
      rcases HA1.out i h with h | h
      · obtain ⟨a, ha, _⟩ := h
        cases ha
      · omega
    · intro b hb
      rcases HA2.out b hb with h | h
      · rcases HA1.out b h with h | h
        · obtain ⟨a, ha, _⟩ := h
          cases ha
        · right; omega
      · right
        have := HS1.out.size
        omega
  have HFIN := Lib.hid hfin
  clear hfin hA2d
  go_wp2
  all_goals
    go_ret
    simpa using HFIN.out
end
end Go.Proofs.Ytkajgopkdolhcaa
