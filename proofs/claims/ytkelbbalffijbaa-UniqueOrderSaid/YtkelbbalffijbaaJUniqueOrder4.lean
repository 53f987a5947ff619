/- Contracts and plain laws, put together in one file. No condition. -/
import Derived.Test.YtkelbbalffijbaaJUniqueOrder3
import Derived.Test.YtkelbbalffijbaaRows


/- Layer 07: does. -/
namespace Go.Proofs.Ytkelbbalffijbaa
open Go.RowKit Go.Tk Go.Maps

theorem doL_add {vars : Nat} {L : List Ent} {k : Int} {n : Nd} {r : Int} (h : k = 1) : doL vars L ⟨k, n, r⟩ = addL vars L n r := if_pos h
theorem doL_rem {vars : Nat} {L : List Ent} {k : Int} {n : Nd} {r : Int} (h : k = 2) : doL vars L ⟨k, n, r⟩ = remL vars L n := by unfold doL; rw [if_neg (by simp only; omega), if_pos h]
theorem doL_else {vars : Nat} {L : List Ent} {k : Int} {n : Nd} {r : Int} (h : ¬ k = 1 ∧ ¬ k = 2) : doL vars L ⟨k, n, r⟩ = L := by unfold doL; rw [if_neg h.1, if_neg h.2]
set_option maxRecDepth 100000 in
set_option maxHeartbeats 8000000 in
theorem does_any (U : UTab) (vars : Nat) (A : Option Addr) (C : Nat) (L : List Ent) (ok nv nl nh orf : Int) (hn : Nd.ok ⟨nv, nl, nh⟩) (hr : (Lit.int .u32 orf).wf = true) (w : World) (h : UT w U vars L) (hd : OE w A C L) (hb : (L.length + 1) * 24 ≤ 140737488355328) :
    Calls Try.prog 11 #[.pointer (some ⟨U.T, 0, none⟩), dtab vars A L.length C, .agg #[.int .i64 ok, .int .i64 nv, .int .u32 nl, .int .u32 nh, .int .u32 orf]] w fun e w' => ∃ A' C', e = .returned (.tuple #[dtab vars A' (doL vars L ⟨ok, ⟨nv, nl, nh⟩, orf⟩).length C', .bool true]) ∧ UT w' U vars (doL vars L ⟨ok, ⟨nv, nl, nh⟩, orf⟩) ∧ OE w' A' C' (doL vars L ⟨ok, ⟨nv, nl, nh⟩, orf⟩) ∧ Frm (UB U vars) w w' := by
  have HB := Lib.hid hb
  have HH := Lib.hid h
  have HDD := Lib.hid hd
  unfold dtab
  clear h hd hb
  go_enter Try.func11, Try.ntmps11
  go_upto_region 1 with fail
  refine wp_world fun w1 hw1 => ?_
  have hs1 : Same w w1 := by rw [hw1]; exact (((Frm.refl _ _).alloc _).alloc _).alloc _
  have hX : Blk w1 w.heap.size 30 #[.int .i64 vars, .slice A L.length C] := by rw [hw1]; exact ((Blk.new _ _ _).alloc _).alloc _
  have hY : Blk w1 (w.heap.size + 1) 38 #[.int .i64 ok, .int .i64 nv, .int .u32 nl, .int .u32 nh, .int .u32 orf] := by
    rw [hw1]
    have := (Blk.new (w.alloc (.cells #[.int .i64 vars, .slice A L.length C] 30)) 38 #[.int .i64 ok, .int .i64 nv, .int .u32 nl, .int .u32 nh, .int .u32 orf]).alloc (.cells #[.int .i64 0, .slice none 0 0] 30)
    rwa [World.size_alloc] at this
  have hR : Blk w1 (w.heap.size + 1 + 1) 30 #[.int .i64 0, .slice none 0 0] := by
    rw [hw1]
    have := Blk.new ((w.alloc (.cells #[.int .i64 vars, .slice A L.length C] 30)).alloc (.cells #[.int .i64 ok, .int .i64 nv, .int .u32 nl, .int .u32 nh, .int .u32 orf] 38)) 30 #[.int .i64 0, .slice none 0 0]
    rwa [World.size_alloc, World.size_alloc] at this
  obtain ⟨X, hXX⟩ : ∃ z, z = w.heap.size := ⟨_, rfl⟩
  obtain ⟨Y, hYY⟩ : ∃ z, z = w.heap.size + 1 := ⟨_, rfl⟩
  obtain ⟨R, hRR⟩ : ∃ z, z = w.heap.size + 1 + 1 := ⟨_, rfl⟩
  rw [← hRR] at hR ⊢
  rw [← hYY] at hY ⊢
  rw [← hXX] at hX ⊢
  have hlo : w.heap.size ≤ R ∧ X ≠ R ∧ Y ≠ R := by omega
  have HLO := Lib.hid hlo
  have HSB := Lib.hid (show ¬ U.sb = R from fun e => by have := HH.out.sl; omega)
  have cX0 : w1.cell? ⟨X, 0, none⟩ = some (.int .i64 vars) := hX.cell 0
  have cX1 : w1.cell? ⟨X, 1, none⟩ = some (.slice A L.length C) := hX.cell 1
  have lX := hX.lt
  have cY0 : w1.cell? ⟨Y, 0, none⟩ = some (.int .i64 ok) := hY.cell 0
  have cY1 : w1.cell? ⟨Y, 1, none⟩ = some (.int .i64 nv) := hY.cell 1
  have cY2 : w1.cell? ⟨Y, 2, none⟩ = some (.int .u32 nl) := hY.cell 2
  have cY3 : w1.cell? ⟨Y, 3, none⟩ = some (.int .u32 nh) := hY.cell 3
  have cY4 : w1.cell? ⟨Y, 4, none⟩ = some (.int .u32 orf) := hY.cell 4
  have lY := hY.lt
  have HX := Lib.hid hX
  have HY := Lib.hid hY
  have HR := Lib.hid hR
  have HS1 := Lib.hid hs1
  have HU := Lib.hid (HH.out.same hs1)
  have HD0 := Lib.hid (show OE w1 A C L from HDD.out.frm hs1 (fun _ _ => id))
  clear hw1 hs1 hX hXX hYY hRR hY hR hlo
  rcases Decidable.em (ok = 1) with hk1 | hk1
  · have HK := Lib.hid (show ok = 1 from hk1)
    subst hk1
    go_wp2_with (fail)
    refine (uradd_any vars A C L ⟨nv, nl, nh⟩ orf w1 HD0.out (by have := HB.out; omega)).mono ?_
    rintro e w2 ⟨A2, C2, rfl, hO, hs2⟩
    unfold dtab
    obtain ⟨L2, hL2⟩ : ∃ z, z = addL vars L ⟨nv, nl, nh⟩ orf := ⟨_, rfl⟩
    obtain ⟨er, her⟩ : ∃ z, z = addE vars L ⟨nv, nl, nh⟩ := ⟨_, rfl⟩
    have HADD := Lib.hid (fun w h => uqadd_any U vars L ⟨nv, nl, nh⟩ hn orf hr (by have := HB.out; show L.length < 9223372036854775807; omega) w h)
    rw [← hL2] at hO ⊢
    rw [← hL2, ← her] at HADD
    rw [← her]
    have HL2 := Lib.hid hL2
    have hU2 := HU.out.same hs2
    have HY2 := Lib.hid (HY.out.frm hs2 id)
    have HR2 := Lib.hid (HR.out.frm hs2 id)
    have HO := Lib.hid hO
    have HU2 := Lib.hid hU2
    have HS2 := Lib.hid (HS1.out.trans hs2 (fun _ _ h => h))
    clear hL2 her hO hU2 hs2 cX0 cX1 lX cY0 cY1 cY2 cY3 cY4 lY
    go_upto_region 4 with fail
    refine wp_world fun w3 hw3 => ?_
    have hs3 : Same w2 w3 := by rw [hw3]; exact (Frm.refl _ _).alloc _
    have hZ : Blk w3 w2.heap.size 30 #[.int .i64 vars, .slice A2 L2.length C2] := by rw [hw3]; exact Blk.new _ _ _
    obtain ⟨Z, hZZ⟩ : ∃ z, z = w2.heap.size := ⟨_, rfl⟩
    rw [← hZZ] at hZ ⊢
    clear hw3
    have hY := HY2.out.frm hs3 id
    have hR := HR2.out.frm hs3 id
    have cY0 : w3.cell? ⟨Y, 0, none⟩ = some (.int .i64 1) := hY.cell 0
    have cY1 : w3.cell? ⟨Y, 1, none⟩ = some (.int .i64 nv) := hY.cell 1
    have cY2 : w3.cell? ⟨Y, 2, none⟩ = some (.int .u32 nl) := hY.cell 2
    have cY3 : w3.cell? ⟨Y, 3, none⟩ = some (.int .u32 nh) := hY.cell 3
    have cY4 : w3.cell? ⟨Y, 4, none⟩ = some (.int .u32 orf) := hY.cell 4
    have lY := hY.lt
    have cR0 : w3.cell? ⟨R, 0, none⟩ = some (.int .i64 0) := hR.cell 0
    have cR1 : w3.cell? ⟨R, 1, none⟩ = some (.slice none 0 0) := hR.cell 1
    have fR0 := hR.free 0
    have fR1 := hR.free 1
    have lR := hR.lt
    have cZ0 : w3.cell? ⟨Z, 0, none⟩ = some (.int .i64 vars) := hZ.cell 0
    have cZ1 : w3.cell? ⟨Z, 1, none⟩ = some (.slice A2 L2.length C2) := hZ.cell 1
    have lZ := hZ.lt
    have hU3 := HU2.out.same hs3
    have nY0 : ¬ UB U vars Y := hU3.notUB_cells hY
    have nZ0 : ¬ UB U vars Z := hU3.notUB_cells hZ
    have nR0 : ¬ UB U vars R := hU3.notUB_cells hR
    have hZR : R < Z := by have := HR2.out.lt; omega
    obtain ⟨S, hS⟩ : ∃ S : Nat → Prop, S = fun b => UB U vars b ∨ b = R := ⟨_, rfl⟩
    have nY : ¬ S Y := by rw [hS]; rintro (h | h); exact nY0 h; exact HLO.out.2.2 h
    have nZ : ¬ S Z := by rw [hS]; rintro (h | h); exact nZ0 h; omega
    have sR : S R := by rw [hS]; exact .inr rfl
    have HSS := Lib.hid hS
    have HR3 := Lib.hid hR
    have HNR := Lib.hid nR0
    have HU3 := Lib.hid hU3
    have HO3 := Lib.hid (show OE w3 A2 C2 L2 from HO.out.frm hs3 (fun _ _ => id))
    have HS3 := Lib.hid (HS2.out.trans hs3 (fun _ _ h => h))
    have HADD3 := Lib.hid (HADD.out w3.drew (hU3.same ((Frm.refl _ _).drew)))
    clear hZZ hs3 hY hR hZ hU3 hS nR0 nY0 nZ0 hZR HY2 HR2 HU2 HO HADD
    refine wp_phS S [([0, 1, 2, 3, 4, 5, 7], 6), ([8], 9), ([], 10)] (by kernel_rfl) (by kernel_rfl) ?_
    simp only [wpPh, pick, List.map_cons, List.map_nil, List.getD_cons_zero, List.getD_cons_succ]
    repeat (any_goals (first | go_big_quiet_step (fail) | quiet_step (fail)))
    refine wpQuiet_nil ?_
    refine effStep_plain rfl fun K hK => ?_
    go_simp
    refine HADD3.out.mono ?_
    rintro e w4 ⟨rfl, hU4, hf4⟩
    have hf4' : Frm S w3 w4 := ((Frm.refl S w3).drew).trans hf4 (fun i _ h => by rw [HSS.out]; exact .inl h)
    refine hK _ _ (Lat.mk_ hf4') ?_
    clear hK K
    have hR4 := HR3.out.frm (S := UB U vars) (w' := w4) (((Frm.refl (UB U vars) w3).drew).trans hf4 (fun _ _ h => h)) HNR.out
    have HO4 := Lib.hid (show OE w4 A2 C2 L2 from HO3.out.frm (((Frm.refl (UB U vars) w3).drew).trans hf4 (fun _ _ h => h)) (HU3.out.notUB_own HO3.out))
    have HU4 := Lib.hid hU4
    have HR4 := Lib.hid hR4
    have HF4 := Lib.hid hf4'
    have HFW := Lib.hid (((Frm.refl (UB U vars) w).trans HS3.out (fun _ _ h => h.elim)).trans (((Frm.refl (UB U vars) w3).drew).trans hf4 (fun _ _ h => h)) (fun _ _ h => h))
    clear hf4 hf4' hU4 hR4 HADD3
    repeat (any_goals (first | go_big_quiet_step (fail) | quiet_step (fail)))
    refine wpQuiet_nil ?_
    refine effStep_plain rfl fun K hK => ?_
    have cR0 : w4.cell? ⟨R, 0, none⟩ = some (.int .i64 0) := HR4.out.cell 0
    have cR1 : w4.cell? ⟨R, 1, none⟩ = some (.slice none 0 0) := HR4.out.cell 1
    have fR0 := HR4.out.free 0
    have fR1 := HR4.out.free 1
    have lR := HR4.out.lt
    go_simp
    obtain ⟨we, hwe⟩ : ∃ z, z = (w4.setCell ⟨R, 0, none⟩ (.int .i64 vars)).setCell ⟨R, 1, none⟩ (.slice A2 L2.length C2) := ⟨_, rfl⟩
    rw [← hwe]
    have hB : Blk we R 30 #[.int .i64 vars, .slice A2 L2.length C2] := by
      rw [hwe]
      have := (HR4.out.set 0 (.int .i64 vars)).set 1 (.slice A2 L2.length C2)
      simpa using this
    have hfR : Frm (fun b => b = R) w4 we := by rw [hwe]; exact ((Frm.refl (fun b => b = R) w4).set 0 _ rfl).set 1 _ rfl
    have q0 : we.cell? ⟨R, 0, none⟩ = some (.int .i64 vars) := hB.cell 0
    have q1 : we.cell? ⟨R, 1, none⟩ = some (.slice A2 L2.length C2) := hB.cell 1
    have hOe : OE we A2 C2 L2 := HO4.out.frm hfR (fun a ha e => HO4.out.ne_blk HR4.out (by decide) a ha e)
    have hUe : UT we U vars L2 := HU4.out.frm hfR (fun e => (HU4.out.t.ne HR4.out (by decide)) e |>.elim) (fun e => HSB.out e) (fun v hv e => HU4.out.notUB_cells HR4.out ⟨v, hv, e.symm⟩)
    have hFe : Frm (UB U vars) w we := HFW.out.trans hfR (fun i hi e => by have h1 := HLO.out.1; have e' : i = R := e; omega)
    refine hK _ _ (Lat.mk_ (HF4.out.trans hfR (fun i _ e => by have e' : i = R := e; rw [e']; exact sR))) ?_
    clear hK K
    have HOe := Lib.hid hOe
    have HUe := Lib.hid hUe
    have HFe := Lib.hid hFe
    clear hwe hB hfR hOe hUe hFe
    refine wpQuiet_nil ?_
    go_wp2
    refine bodyPost_ret (v := .tuple #[.agg #[.int .i64 vars, .slice A2 L2.length C2], .bool true]) (by simp [results, Try.results11, go_sem, q0, q1]) rfl ?_
    rw [doL_add rfl, ← HL2.out]
    exact ⟨A2, C2, rfl, HUe.out, HOe.out, HFe.out⟩
  · rcases Decidable.em (ok = 2) with hk2 | hk2
    · have HK := Lib.hid (show ok = 2 from hk2)
      subst hk2
      go_wp2_with (fail)
      refine (urrem_any vars A C L ⟨nv, nl, nh⟩ w1 HD0.out HU.out.nd (by have := HB.out; omega)).mono ?_
      rintro e w2 ⟨A2, C2, rfl, hO, hs2⟩
      unfold dtab
      obtain ⟨L2, hL2⟩ : ∃ z, z = remL vars L ⟨nv, nl, nh⟩ := ⟨_, rfl⟩
      obtain ⟨er, her⟩ : ∃ z, z = remE vars L ⟨nv, nl, nh⟩ := ⟨_, rfl⟩
      have HADD := Lib.hid (fun w h => uqrem_any U vars L ⟨nv, nl, nh⟩ hn w h)
      rw [← hL2] at hO ⊢
      rw [← hL2, ← her] at HADD
      rw [← her]
      have HL2 := Lib.hid hL2
      have hU2 := HU.out.same hs2
      have HY2 := Lib.hid (HY.out.frm hs2 id)
      have HR2 := Lib.hid (HR.out.frm hs2 id)
      have HO := Lib.hid hO
      have HU2 := Lib.hid hU2
      have HS2 := Lib.hid (HS1.out.trans hs2 (fun _ _ h => h))
      clear hL2 her hO hU2 hs2 cX0 cX1 lX cY0 cY1 cY2 cY3 cY4 lY
      go_upto_region 7 with fail
      refine wp_world fun w3 hw3 => ?_
      have hs3 : Same w2 w3 := by rw [hw3]; exact (Frm.refl _ _).alloc _
      have hZ : Blk w3 w2.heap.size 30 #[.int .i64 vars, .slice A2 L2.length C2] := by rw [hw3]; exact Blk.new _ _ _
      obtain ⟨Z, hZZ⟩ : ∃ z, z = w2.heap.size := ⟨_, rfl⟩
      rw [← hZZ] at hZ ⊢
      clear hw3
      have hY := HY2.out.frm hs3 id
      have hR := HR2.out.frm hs3 id
      have cY0 : w3.cell? ⟨Y, 0, none⟩ = some (.int .i64 2) := hY.cell 0
      have cY1 : w3.cell? ⟨Y, 1, none⟩ = some (.int .i64 nv) := hY.cell 1
      have cY2 : w3.cell? ⟨Y, 2, none⟩ = some (.int .u32 nl) := hY.cell 2
      have cY3 : w3.cell? ⟨Y, 3, none⟩ = some (.int .u32 nh) := hY.cell 3
      have cY4 : w3.cell? ⟨Y, 4, none⟩ = some (.int .u32 orf) := hY.cell 4
      have lY := hY.lt
      have cR0 : w3.cell? ⟨R, 0, none⟩ = some (.int .i64 0) := hR.cell 0
      have cR1 : w3.cell? ⟨R, 1, none⟩ = some (.slice none 0 0) := hR.cell 1
      have fR0 := hR.free 0
      have fR1 := hR.free 1
      have lR := hR.lt
      have cZ0 : w3.cell? ⟨Z, 0, none⟩ = some (.int .i64 vars) := hZ.cell 0
      have cZ1 : w3.cell? ⟨Z, 1, none⟩ = some (.slice A2 L2.length C2) := hZ.cell 1
      have lZ := hZ.lt
      have hU3 := HU2.out.same hs3
      have nY0 : ¬ UB U vars Y := hU3.notUB_cells hY
      have nZ0 : ¬ UB U vars Z := hU3.notUB_cells hZ
      have nR0 : ¬ UB U vars R := hU3.notUB_cells hR
      have hZR : R < Z := by have := HR2.out.lt; omega
      obtain ⟨S, hS⟩ : ∃ S : Nat → Prop, S = fun b => UB U vars b ∨ b = R := ⟨_, rfl⟩
      have nY : ¬ S Y := by rw [hS]; rintro (h | h); exact nY0 h; exact HLO.out.2.2 h
      have nZ : ¬ S Z := by rw [hS]; rintro (h | h); exact nZ0 h; omega
      have sR : S R := by rw [hS]; exact .inr rfl
      have HSS := Lib.hid hS
      have HR3 := Lib.hid hR
      have HNR := Lib.hid nR0
      have HU3 := Lib.hid hU3
      have HO3 := Lib.hid (show OE w3 A2 C2 L2 from HO.out.frm hs3 (fun _ _ => id))
      have HS3 := Lib.hid (HS2.out.trans hs3 (fun _ _ h => h))
      have HADD3 := Lib.hid (HADD.out w3.drew (hU3.same ((Frm.refl _ _).drew)))
      clear hZZ hs3 hY hR hZ hU3 hS nR0 nY0 nZ0 hZR HY2 HR2 HU2 HO HADD
      refine wp_phS S [([0, 1, 2, 3, 5], 4), ([6], 7), ([], 8)] (by kernel_rfl) (by kernel_rfl) ?_
      simp only [wpPh, pick, List.map_cons, List.map_nil, List.getD_cons_zero, List.getD_cons_succ]
      repeat (any_goals (first | go_big_quiet_step (fail) | quiet_step (fail)))
      refine wpQuiet_nil ?_
      refine effStep_plain rfl fun K hK => ?_
      go_simp
      refine HADD3.out.mono ?_
      rintro e w4 ⟨rfl, hU4, hf4⟩
      have hf4' : Frm S w3 w4 := ((Frm.refl S w3).drew).trans hf4 (fun i _ h => by rw [HSS.out]; exact .inl h)
      refine hK _ _ (Lat.mk_ hf4') ?_
      clear hK K
      have hR4 := HR3.out.frm (S := UB U vars) (w' := w4) (((Frm.refl (UB U vars) w3).drew).trans hf4 (fun _ _ h => h)) HNR.out
      have HO4 := Lib.hid (show OE w4 A2 C2 L2 from HO3.out.frm (((Frm.refl (UB U vars) w3).drew).trans hf4 (fun _ _ h => h)) (HU3.out.notUB_own HO3.out))
      have HU4 := Lib.hid hU4
      have HR4 := Lib.hid hR4
      have HF4 := Lib.hid hf4'
      have HFW := Lib.hid (((Frm.refl (UB U vars) w).trans HS3.out (fun _ _ h => h.elim)).trans (((Frm.refl (UB U vars) w3).drew).trans hf4 (fun _ _ h => h)) (fun _ _ h => h))
      clear hf4 hf4' hU4 hR4 HADD3
      repeat (any_goals (first | go_big_quiet_step (fail) | quiet_step (fail)))
      refine wpQuiet_nil ?_
      refine effStep_plain rfl fun K hK => ?_
      have cR0 : w4.cell? ⟨R, 0, none⟩ = some (.int .i64 0) := HR4.out.cell 0
      have cR1 : w4.cell? ⟨R, 1, none⟩ = some (.slice none 0 0) := HR4.out.cell 1
      have fR0 := HR4.out.free 0
      have fR1 := HR4.out.free 1
      have lR := HR4.out.lt
      go_simp
      obtain ⟨we, hwe⟩ : ∃ z, z = (w4.setCell ⟨R, 0, none⟩ (.int .i64 vars)).setCell ⟨R, 1, none⟩ (.slice A2 L2.length C2) := ⟨_, rfl⟩
      rw [← hwe]
      have hB : Blk we R 30 #[.int .i64 vars, .slice A2 L2.length C2] := by
        rw [hwe]
        have := (HR4.out.set 0 (.int .i64 vars)).set 1 (.slice A2 L2.length C2)
        simpa using this
      have hfR : Frm (fun b => b = R) w4 we := by rw [hwe]; exact ((Frm.refl (fun b => b = R) w4).set 0 _ rfl).set 1 _ rfl
      have q0 : we.cell? ⟨R, 0, none⟩ = some (.int .i64 vars) := hB.cell 0
      have q1 : we.cell? ⟨R, 1, none⟩ = some (.slice A2 L2.length C2) := hB.cell 1
      have hOe : OE we A2 C2 L2 := HO4.out.frm hfR (fun a ha e => HO4.out.ne_blk HR4.out (by decide) a ha e)
      have hUe : UT we U vars L2 := HU4.out.frm hfR (fun e => (HU4.out.t.ne HR4.out (by decide)) e |>.elim) (fun e => HSB.out e) (fun v hv e => HU4.out.notUB_cells HR4.out ⟨v, hv, e.symm⟩)
      have hFe : Frm (UB U vars) w we := HFW.out.trans hfR (fun i hi e => by have h1 := HLO.out.1; have e' : i = R := e; omega)
      refine hK _ _ (Lat.mk_ (HF4.out.trans hfR (fun i _ e => by have e' : i = R := e; rw [e']; exact sR))) ?_
      clear hK K
      have HOe := Lib.hid hOe
      have HUe := Lib.hid hUe
      have HFe := Lib.hid hFe
      clear hwe hB hfR hOe hUe hFe
      refine wpQuiet_nil ?_
      go_wp2
      refine bodyPost_ret (v := .tuple #[.agg #[.int .i64 vars, .slice A2 L2.length C2], .bool true]) (by simp [results, Try.results11, go_sem, q0, q1]) rfl ?_
      rw [doL_rem rfl, ← HL2.out]
      exact ⟨A2, C2, rfl, HUe.out, HOe.out, HFe.out⟩
    · have HK := Lib.hid (show ¬ ok = 1 ∧ ¬ ok = 2 from ⟨hk1, hk2⟩)
      rcases Decidable.em (ok = 3) with hk3 | hk3
      · clear hk1 hk2
        subst hk3
        have hlk : ∃ x b, x = (look L ⟨nv, nl, nh⟩).getD 0 ∧ b = (look L ⟨nv, nl, nh⟩).isSome := ⟨_, _, rfl, rfl⟩
        obtain ⟨xr, xb, hxr, hxb⟩ := hlk
        have HF1 := Lib.hid (uqfind_any U vars L ⟨nv, nl, nh⟩ hn w1 HU.out)
        have HF2 := Lib.hid (fun w h => urfind_any vars A C L ⟨nv, nl, nh⟩ w h (by have := HB.out; omega))
        rw [← hxr, ← hxb] at HF1 HF2
        unfold dtab at HF2
        clear hxr hxb
        cases xb
        all_goals
          go_wp2_with (fail)
          refine HF1.out.mono ?_
          rintro e w2 ⟨rfl, hs2⟩
          have hX := HX.out.frm hs2 id
          have hY := HY.out.frm hs2 id
          have cX0 : w2.cell? ⟨X, 0, none⟩ = some (.int .i64 vars) := hX.cell 0
          have cX1 : w2.cell? ⟨X, 1, none⟩ = some (.slice A L.length C) := hX.cell 1
          have lX := hX.lt
          have cY0 : w2.cell? ⟨Y, 0, none⟩ = some (.int .i64 3) := hY.cell 0
          have cY1 : w2.cell? ⟨Y, 1, none⟩ = some (.int .i64 nv) := hY.cell 1
          have cY2 : w2.cell? ⟨Y, 2, none⟩ = some (.int .u32 nl) := hY.cell 2
          have cY3 : w2.cell? ⟨Y, 3, none⟩ = some (.int .u32 nh) := hY.cell 3
          have cY4 : w2.cell? ⟨Y, 4, none⟩ = some (.int .u32 orf) := hY.cell 4
          have lY := hY.lt
          have HD2 := Lib.hid (show OE w2 A C L from HD0.out.frm hs2 (fun _ _ => id))
          have HS2 := Lib.hid (HS1.out.trans hs2 (fun _ _ h => h))
          have HU2 := Lib.hid (HU.out.same hs2)
          have HX2 := Lib.hid hX
          have HY2 := Lib.hid hY
          have HR2 := Lib.hid (HR.out.frm hs2 id)
          clear hs2 hX hY HF1
          go_wp2_with (fail)
          refine (HF2.out w2 (OE.el HD2.out)).mono ?_
          rintro e w3 ⟨rfl, hs3⟩
          have hX := HX2.out.frm hs3 id
          have hR := HR2.out.frm hs3 id
          have cX0 : w3.cell? ⟨X, 0, none⟩ = some (.int .i64 vars) := hX.cell 0
          have cX1 : w3.cell? ⟨X, 1, none⟩ = some (.slice A L.length C) := hX.cell 1
          have lX := hX.lt
          have cR0 : w3.cell? ⟨R, 0, none⟩ = some (.int .i64 0) := hR.cell 0
          have cR1 : w3.cell? ⟨R, 1, none⟩ = some (.slice none 0 0) := hR.cell 1
          have fR0 := hR.free 0
          have fR1 := hR.free 1
          have lR := hR.lt
          have HD3 := Lib.hid (show OE w3 A C L from HD2.out.frm hs3 (fun _ _ => id))
          have HS3 := Lib.hid (HS2.out.trans hs3 (fun _ _ h => h))
          have HU3 := Lib.hid (HU2.out.same hs3)
          have HR3 := Lib.hid hR
          have HFW := Lib.hid ((Frm.refl (UB U vars) w).trans HS3.out (fun _ _ h => h.elim))
          clear hs3 hX hR HF2 cY0 cY1 cY2 cY3 cY4 lY
          go_wp2
          refine wp_post fun we hwe => ?_
          have hB : Blk we R 30 #[.int .i64 vars, .slice A L.length C] := by
            rw [hwe]
            have := (HR3.out.set 0 (.int .i64 vars)).set 1 (.slice A L.length C)
            simpa using this
          have hfR : Frm (fun b => b = R) w3 we := by rw [hwe]; exact ((Frm.refl (fun b => b = R) w3).set 0 _ rfl).set 1 _ rfl
          have q0 : we.cell? ⟨R, 0, none⟩ = some (.int .i64 vars) := hB.cell 0
          have q1 : we.cell? ⟨R, 1, none⟩ = some (.slice A L.length C) := hB.cell 1
          have hOe : OE we A C L := HD3.out.frm hfR (fun a ha e => HD3.out.ne_blk HR3.out (by decide) a ha e)
          have hUe : UT we U vars L := HU3.out.frm hfR (fun e => (HU3.out.t.ne HR3.out (by decide)) e |>.elim) (fun e => HSB.out e) (fun v hv e => HU3.out.notUB_cells HR3.out ⟨v, hv, e.symm⟩)
          have hFe : Frm (UB U vars) w we := HFW.out.trans hfR (fun i hi e => by have h1 := HLO.out.1; have e' : i = R := e; omega)
          have HOe := Lib.hid hOe
          have HUe := Lib.hid hUe
          have HFe := Lib.hid hFe
          clear hwe hB hfR hOe hUe hFe
          refine bodyPost_ret (v := .tuple #[.agg #[.int .i64 vars, .slice A L.length C], .bool true]) (by simp [results, Try.results11, go_sem, q0, q1]) rfl ?_
          rw [doL_else (by decide)]
          exact ⟨A, C, rfl, HUe.out, HOe.out, HFe.out⟩
      · rcases Decidable.em (ok = 4) with hk4 | hk4
        · clear hk1 hk2 hk3
          subst hk4
          have HCNT := Lib.hid (uqcount_both U vars L nv w1 HU.out)
          have HRF := Lib.hid (fun w h => urrefs_both vars A C L nv w h (by have := HB.out; omega))
          unfold dtab at HRF
          obtain ⟨ys, hys⟩ : ∃ z, z = rvL vars L nv := ⟨_, rfl⟩
          obtain ⟨er, her⟩ : ∃ z, z = vErr vars nv := ⟨_, rfl⟩
          rw [← hys, ← her] at HCNT HRF
          clear hys her
          go_wp2_with (fail)
          refine HCNT.out.mono ?_
          rintro e w2 ⟨rfl, hv⟩
          subst hv
          go_wp2_with (fail)
          refine (HRF.out w2 (OE.el HD0.out)).mono ?_
          rintro e w3 ⟨Aq, Cq, rfl, hq, _, hs3⟩
          have hX := HX.out.frm hs3 id
          have hR := HR.out.frm hs3 id
          have cX0 : w3.cell? ⟨X, 0, none⟩ = some (.int .i64 vars) := hX.cell 0
          have cX1 : w3.cell? ⟨X, 1, none⟩ = some (.slice A L.length C) := hX.cell 1
          have lX := hX.lt
          have cR0 : w3.cell? ⟨R, 0, none⟩ = some (.int .i64 0) := hR.cell 0
          have cR1 : w3.cell? ⟨R, 1, none⟩ = some (.slice none 0 0) := hR.cell 1
          have fR0 := hR.free 0
          have fR1 := hR.free 1
          have lR := hR.lt
          have HD3 := Lib.hid (show OE w3 A C L from HD0.out.frm hs3 (fun _ _ => id))
          have HS3 := Lib.hid (HS1.out.trans hs3 (fun _ _ h => h))
          have HU3 := Lib.hid (HU.out.same hs3)
          have HR3 := Lib.hid hR
          have HFW := Lib.hid ((Frm.refl (UB U vars) w).trans HS3.out (fun _ _ h => h.elim))
          clear hs3 hX hR hq HRF HCNT cY0 cY1 cY2 cY3 cY4 lY
          go_wp2
          refine wp_post fun we hwe => ?_
          have hB : Blk we R 30 #[.int .i64 vars, .slice A L.length C] := by
            rw [hwe]
            have := (HR3.out.set 0 (.int .i64 vars)).set 1 (.slice A L.length C)
            simpa using this
          have hfR : Frm (fun b => b = R) w3 we := by rw [hwe]; exact ((Frm.refl (fun b => b = R) w3).set 0 _ rfl).set 1 _ rfl
          have q0 : we.cell? ⟨R, 0, none⟩ = some (.int .i64 vars) := hB.cell 0
          have q1 : we.cell? ⟨R, 1, none⟩ = some (.slice A L.length C) := hB.cell 1
          have hOe : OE we A C L := HD3.out.frm hfR (fun a ha e => HD3.out.ne_blk HR3.out (by decide) a ha e)
          have hUe : UT we U vars L := HU3.out.frm hfR (fun e => (HU3.out.t.ne HR3.out (by decide)) e |>.elim) (fun e => HSB.out e) (fun v hv e => HU3.out.notUB_cells HR3.out ⟨v, hv, e.symm⟩)
          have hFe : Frm (UB U vars) w we := HFW.out.trans hfR (fun i hi e => by have h1 := HLO.out.1; have e' : i = R := e; omega)
          have HOe := Lib.hid hOe
          have HUe := Lib.hid hUe
          have HFe := Lib.hid hFe
          clear hwe hB hfR hOe hUe hFe
          refine bodyPost_ret (v := .tuple #[.agg #[.int .i64 vars, .slice A L.length C], .bool true]) (by simp [results, Try.results11, go_sem, q0, q1]) rfl ?_
          rw [doL_else (by decide)]
          exact ⟨A, C, rfl, HUe.out, HOe.out, HFe.out⟩
        · rcases Decidable.em (ok = 5) with hk5 | hk5
          · clear hk1 hk2 hk3 hk4
            subst hk5
            have HCNT := Lib.hid (uqrefs_both U vars L nv w1 HU.out (by have := HB.out; omega))
            have HRF := Lib.hid (fun w h => urrefs_both vars A C L nv w h (by have := HB.out; omega))
            unfold dtab at HRF
            have hylen : (rvL vars L nv).length ≤ 1000000000000000000 := by have := rvL_len vars L nv; have := HB.out; omega
            obtain ⟨ys, hys⟩ : ∃ z, z = rvL vars L nv := ⟨_, rfl⟩
            obtain ⟨er, her⟩ : ∃ z, z = vErr vars nv := ⟨_, rfl⟩
            rw [← hys] at hylen
            rw [← hys, ← her] at HCNT HRF
            have HYL := Lib.hid hylen
            clear hys her hylen
            go_wp2_with (fail)
            refine HCNT.out.mono ?_
            rintro e w2 ⟨Ap, Cp, rfl, hp, _, hs2⟩
            have hX := HX.out.frm hs2 id
            have hY := HY.out.frm hs2 id
            have cX0 : w2.cell? ⟨X, 0, none⟩ = some (.int .i64 vars) := hX.cell 0
            have cX1 : w2.cell? ⟨X, 1, none⟩ = some (.slice A L.length C) := hX.cell 1
            have lX := hX.lt
            have cY0 : w2.cell? ⟨Y, 0, none⟩ = some (.int .i64 5) := hY.cell 0
            have cY1 : w2.cell? ⟨Y, 1, none⟩ = some (.int .i64 nv) := hY.cell 1
            have cY2 : w2.cell? ⟨Y, 2, none⟩ = some (.int .u32 nl) := hY.cell 2
            have cY3 : w2.cell? ⟨Y, 3, none⟩ = some (.int .u32 nh) := hY.cell 3
            have cY4 : w2.cell? ⟨Y, 4, none⟩ = some (.int .u32 orf) := hY.cell 4
            have lY := hY.lt
            have HD2 := Lib.hid (show OE w2 A C L from HD0.out.frm hs2 (fun _ _ => id))
            have HS2 := Lib.hid (HS1.out.trans hs2 (fun _ _ h => h))
            have HU2 := Lib.hid (HU.out.same hs2)
            have HX2 := Lib.hid hX
            have HR2 := Lib.hid (HR.out.frm hs2 id)
            have HP2 := Lib.hid hp
            clear hs2 hX hY hp HCNT
            go_wp2_with (fail)
            refine (HRF.out w2 (OE.el HD2.out)).mono ?_
            rintro e w3 ⟨Aq, Cq, rfl, hq, _, hs3⟩
            have hX := HX2.out.frm hs3 id
            have hR := HR2.out.frm hs3 id
            have cX0 : w3.cell? ⟨X, 0, none⟩ = some (.int .i64 vars) := hX.cell 0
            have cX1 : w3.cell? ⟨X, 1, none⟩ = some (.slice A L.length C) := hX.cell 1
            have lX := hX.lt
            have cR0 : w3.cell? ⟨R, 0, none⟩ = some (.int .i64 0) := hR.cell 0
            have cR1 : w3.cell? ⟨R, 1, none⟩ = some (.slice none 0 0) := hR.cell 1
            have fR0 := hR.free 0
            have fR1 := hR.free 1
            have lR := hR.lt
            have HP3 := Lib.hid (show RU w3 Ap Cp ys from HP2.out.frm hs3 (fun _ _ => id))
            have HQ3 := Lib.hid hq
            have HD3 := Lib.hid (show OE w3 A C L from HD2.out.frm hs3 (fun _ _ => id))
            have HS3 := Lib.hid (HS2.out.trans hs3 (fun _ _ h => h))
            have HU3 := Lib.hid (HU2.out.same hs3)
            have HR3 := Lib.hid hR
            clear hs3 hX hR hq HRF cY0 cY1 cY2 cY3 cY4 lY
            obtain ⟨S, hS⟩ : ∃ S : Nat → Prop, S = fun b => b = R := ⟨_, rfl⟩
            have nX : ¬ S X := by rw [hS]; exact HLO.out.2.1
            have sR : S R := by rw [hS]
            clear hS
            go_upto_region 19 with fail
            refine wp_phS S [([0, 1, 2], 3), ([4, 5, 6, 7, 8], 9), ([], 10)] (by kernel_rfl) (by kernel_rfl) ?_
            simp only [wpPh, pick, List.map_cons, List.map_nil, List.getD_cons_zero, List.getD_cons_succ]
            repeat (any_goals (first | go_big_quiet_step (fail) | quiet_step (fail)))
            refine wpQuiet_nil ?_
            refine effStep_plain rfl fun K hK => ?_
            go_simp
            refine (usame_any Ap Aq Cp Cq ys ys w3.drew (RU.ul (HP3.out.frm ((Frm.refl (fun _ => False) w3).drew) (fun _ _ => id))) (RU.ul (HQ3.out.frm ((Frm.refl (fun _ => False) w3).drew) (fun _ _ => id))) HYL.out HYL.out).mono ?_
            rw [decide_eq_true (rfl : ys = ys)]
            rintro e w4 ⟨rfl, hs4⟩
            have hs4' : Same w3 w4 := ((Frm.refl _ w3).drew).trans hs4 (fun _ _ h => h)
            have HF4 := Lib.hid ((Frm.refl S w3).trans hs4' (fun _ _ h => h.elim))
            refine hK _ _ (Lat.mk_ HF4.out) ?_
            clear hK K
            have HR4 := Lib.hid (HR3.out.frm hs4' id)
            have HD4 := Lib.hid (show OE w4 A C L from HD3.out.frm hs4' (fun _ _ => id))
            have HU4 := Lib.hid (HU3.out.same hs4')
            have HFW := Lib.hid ((Frm.refl (UB U vars) w).trans (HS3.out.trans hs4' (fun _ _ h => h)) (fun _ _ h => h.elim))
            clear hs4 hs4'
            repeat (any_goals (first | go_big_quiet_step (fail) | quiet_step (fail)))
            refine wpQuiet_nil ?_
            refine effStep_plain rfl fun K hK => ?_
            have cR0 : w4.cell? ⟨R, 0, none⟩ = some (.int .i64 0) := HR4.out.cell 0
            have cR1 : w4.cell? ⟨R, 1, none⟩ = some (.slice none 0 0) := HR4.out.cell 1
            have fR0 := HR4.out.free 0
            have fR1 := HR4.out.free 1
            have lR := HR4.out.lt
            go_simp
            obtain ⟨we, hwe⟩ : ∃ z, z = (w4.setCell ⟨R, 0, none⟩ (.int .i64 vars)).setCell ⟨R, 1, none⟩ (.slice A L.length C) := ⟨_, rfl⟩
            rw [← hwe]
            have hB : Blk we R 30 #[.int .i64 vars, .slice A L.length C] := by
              rw [hwe]
              have := (HR4.out.set 0 (.int .i64 vars)).set 1 (.slice A L.length C)
              simpa using this
            have hfR : Frm (fun b => b = R) w4 we := by rw [hwe]; exact ((Frm.refl (fun b => b = R) w4).set 0 _ rfl).set 1 _ rfl
            have q0 : we.cell? ⟨R, 0, none⟩ = some (.int .i64 vars) := hB.cell 0
            have q1 : we.cell? ⟨R, 1, none⟩ = some (.slice A L.length C) := hB.cell 1
            have hOe : OE we A C L := HD4.out.frm hfR (fun a ha e => HD4.out.ne_blk HR4.out (by decide) a ha e)
            have hUe : UT we U vars L := HU4.out.frm hfR (fun e => (HU4.out.t.ne HR4.out (by decide)) e |>.elim) (fun e => HSB.out e) (fun v hv e => HU4.out.notUB_cells HR4.out ⟨v, hv, e.symm⟩)
            have hFe : Frm (UB U vars) w we := HFW.out.trans hfR (fun i hi e => by have h1 := HLO.out.1; have e' : i = R := e; omega)
            refine hK _ _ (Lat.mk_ (HF4.out.trans hfR (fun i _ e => by have e' : i = R := e; rw [e']; exact sR))) ?_
            clear hK K
            have HOe := Lib.hid hOe
            have HUe := Lib.hid hUe
            have HFe := Lib.hid hFe
            clear hwe hB hfR hOe hUe hFe
            refine wpQuiet_nil ?_
            go_wp2
            refine bodyPost_ret (v := .tuple #[.agg #[.int .i64 vars, .slice A L.length C], .bool true]) (by simp [results, Try.results11, go_sem, q0, q1]) rfl ?_
            rw [doL_else (by decide)]
            exact ⟨A, C, rfl, HUe.out, HOe.out, HFe.out⟩
          ·
            have HFW := Lib.hid ((Frm.refl (UB U vars) w).trans HS1.out (fun _ _ h => h.elim))
            have hR := HR.out
            have cR0 : w1.cell? ⟨R, 0, none⟩ = some (.int .i64 0) := hR.cell 0
            have cR1 : w1.cell? ⟨R, 1, none⟩ = some (.slice none 0 0) := hR.cell 1
            have fR0 := hR.free 0
            have fR1 := hR.free 1
            have lR := hR.lt
            clear hR
            go_wp2
            refine wp_post fun we hwe => ?_
            have hB : Blk we R 30 #[.int .i64 vars, .slice A L.length C] := by
              rw [hwe]
              have := (HR.out.set 0 (.int .i64 vars)).set 1 (.slice A L.length C)
              simpa using this
            have hfR : Frm (fun b => b = R) w1 we := by rw [hwe]; exact ((Frm.refl (fun b => b = R) w1).set 0 _ rfl).set 1 _ rfl
            have q0 : we.cell? ⟨R, 0, none⟩ = some (.int .i64 vars) := hB.cell 0
            have q1 : we.cell? ⟨R, 1, none⟩ = some (.slice A L.length C) := hB.cell 1
            have hOe : OE we A C L := HD0.out.frm hfR (fun a ha e => HD0.out.ne_blk HR.out (by decide) a ha e)
            have hUe : UT we U vars L := HU.out.frm hfR (fun e => (HU.out.t.ne HR.out (by decide)) e |>.elim) (fun e => HSB.out e) (fun v hv e => HU.out.notUB_cells HR.out ⟨v, hv, e.symm⟩)
            have hFe : Frm (UB U vars) w we := HFW.out.trans hfR (fun i hi e => by have h1 := HLO.out.1; have e' : i = R := e; omega)
            have HOe := Lib.hid hOe
            have HUe := Lib.hid hUe
            have HFe := Lib.hid hFe
            clear hwe hB hfR hOe hUe hFe
            refine bodyPost_ret (v := .tuple #[.agg #[.int .i64 vars, .slice A L.length C], .bool true]) (by simp [results, Try.results11, go_sem, q0, q1]) rfl ?_
            rw [doL_else HK.out]
            exact ⟨A, C, rfl, HUe.out, HOe.out, HFe.out⟩
end Go.Proofs.Ytkelbbalffijbaa


/- Layer 07: awake. -/
namespace Go.Proofs.Ytkelbbalffijbaa
open Go.RowKit Go.Tk Go.Maps

def n012 : Nd := ⟨0, 1, 2⟩
theorem n012_ok : n012.ok := by unfold n012 Nd.ok; decide
set_option maxRecDepth 100000 in
set_option maxHeartbeats 4000000 in
theorem uqawake_any (w : World) : Calls Try.prog 8 #[] w fun e w' => e = .returned (.bool true) ∧ Same w w' := by
  go_enter Try.func8, Try.ntmps8
  go_wp2_with (fail)
  refine (uqnew_any 3 (by decide) (by decide) w).mono ?_
  rintro e w1 ⟨U, rfl, hs1, h1, hT, hsb, hmb⟩
  have HS1 := Lib.hid hs1
  have H1 := Lib.hid h1
  have HMB := Lib.hid hmb
  clear hs1 h1 hT hsb hmb
  go_wp2_with (fail)
  refine call_world fun w2 hw2 => ?_
  have hs2 : Same w1 w2 := by rw [hw2]; exact (Frm.refl _ _).alloc _
  have hX : Blk w2 w1.heap.size 36 #[.int .i64 0, .int .u32 1, .int .u32 2] := by rw [hw2]; exact Blk.new _ _ _
  have hlo : ∀ v, v < 3 → U.mb v < w1.heap.size := fun v hv => (H1.out.m v hv).lt
  obtain ⟨X, hXX⟩ : ∃ z, z = w1.heap.size := ⟨_, rfl⟩
  rw [← hXX] at hX hlo ⊢
  have hnX : ¬ UB U 3 X := fun ⟨v, hv, e⟩ => by have := hlo v hv; omega
  have HNX := Lib.hid hnX
  have HX := Lib.hid hX
  have HS2 := Lib.hid (HS1.out.trans hs2 (fun _ _ h => h))
  have H2 := Lib.hid (H1.out.same hs2)
  clear hs2 hX hlo hXX hnX hw2
  refine (uqadd_any U 3 [] n012 n012_ok 7 (by decide) (by decide) w2 H2.out).mono ?_
  rw [show addE 3 [] n012 = 0 by decide, show addL 3 [] n012 7 = [(n012, 7)] by decide]
  rintro e w3 ⟨rfl, h3, hf3⟩
  have HF3 := Lib.hid (HS2.out.trans hf3 (fun i hi (h : UB U 3 i) => by obtain ⟨v, hv, rfl⟩ := h; have := HMB.out v hv; omega))
  have hX3 := HX.out.frm hf3 HNX.out
  have c0 : w3.cell? ⟨X, 0, none⟩ = some (.int .i64 0) := hX3.cell 0
  have c1 : w3.cell? ⟨X, 1, none⟩ = some (.int .u32 1) := hX3.cell 1
  have c2 : w3.cell? ⟨X, 2, none⟩ = some (.int .u32 2) := hX3.cell 2
  have lX := hX3.lt
  have HX3 := Lib.hid hX3
  have H3 := Lib.hid h3
  clear h3 hf3 hX3 H2 HX H1 HS1
  go_wp2_with (fail)
  refine (uqadd_any U 3 [(n012, 7)] n012 n012_ok 8 (by decide) (by decide) w3 H3.out).mono ?_
  rw [show addE 3 [(n012, 7)] n012 = 11 by decide, show addL 3 [(n012, 7)] n012 8 = [(n012, 7)] by decide]
  rintro e w4 ⟨rfl, h4, hf4⟩
  have HF4 := Lib.hid (HF3.out.trans hf4 (fun i hi (h : UB U 3 i) => by obtain ⟨v, hv, rfl⟩ := h; have := HMB.out v hv; omega))
  have hX4 := HX3.out.frm hf4 HNX.out
  have c0 : w4.cell? ⟨X, 0, none⟩ = some (.int .i64 0) := hX4.cell 0
  have c1 : w4.cell? ⟨X, 1, none⟩ = some (.int .u32 1) := hX4.cell 1
  have c2 : w4.cell? ⟨X, 2, none⟩ = some (.int .u32 2) := hX4.cell 2
  have lX := hX4.lt
  have HX4 := Lib.hid hX4
  have H4 := Lib.hid h4
  clear h4 hf4 hX4 H3 HX3
  go_wp2_with (fail)
  refine (uqfind_any U 3 [(n012, 7)] n012 n012_ok w4 H4.out).mono ?_
  rw [show look [(n012, 7)] n012 = some 7 by decide]
  rintro e w5 ⟨rfl, hs5⟩
  have HF5 := Lib.hid (HF4.out.trans hs5 (fun _ _ h => h))
  have HX5 := Lib.hid (HX4.out.frm hs5 id)
  have H5 := Lib.hid (H4.out.same hs5)
  clear hs5 H4 HX4 c0 c1 c2
  simp only [Option.getD_some, Option.isSome_some]
  go_wp2_with (fail)
  refine (uqcount_any U 3 [(n012, 7)] 0 w5 H5.out).mono ?_
  rw [show (if (0 : Int) ≤ 0 ∧ (0 : Int) < (3 : Nat) then (ofv [(n012, 7)] (0 : Int).toNat).length else 0) = 1 by decide, show vErr 3 0 = 0 by decide]
  rintro e w6 ⟨rfl, rfl⟩
  have c0 : w6.cell? ⟨X, 0, none⟩ = some (.int .i64 0) := HX5.out.cell 0
  have c1 : w6.cell? ⟨X, 1, none⟩ = some (.int .u32 1) := HX5.out.cell 1
  have c2 : w6.cell? ⟨X, 2, none⟩ = some (.int .u32 2) := HX5.out.cell 2
  have lX := HX5.out.lt
  go_wp2_with (fail)
  refine (uqrem_any U 3 [(n012, 7)] n012 n012_ok w6 H5.out).mono ?_
  rw [show remE 3 [(n012, 7)] n012 = 0 by decide, show remL 3 [(n012, 7)] n012 = [] by decide]
  rintro e w7 ⟨rfl, h7, hf7⟩
  have HF7 := Lib.hid (HF5.out.trans hf7 (fun i hi (h : UB U 3 i) => by obtain ⟨v, hv, rfl⟩ := h; have := HMB.out v hv; omega))
  have hX7 := HX5.out.frm hf7 HNX.out
  have c0 : w7.cell? ⟨X, 0, none⟩ = some (.int .i64 0) := hX7.cell 0
  have c1 : w7.cell? ⟨X, 1, none⟩ = some (.int .u32 1) := hX7.cell 1
  have c2 : w7.cell? ⟨X, 2, none⟩ = some (.int .u32 2) := hX7.cell 2
  have lX := hX7.lt
  have H7 := Lib.hid h7
  clear h7 hf7 hX7 H5 HX5
  go_wp2_with (fail)
  refine (uqrem_any U 3 [] n012 n012_ok w7 H7.out).mono ?_
  rw [show remE 3 [] n012 = 10 by decide, show remL 3 [] n012 = [] by decide]
  rintro e w8 ⟨rfl, h8, hf8⟩
  have HF8 := Lib.hid (HF7.out.trans hf8 (fun i hi (h : UB U 3 i) => by obtain ⟨v, hv, rfl⟩ := h; have := HMB.out v hv; omega))
  clear h8 hf8
  go_wp2
  go_ret
  exact ⟨rfl, HF8.out⟩
end Go.Proofs.Ytkelbbalffijbaa


/- Layer 07: UniquePlays. -/
namespace Go.Proofs.Ytkelbbalffijbaa
open Go.RowKit Go.Tk Go.Maps

/-- a table beside the reference's, whose record lies in block D: the same entries, no more than so many -/
structure Both (w0 w : World) (U : UTab) (N D bnd : Nat) (A : Option Addr) (C : Nat) (L : List Ent) : Prop where
  u : UT w U N L
  o : OE w A C L
  d : Blk w D 30 #[.int .i64 N, .slice A L.length C]
  len : L.length ≤ bnd
  same : Same w0 w
  fm : ∀ v, v < N → w0.heap.size ≤ U.mb v
  fd : w0.heap.size ≤ D
theorem Both.later {w0 w w' : World} {U : UTab} {N D bnd : Nat} {A : Option Addr} {C : Nat} {L : List Ent} (h : Both w0 w U N D bnd A C L) (hs : Same w w') : Both w0 w' U N D bnd A C L :=
  ⟨h.u.same hs, h.o.frm hs (fun _ _ => id), h.d.frm hs id, h.len, h.same.trans hs (fun _ _ h => h), h.fm, h.fd⟩
/-- a call of does, and its table stored -/
theorem Both.did {w0 w w' : World} {U : UTab} {N D bnd : Nat} {A A' : Option Addr} {C C' : Nat} {L L' : List Ent} (h : Both w0 w U N D bnd A C L) (hu : UT w' U N L') (ho : OE w' A' C' L') (hf : Frm (UB U N) w w') {bnd' : Nat} (hl : L'.length ≤ bnd') :
    Both w0 ((w'.setCell ⟨D, 0, none⟩ (.int .i64 N)).setCell ⟨D, 1, none⟩ (.slice A' L'.length C')) U N D bnd' A' C' L' := by
  have hd := h.d.frm hf (h.u.notUB_cells h.d)
  have hfD : Frm (fun b => b = D) w' ((w'.setCell ⟨D, 0, none⟩ (.int .i64 N)).setCell ⟨D, 1, none⟩ (.slice A' L'.length C')) := ((Frm.refl (fun b => b = D) w').set 0 _ rfl).set 1 _ rfl
  have hs1 : Same w0 w' := h.same.trans hf (fun i hi (hb : UB U N i) => by
    obtain ⟨v, hv, rfl⟩ := hb
    have := h.fm v hv
    omega)
  refine ⟨hu.frm hfD (fun e => (hu.t.ne hd (by decide)) e) ?_ (fun v hv e => hu.notUB_cells hd ⟨v, hv, e.symm⟩), ho.frm hfD (fun a ha e => ho.ne_blk hd (by decide) a ha e), ?_, hl, hs1.trans hfD (fun i hi (e : i = D) => by have := h.fd; omega), h.fm, h.fd⟩
  · intro e
    have e' : U.sb = D := e
    have h1 := hu.s 0 (Nat.lt_of_lt_of_le Nat.zero_lt_one hu.hv.1)
    have h2 := hd.cell 0
    rw [← e', h1] at h2
    cases h2
  · have := (hd.set 0 (.int .i64 N)).set 1 (.slice A' L'.length C')
    simpa using this
/-- one item of the script, in its box -/
theorem opu_at {w : World} {A : Option Addr} {n : Nat} {ops : List Opu} (hs : Sl w 5 Opu.cells A n ops) {k : Nat} {o : Opu} (ho : ops[k]? = some o) : ∃ b off, A = some ⟨b, off, none⟩ ∧ b < w.heap.size ∧ w.cell? ⟨b, off + k * 5, none⟩ = some (.int .i64 o.k) ∧ w.cell? ⟨b, off + k * 5 + 1, none⟩ = some (.int .i64 o.n.v) ∧ w.cell? ⟨b, off + k * 5 + 2, none⟩ = some (.int .u32 o.n.lo) ∧ w.cell? ⟨b, off + k * 5 + 3, none⟩ = some (.int .u32 o.n.hi) ∧ w.cell? ⟨b, off + k * 5 + 4, none⟩ = some (.int .u32 o.r) := by
  obtain ⟨b, off, h1, h2, h3⟩ := hs.get k o ho
  exact ⟨b, off, h1, h2, h3 0 (by omega), h3 1 (by omega), h3 2 (by omega), h3 3 (by omega), h3 4 (by omega)⟩
set_option maxRecDepth 100000 in
set_option maxHeartbeats 8000000 in
theorem uniquePlays_any (vars : Int) (A : Option Addr) (n C : Nat) (ops : List Opu) (hok : ∀ o ∈ ops, o.ok) (w : World) (hs : Sl w 5 Opu.cells A n ops) (hb : n * 32 ≤ 140737488355328) :
    Calls Try.prog 3 #[.int .i64 vars, .slice A n C] w fun e w' => e = .returned (.bool true) ∧ Same w w' := by
  have HS := Lib.hid hs
  have HOK := Lib.hid hok
  have HB := Lib.hid hb
  clear hs hok hb
  go_enter Try.func3, Try.ntmps3
  go_wp2_with (fail)
  refine (uqawake_any w).mono ?_
  rintro e w1 ⟨rfl, hs1⟩
  have HS1 := Lib.hid hs1
  clear hs1
  by_cases hv : 1 ≤ vars ∧ vars ≤ 64
  · obtain ⟨N, rfl⟩ := Int.eq_ofNat_of_zero_le (show 0 ≤ vars by omega)
    have hN1 : 1 ≤ N := by omega
    have hN2 : N ≤ 64 := by omega
    have HNEW := Lib.hid (fun w => urnew_any (N : Int) w)
    rw [if_pos hv, if_pos hv] at HNEW
    clear hv
    go_wp2_with (fail)
    refine (uqnew_any N hN1 hN2 w1).mono ?_
    rintro e w2 ⟨U, rfl, hs2, hU, hT, hsb, hmb⟩
    have HU := Lib.hid hU
    have HS2 := Lib.hid (HS1.out.trans hs2 (fun _ _ h => h))
    have HMB := Lib.hid (fun v hv => Nat.le_trans HS1.out.size (hmb v hv))
    clear hU hT hsb hmb hs2
    go_wp2_with (fail)
    refine (HNEW.out w2).mono ?_
    rintro e w3 ⟨A0, C0, rfl, ho, hs3⟩
    unfold dtab
    have HO3 := Lib.hid ho
    have HU3 := Lib.hid (HU.out.same hs3)
    have HS3 := Lib.hid (HS2.out.trans hs3 (fun _ _ h => h))
    clear ho hs3 HNEW HU
    go_upto_region 5 with fail
    refine wp_world fun w4 hw4 => ?_
    have hs4 : Same w3 w4 := by rw [hw4]; exact (Frm.refl _ _).alloc _
    have hD : Blk w4 w3.heap.size 30 #[.int .i64 N, .slice A0 ([] : List Ent).length C0] := by rw [hw4]; exact Blk.new _ _ _
    obtain ⟨D, hDD⟩ : ∃ z, z = w3.heap.size := ⟨_, rfl⟩
    rw [← hDD] at hD ⊢
    have HBOTH := Lib.hid (show Both w w4 U N D 0 A0 C0 [] from ⟨HU3.out.same hs4, HO3.out.frm hs4 (fun _ _ => id), hD, Nat.le_refl _, HS3.out.trans hs4 (fun _ _ h => h), HMB.out, by rw [hDD]; exact HS3.out.size⟩)
    clear hw4 hs4 hD hDD HU3 HO3 HS3 HMB HS1 HS2
    go_wp2
    go_loopw [9, 42] (fun x i wr => x = .bool true ∧ ∃ (k : Nat) (A1 : Option Addr) (C1 : Nat) (L : List Ent), i = .int .i64 k ∧ k ≤ n ∧ Both w wr U N D k A1 C1 L) (fun _ i _ => n - (intOf i).toNat)
    case atStart => exact ⟨rfl, 0, A0, C0, [], rfl, Nat.zero_le _, HBOTH.out⟩
    case round =>
      clear HBOTH
      obtain ⟨rfl, k, A1, C1, L, rfl, hk, hbo⟩ := hrel
      have HBO := Lib.hid hbo
      clear hbo
      by_cases hlt : k < n
      ·
        obtain ⟨⟨ok, ⟨nv, nl, nh⟩, orf⟩, hop⟩ : ∃ o, ops[k]? = some o := ⟨_, List.getElem?_eq_getElem (by rw [← HS.out.len]; exact hlt)⟩
        obtain ⟨bl, off, hA, hbl, p0, p1, p2, p3, p4⟩ := opu_at (Sl.same HS.out HBO.out.same) hop
        obtain ⟨hnok, hrok⟩ := HOK.out _ (List.mem_of_getElem? hop)
        simp only at p0 p1 p2 p3 p4
        subst hA
        have hk0 : (0 : Int) ≤ k := by omega
        have hk1 : (k : Int) < n := by omega
        have hkb : k + 1 ≤ 9000000000000000000 := by have := HB.out; omega
        have HNOK := Lib.hid hnok
        have HROK := Lib.hid hrok
        clear hop hnok hrok
        go_upto_region 13 with fail
        refine wp_world fun w5 hw5 => ?_
        have hs5 : Same wr w5 := by rw [hw5]; exact (Frm.refl _ _).alloc _
        have hY : Blk w5 wr.heap.size 38 #[.int .i64 ok, .int .i64 nv, .int .u32 nl, .int .u32 nh, .int .u32 orf] := by rw [hw5]; exact Blk.new _ _ _
        obtain ⟨Y, hYY⟩ : ∃ z, z = wr.heap.size := ⟨_, rfl⟩
        rw [← hYY] at hY ⊢
        have HBO5 := Lib.hid (HBO.out.later hs5)
        have HY := Lib.hid hY
        clear hw5 hs5 hYY p0 p1 p2 p3 p4 hbl hY
        have cY0 : w5.cell? ⟨Y, 0, none⟩ = some (.int .i64 ok) := HY.out.cell 0
        have cY1 : w5.cell? ⟨Y, 1, none⟩ = some (.int .i64 nv) := HY.out.cell 1
        have cY2 : w5.cell? ⟨Y, 2, none⟩ = some (.int .u32 nl) := HY.out.cell 2
        have cY3 : w5.cell? ⟨Y, 3, none⟩ = some (.int .u32 nh) := HY.out.cell 3
        have cY4 : w5.cell? ⟨Y, 4, none⟩ = some (.int .u32 orf) := HY.out.cell 4
        have lY := HY.out.lt
        have cD0 : w5.cell? ⟨D, 0, none⟩ = some (.int .i64 N) := HBO5.out.d.cell 0
        have cD1 : w5.cell? ⟨D, 1, none⟩ = some (.slice A1 L.length C1) := HBO5.out.d.cell 1
        have fD0 := HBO5.out.d.free 0
        have fD1 := HBO5.out.d.free 1
        have lD := HBO5.out.d.lt
        go_wp2_with (fail)
        refine (does_any U N A1 C1 L ok nv nl nh orf HNOK.out HROK.out w5 HBO5.out.u HBO5.out.o (by have := HBO5.out.len; have := HB.out; omega)).mono ?_
        unfold dtab
        rintro e w6 ⟨A2, C2, rfl, hu, ho, hf⟩
        have hl2 : (doL N L ⟨ok, ⟨nv, nl, nh⟩, orf⟩).length ≤ k + 1 := by have := doL_len N L ⟨ok, ⟨nv, nl, nh⟩, orf⟩; have := HBO5.out.len; omega
        have HD := Lib.hid (HBO5.out.did hu ho hf hl2)
        have hD6 := HBO5.out.d.frm hf (HBO5.out.u.notUB_cells HBO5.out.d)
        obtain ⟨L2, hL2⟩ : ∃ z, z = doL N L ⟨ok, ⟨nv, nl, nh⟩, orf⟩ := ⟨_, rfl⟩
        rw [← hL2] at HD ⊢
        have HD6 := Lib.hid hD6
        clear hu ho hf hl2 hL2 hD6 cD0 cD1 fD0 fD1 lD cY0 cY1 cY2 cY3 cY4 lY
        have cD0 : w6.cell? ⟨D, 0, none⟩ = some (.int .i64 N) := HD6.out.cell 0
        have cD1 : w6.cell? ⟨D, 1, none⟩ = some (.slice A1 L.length C1) := HD6.out.cell 1
        have fD0 := HD6.out.free 0
        have fD1 := HD6.out.free 1
        have lD := HD6.out.lt
        go_wp2
        go_roundw
        case rel => exact ⟨rfl, k + 1, A2, C2, L2, by go_num, hlt, HD.out⟩
        case measure => simp [intOf] <;> omega
      · have hkn : n = k := by omega
        subst hkn
        go_wp2
        go_loopw [9, 58] (fun x i wr => (∃ b, x = .bool b) ∧ ∃ (k : Nat) (A1 : Option Addr) (C1 : Nat) (L : List Ent), i = .int .i64 k ∧ k ≤ n ∧ Both w wr U N D n A1 C1 L) (fun _ i _ => n - (intOf i).toNat)
        case atStart => exact ⟨⟨_, rfl⟩, 0, A1, C1, L, rfl, Nat.zero_le _, HBO.out⟩
        case round =>
          clear HBO
          obtain ⟨⟨b0, rfl⟩, k, A1, C1, L, rfl, hk, hbo⟩ := hrel
          have HBO := Lib.hid hbo
          clear hbo
          by_cases hlt : k < n
          · 
            obtain ⟨⟨ok, ⟨nv, nl, nh⟩, orf⟩, hop⟩ : ∃ o, ops[k]? = some o := ⟨_, List.getElem?_eq_getElem (by rw [← HS.out.len]; exact hlt)⟩
            obtain ⟨bl, off, hA, hbl, p0, p1, p2, p3, p4⟩ := opu_at (Sl.same HS.out HBO.out.same) hop
            obtain ⟨hnok, hrok⟩ := HOK.out _ (List.mem_of_getElem? hop)
            simp only at p0 p1 p2 p3 p4
            subst hA
            have hk0 : (0 : Int) ≤ k := by omega
            have hk1 : (k : Int) < n := by omega
            have hkb : k + 1 ≤ 9000000000000000000 := by have := HB.out; omega
            have HNOK := Lib.hid hnok
            have HROK := Lib.hid hrok
            clear hop hnok hrok
            go_upto_region 20 with fail
            refine wp_world fun w5 hw5 => ?_
            have hs5 : Same wr w5 := by rw [hw5]; exact (Frm.refl _ _).alloc _
            have hY : Blk w5 wr.heap.size 38 #[.int .i64 ok, .int .i64 nv, .int .u32 nl, .int .u32 nh, .int .u32 orf] := by rw [hw5]; exact Blk.new _ _ _
            obtain ⟨Y, hYY⟩ : ∃ z, z = wr.heap.size := ⟨_, rfl⟩
            rw [← hYY] at hY ⊢
            have HBO5 := Lib.hid (HBO.out.later hs5)
            have HY := Lib.hid hY
            clear hw5 hs5 hYY p0 p1 p2 p3 p4 hbl hY
            have cY0 : w5.cell? ⟨Y, 0, none⟩ = some (.int .i64 ok) := HY.out.cell 0
            have cY1 : w5.cell? ⟨Y, 1, none⟩ = some (.int .i64 nv) := HY.out.cell 1
            have cY2 : w5.cell? ⟨Y, 2, none⟩ = some (.int .u32 nl) := HY.out.cell 2
            have cY3 : w5.cell? ⟨Y, 3, none⟩ = some (.int .u32 nh) := HY.out.cell 3
            have cY4 : w5.cell? ⟨Y, 4, none⟩ = some (.int .u32 orf) := HY.out.cell 4
            have lY := HY.out.lt
            go_upto_region 21 with fail
            refine wp_world fun w6 hw6 => ?_
            have hs6 : Same w5 w6 := by rw [hw6]; exact (Frm.refl _ _).alloc _
            have hI : Blk w6 w5.heap.size 3 #[.int .i64 3, .int .i64 4, .int .i64 5] := by rw [hw6]; exact Blk.new _ _ _
            obtain ⟨I, hII⟩ : ∃ z, z = w5.heap.size := ⟨_, rfl⟩
            rw [← hII] at hI ⊢
            have HBO6 := Lib.hid (HBO5.out.later hs6)
            have HY6 := Lib.hid (HY.out.frm hs6 id)
            have HI := Lib.hid hI
            clear hw6 hs6 hII hI cY0 cY1 cY2 cY3 cY4 lY HBO5 HY
            go_loopw [9, 64] (fun x i wi => (∃ b, x = .bool b) ∧ ∃ (j : Nat) (A2 : Option Addr) (C2 : Nat) (L2 : List Ent), i = .int .i64 j ∧ j ≤ 3 ∧ Both w wi U N D n A2 C2 L2 ∧ Blk wi Y 38 #[.int .i64 ok, .int .i64 nv, .int .u32 nl, .int .u32 nh, .int .u32 orf] ∧ Blk wi I 3 #[.int .i64 3, .int .i64 4, .int .i64 5]) (fun _ i _ => 3 - (intOf i).toNat)
            case atStart => exact ⟨⟨_, rfl⟩, 0, A1, C1, L, rfl, by omega, HBO6.out, HY6.out, HI.out⟩
            case round =>
              clear HBO6 HY6 HI
              obtain ⟨⟨b1, rfl⟩, j, A2, C2, L2, rfl, hj, hbo, hY, hI⟩ := hrel
              have HBO2 := Lib.hid hbo
              have HY2 := Lib.hid hY
              have HI2 := Lib.hid hI
              clear hbo hY hI
              rcases Nat.lt_or_ge j 3 with hj3 | hj3
              · have hq : ∃ q : Int, 2 < q ∧ wr.cell? ⟨I, j, none⟩ = some (.int .i64 q) := by
                  rcases (show j = 0 ∨ j = 1 ∨ j = 2 by omega) with rfl | rfl | rfl
                  · exact ⟨3, by decide, HI2.out.cell 0⟩
                  · exact ⟨4, by decide, HI2.out.cell 1⟩
                  · exact ⟨5, by decide, HI2.out.cell 2⟩
                obtain ⟨q, hq2, cI⟩ := hq
                have lI := HI2.out.lt
                have cY1 : wr.cell? ⟨Y, 1, none⟩ = some (.int .i64 nv) := HY2.out.cell 1
                have cY2 : wr.cell? ⟨Y, 2, none⟩ = some (.int .u32 nl) := HY2.out.cell 2
                have cY3 : wr.cell? ⟨Y, 3, none⟩ = some (.int .u32 nh) := HY2.out.cell 3
                have lY := HY2.out.lt
                have hj0 : (0 : Int) ≤ j := by omega
                have hj1 : (j : Int) < 3 := by omega
                have HQ := Lib.hid hq2
                clear hq2
                have cD0 : wr.cell? ⟨D, 0, none⟩ = some (.int .i64 N) := HBO2.out.d.cell 0
                have cD1 : wr.cell? ⟨D, 1, none⟩ = some (.slice A2 L2.length C2) := HBO2.out.d.cell 1
                have fD0 := HBO2.out.d.free 0
                have fD1 := HBO2.out.d.free 1
                have lD := HBO2.out.d.lt
                go_wp2_with (fail)
                refine (does_any U N A2 C2 L2 q nv nl nh 0 HNOK.out (by decide) wr HBO2.out.u HBO2.out.o (by have := HBO2.out.len; have := HB.out; omega)).mono ?_
                rw [doL_else (by have := HQ.out; omega)]
                unfold dtab
                rintro e w7 ⟨A3, C3, rfl, hu, ho, hf⟩
                have HD := Lib.hid (HBO2.out.did hu ho hf HBO2.out.len)
                have HD7 := Lib.hid (HBO2.out.d.frm hf (HBO2.out.u.notUB_cells HBO2.out.d))
                have HY7 := Lib.hid (HY2.out.frm hf (HBO2.out.u.notUB_cells HY2.out))
                have HI7 := Lib.hid (HI2.out.frm hf (HBO2.out.u.notUB_cells HI2.out))
                have HDY := Lib.hid (show Y ≠ D from HY2.out.ne HBO2.out.d (by decide))
                have HDI := Lib.hid (show I ≠ D from HI2.out.ne HBO2.out.d (by decide))
                clear hu ho hf cD0 cD1 fD0 fD1 lD cY1 cY2 cY3 lY cI lI
                have cD0 : w7.cell? ⟨D, 0, none⟩ = some (.int .i64 N) := HD7.out.cell 0
                have cD1 : w7.cell? ⟨D, 1, none⟩ = some (.slice A2 L2.length C2) := HD7.out.cell 1
                have fD0 := HD7.out.free 0
                have fD1 := HD7.out.free 1
                have lD := HD7.out.lt
                go_wp2
                go_roundw
                case rel => exact ⟨⟨_, rfl⟩, j + 1, A3, C3, L2, by go_num, hj3, HD.out, (HY7.out.far (p := ⟨D, 0, none⟩) HDY.out _).far (p := ⟨D, 1, none⟩) HDY.out _, (HI7.out.far (p := ⟨D, 0, none⟩) HDI.out _).far (p := ⟨D, 1, none⟩) HDI.out _⟩
                case measure => simp [intOf] <;> omega
              · obtain rfl : j = 3 := by omega
                go_wp2
                go_roundw
                case rel => exact ⟨⟨_, rfl⟩, k + 1, A2, C2, L2, by go_num, hlt, HBO2.out⟩
                case measure => simp [intOf] <;> omega
          · have hkn : n = k := by omega
            subst hkn
            go_wp2
            go_ret
            exact ⟨rfl, HBO.out.same⟩
  ·
    have HNEW := Lib.hid (fun w => urnew_any vars w)
    rw [if_neg hv, if_neg hv] at HNEW
    go_wp2_with (fail)
    refine (uqnew_bad vars hv w1).mono ?_
    rintro e w2 ⟨rfl, hw2⟩
    subst hw2
    clear hv
    go_wp2_with (fail)
    refine (HNEW.out w2).mono ?_
    rintro e w3 ⟨A0, C0, rfl, ho, hs3⟩
    unfold dtab
    have HS3 := Lib.hid (HS1.out.trans hs3 (fun _ _ h => h))
    clear ho hs3 HNEW
    go_upto_region 5 with fail
    refine wp_world fun w4 hw4 => ?_
    have HS4 := Lib.hid (show Same w w4 by rw [hw4]; exact HS3.out.alloc _)
    clear hw4
    go_wp2
    go_ret
    exact ⟨rfl, HS4.out⟩
end Go.Proofs.Ytkelbbalffijbaa


/- Layer 07: UniqueOrder. -/
namespace Go.Proofs.Ytkelbbalffijbaa
open Go.RowKit Go.Tk Go.Maps

/-- two tables that have nothing to do with one another -/
structure Pair (w0 w : World) (U V : UTab) (N : Nat) (L M : List Ent) : Prop where
  u : UT w U N L
  v : UT w V N M
  uv : ∀ x, UB U N x → x ≠ V.T ∧ x ≠ V.sb ∧ ¬ UB V N x
  vu : ∀ x, UB V N x → x ≠ U.T ∧ x ≠ U.sb ∧ ¬ UB U N x
  same : Same w0 w
  fu : ∀ v, v < N → w0.heap.size ≤ U.mb v
  fv : ∀ v, v < N → w0.heap.size ≤ V.mb v
theorem Pair.later {w0 w w' : World} {U V : UTab} {N : Nat} {L M : List Ent} (h : Pair w0 w U V N L M) (hs : Same w w') : Pair w0 w' U V N L M :=
  ⟨h.u.same hs, h.v.same hs, h.uv, h.vu, h.same.trans hs (fun _ _ h => h), h.fu, h.fv⟩
theorem Pair.left {w0 w w' : World} {U V : UTab} {N : Nat} {L L' M : List Ent} (h : Pair w0 w U V N L M) (hu : UT w' U N L') (hf : Frm (UB U N) w w') : Pair w0 w' U V N L' M :=
  ⟨hu, h.v.frm hf (fun hb => (h.uv _ hb).1 rfl) (fun hb => (h.uv _ hb).2.1 rfl) (fun v hv hb => (h.uv _ hb).2.2 ⟨v, hv, rfl⟩), h.uv, h.vu, h.same.trans hf (fun i hi (hb : UB U N i) => by
    obtain ⟨v, hv, rfl⟩ := hb
    have := h.fu v hv
    omega), h.fu, h.fv⟩
theorem Pair.right {w0 w w' : World} {U V : UTab} {N : Nat} {L M M' : List Ent} (h : Pair w0 w U V N L M) (hv : UT w' V N M') (hf : Frm (UB V N) w w') : Pair w0 w' U V N L M' :=
  ⟨h.u.frm hf (fun hb => (h.vu _ hb).1 rfl) (fun hb => (h.vu _ hb).2.1 rfl) (fun v hv hb => (h.vu _ hb).2.2 ⟨v, hv, rfl⟩), hv, h.uv, h.vu, h.same.trans hf (fun i hi (hb : UB V N i) => by
    obtain ⟨v, hv, rfl⟩ := hb
    have := h.fv v hv
    omega), h.fu, h.fv⟩
theorem Pair.made {w0 w1 w2 : World} {U V : UTab} {N : Nat} {L M : List Ent} (hs : Same w0 w1) (hu : UT w1 U N L) (hfu : ∀ v, v < N → w0.heap.size ≤ U.mb v) (hs2 : Same w1 w2) (hv : UT w2 V N M) (hT : w1.heap.size ≤ V.T) (hsb : w1.heap.size ≤ V.sb) (hmb : ∀ v, v < N → w1.heap.size ≤ V.mb v) : Pair w0 w2 U V N L M := by
  have hT1 := hu.t.lt
  have hS1 := hu.sl
  have hm1 := fun v hv => (hu.m v hv).lt
  refine ⟨hu.same hs2, hv, fun x hx => ?_, fun x hx => ?_, hs.trans hs2 (fun _ _ h => h), hfu, fun v hv => Nat.le_trans hs.size (hmb v hv)⟩
  · obtain ⟨v, hv, rfl⟩ := hx
    have h1 := hm1 v hv
    refine ⟨by omega, by omega, ?_⟩
    rintro ⟨u, hu', e⟩
    have := hmb u hu'
    omega
  · obtain ⟨v, hv, rfl⟩ := hx
    have h1 := hmb v hv
    refine ⟨by omega, by omega, ?_⟩
    rintro ⟨u, hu', e⟩
    have := hm1 u hu'
    omega
theorem UT.wfR {w : World} {U : UTab} {vars : Nat} {L : List Ent} (h : UT w U vars L) {n : Nd} {r : Int} (hm : (n, r) ∈ L) : (Lit.int .u32 r).wf = true := by
  obtain ⟨h1, h2⟩ := h.vs _ hm
  obtain ⟨v, hv⟩ := Int.eq_ofNat_of_zero_le h1
  obtain ⟨D, _, hr⟩ := h.m v (by omega)
  exact (hr.ok (n, r) (List.mem_filter.2 ⟨hm, by simpa using hv⟩)).2
theorem rvL_perm {L M : List Ent} (h : L.Perm M) (N : Nat) (v : Int) : rvL N L v = rvL N M v := by
  unfold rvL
  split
  · exact rising_perm (h.filter _)
  · rfl
theorem mem_addL {vars : Nat} {L : List Ent} {n : Nd} {r : Int} {p : Ent} (h : p ∈ addL vars L n r) : p ∈ L ∨ p = (n, r) := by
  unfold addL at h
  split at h
  · split at h
    · exact .inl h
    · rcases List.mem_append.1 h with h | h
      · exact .inl h
      · exact .inr (List.mem_singleton.1 h)
  · exact .inl h
theorem mem_addL_of {vars : Nat} {L : List Ent} {n : Nd} {r : Int} {p : Ent} (h : p ∈ L) : p ∈ addL vars L n r := by
  unfold addL
  split
  · split
    · exact h
    · exact List.mem_append_left _ h
  · exact h
set_option maxRecDepth 100000 in
set_option maxHeartbeats 8000000 in
theorem uniqueOrder_any (vars : Int) (A1 A2 : Option Addr) (n1 n2 C1 C2 : Nat) (xs ys : List Opu) (hox : ∀ o ∈ xs, o.ok) (hoy : ∀ o ∈ ys, o.ok) (w : World) (hs1 : Sl w 5 Opu.cells A1 n1 xs) (hs2 : Sl w 5 Opu.cells A2 n2 ys) (hb1 : n1 * 32 ≤ 140737488355328) (hb2 : n2 * 32 ≤ 140737488355328) :
    Calls Try.prog 7 #[.int .i64 vars, .slice A1 n1 C1, .slice A2 n2 C2] w fun e w' => e = .returned (.bool true) ∧ Same w w' := by
  have HSx := Lib.hid hs1
  have HSy := Lib.hid hs2
  have HOKx := Lib.hid hox
  have HOKy := Lib.hid hoy
  have HB1 := Lib.hid hb1
  have HB2 := Lib.hid hb2
  clear hs1 hs2 hox hoy hb1 hb2
  go_enter Try.func7, Try.ntmps7
  go_wp2_with (fail)
  refine (uqawake_any w).mono ?_
  rintro e w1 ⟨rfl, hs1⟩
  have HS1 := Lib.hid hs1
  clear hs1
  by_cases hv : 1 ≤ vars ∧ vars ≤ 64
  · obtain ⟨N, rfl⟩ := Int.eq_ofNat_of_zero_le (show 0 ≤ vars by omega)
    have hN1 : 1 ≤ N := by omega
    have hN2 : N ≤ 64 := by omega
    clear hv
    go_wp2_with (fail)
    refine (uqnew_any N hN1 hN2 w1).mono ?_
    rintro e w2 ⟨U, rfl, hs2, hU, _, _, hmb⟩
    have HU := Lib.hid hU
    have HS2 := Lib.hid (HS1.out.trans hs2 (fun _ _ h => h))
    have HMB := Lib.hid (fun v hv => Nat.le_trans HS1.out.size (hmb v hv))
    clear hU hmb hs2
    go_wp2_with (fail)
    refine (uqnew_any N hN1 hN2 w2).mono ?_
    rintro e w3 ⟨V, rfl, hs3, hV, hT, hsb, hmb⟩
    have HBO := Lib.hid (Pair.made HS2.out HU.out HMB.out hs3 hV hT hsb hmb)
    clear hs3 hV hT hsb hmb HU HS2 HS1 HMB
    go_wp2
    go_loopw [51] (fun i wr => ∃ (k : Nat) (L : List Ent), i = .int .i64 k ∧ k ≤ n1 ∧ Pair w wr U V N L [] ∧ L.length ≤ k ∧ ∀ p ∈ L, ∃ o ∈ xs, o.n = p.1) (fun i _ => n1 - (intOf i).toNat)
    case atStart => exact ⟨0, [], rfl, Nat.zero_le _, HBO.out, Nat.le_refl _, by simp⟩
    case round =>
      clear HBO
      obtain ⟨k, L, rfl, hk, hbo, hll, hke⟩ := hrel
      have HBO := Lib.hid hbo
      have HLL := Lib.hid hll
      have HKE := Lib.hid hke
      clear hbo hll hke
      by_cases hlt : k < n1
      ·
        obtain ⟨⟨ok, ⟨nv, nl, nh⟩, orf⟩, hop⟩ : ∃ o, xs[k]? = some o := ⟨_, List.getElem?_eq_getElem (by rw [← HSx.out.len]; exact hlt)⟩
        obtain ⟨bl, off, hA, hbl, p0, p1, p2, p3, p4⟩ := opu_at (Sl.same HSx.out HBO.out.same) hop
        obtain ⟨hnok, hrok⟩ := HOKx.out _ (List.mem_of_getElem? hop)
        simp only at p0 p1 p2 p3 p4
        subst hA
        have hk0 : (0 : Int) ≤ k := by omega
        have hk1 : (k : Int) < n1 := by omega
        have hkb : k + 1 ≤ 9000000000000000000 := by have := HB1.out; omega
        have HNOK := Lib.hid hnok
        have HOM := Lib.hid (List.mem_of_getElem? hop)
        have HROK := Lib.hid hrok
        clear hop hnok hrok
        go_upto_region 10 with fail
        refine wp_world fun w5 hw5 => ?_
        have hs5 : Same wr w5 := by rw [hw5]; exact (Frm.refl _ _).alloc _
        have hY : Blk w5 wr.heap.size 38 #[.int .i64 ok, .int .i64 nv, .int .u32 nl, .int .u32 nh, .int .u32 orf] := by rw [hw5]; exact Blk.new _ _ _
        obtain ⟨Y, hYY⟩ : ∃ z, z = wr.heap.size := ⟨_, rfl⟩
        rw [← hYY] at hY ⊢
        have HBO5 := Lib.hid (HBO.out.later hs5)
        have HY := Lib.hid hY
        clear hw5 hs5 hYY p0 p1 p2 p3 p4 hbl hY
        have cY0 : w5.cell? ⟨Y, 0, none⟩ = some (.int .i64 ok) := HY.out.cell 0
        have cY1 : w5.cell? ⟨Y, 1, none⟩ = some (.int .i64 nv) := HY.out.cell 1
        have cY2 : w5.cell? ⟨Y, 2, none⟩ = some (.int .u32 nl) := HY.out.cell 2
        have cY3 : w5.cell? ⟨Y, 3, none⟩ = some (.int .u32 nh) := HY.out.cell 3
        have cY4 : w5.cell? ⟨Y, 4, none⟩ = some (.int .u32 orf) := HY.out.cell 4
        have lY := HY.out.lt
        go_wp2_with (fail)
        refine (uqadd_any U N L ⟨nv, nl, nh⟩ HNOK.out orf HROK.out (by have := HLL.out; have := HB1.out; show L.length < 9223372036854775807; omega) w5 HBO5.out.u).mono ?_
        rintro e w6 ⟨rfl, hu, hf⟩
        have HBO6 := Lib.hid (HBO5.out.left hu hf)
        have hl2 : (addL N L ⟨nv, nl, nh⟩ orf).length ≤ k + 1 := by have := addL_len N L ⟨nv, nl, nh⟩ orf; have := HLL.out; omega
        have hke : ∀ p ∈ addL N L ⟨nv, nl, nh⟩ orf, ∃ o ∈ xs, o.n = p.1 := fun p hp => by
          rcases mem_addL hp with h | rfl
          · exact HKE.out p h
          · exact ⟨_, HOM.out, rfl⟩
        obtain ⟨L2, hL2⟩ : ∃ z, z = addL N L ⟨nv, nl, nh⟩ orf := ⟨_, rfl⟩
        rw [← hL2] at HBO6 hl2 hke
        have HL2 := Lib.hid hl2
        have HK2 := Lib.hid hke
        clear hu hf hl2 hke hL2 cY0 cY1 cY2 cY3 cY4 lY
        generalize addE N L ⟨nv, nl, nh⟩ = er
        go_wp2
        go_roundw
        case rel => exact ⟨k + 1, L2, by go_num, hlt, HBO6.out, HL2.out, HK2.out⟩
        case measure => simp [intOf] <;> omega
      · have hkn : n1 = k := by omega
        subst hkn
        go_wp2
        go_loopw [64] (fun i wr => ∃ k : Nat, i = .int .i64 k ∧ k ≤ n2 ∧ Pair w wr U V N L []) (fun i _ => n2 - (intOf i).toNat)
        case atStart => exact ⟨0, rfl, Nat.zero_le _, HBO.out⟩
        case round =>
          clear HBO
          obtain ⟨k, rfl, hk, hbo⟩ := hrel
          have HBO := Lib.hid hbo
          clear hbo
          by_cases hlt : k < n2
          ·
            obtain ⟨⟨ok, ⟨nv, nl, nh⟩, orf⟩, hop⟩ : ∃ o, ys[k]? = some o := ⟨_, List.getElem?_eq_getElem (by rw [← HSy.out.len]; exact hlt)⟩
            obtain ⟨bl, off, hA, hbl, p0, p1, p2, p3, p4⟩ := opu_at (Sl.same HSy.out HBO.out.same) hop
            obtain ⟨hnok, hrok⟩ := HOKy.out _ (List.mem_of_getElem? hop)
            simp only at p0 p1 p2 p3 p4
            subst hA
            have hk0 : (0 : Int) ≤ k := by omega
            have hk1 : (k : Int) < n2 := by omega
            have hkb : k + 1 ≤ 9000000000000000000 := by have := HB2.out; omega
            have HNOK := Lib.hid hnok
            have HROK := Lib.hid hrok
            clear hop hnok hrok
            go_upto_region 15 with fail
            refine wp_world fun w5 hw5 => ?_
            have hs5 : Same wr w5 := by rw [hw5]; exact (Frm.refl _ _).alloc _
            have hY : Blk w5 wr.heap.size 38 #[.int .i64 ok, .int .i64 nv, .int .u32 nl, .int .u32 nh, .int .u32 orf] := by rw [hw5]; exact Blk.new _ _ _
            obtain ⟨Y, hYY⟩ : ∃ z, z = wr.heap.size := ⟨_, rfl⟩
            rw [← hYY] at hY ⊢
            have HBO5 := Lib.hid (HBO.out.later hs5)
            have HY := Lib.hid hY
            clear hw5 hs5 hYY p0 p1 p2 p3 p4 hbl hY
            have cY0 : w5.cell? ⟨Y, 0, none⟩ = some (.int .i64 ok) := HY.out.cell 0
            have cY1 : w5.cell? ⟨Y, 1, none⟩ = some (.int .i64 nv) := HY.out.cell 1
            have cY2 : w5.cell? ⟨Y, 2, none⟩ = some (.int .u32 nl) := HY.out.cell 2
            have cY3 : w5.cell? ⟨Y, 3, none⟩ = some (.int .u32 nh) := HY.out.cell 3
            have cY4 : w5.cell? ⟨Y, 4, none⟩ = some (.int .u32 orf) := HY.out.cell 4
            have lY := HY.out.lt
            have cont : (0 ≤ nv ∧ nv < (N : Int)) ∨ ¬ (0 ≤ nv ∧ nv < (N : Int)) := Decidable.em _
            have HE0 := Lib.hid (uqadd_any V N [] ⟨nv, nl, nh⟩ HNOK.out orf HROK.out (by decide) w5 HBO5.out.v)
            rcases cont with hin | hout
            · have e1 : addE N [] ⟨nv, nl, nh⟩ = 0 := by unfold addE; rw [if_pos hin]; rfl
              have e2 : addL N [] ⟨nv, nl, nh⟩ orf = [(⟨nv, nl, nh⟩, orf)] := by unfold addL; rw [if_pos hin]; rfl
              have e3 : look [((⟨nv, nl, nh⟩ : Nd), orf)] ⟨nv, nl, nh⟩ = some orf := look_some (by simp [keys]) (by simp)
              have e4 : remE N [(⟨nv, nl, nh⟩, orf)] ⟨nv, nl, nh⟩ = 0 := by unfold remE; rw [if_pos hin, e3]; rfl
              have e5 : remL N [(⟨nv, nl, nh⟩, orf)] ⟨nv, nl, nh⟩ = [] := by unfold remL; rw [if_pos hin, e3]; unfold without; simp
              rw [e1, e2] at HE0
              have HE4 := Lib.hid e4
              have HE5 := Lib.hid e5
              clear e1 e2 e3 e4 e5 hin
              go_wp2_with (fail)
              refine HE0.out.mono ?_
              rintro e w6 ⟨rfl, hv, hf⟩
              have HBO6 := Lib.hid (HBO5.out.right hv hf)
              have HY6 := Lib.hid (HY.out.frm hf (HBO5.out.v.notUB_cells HY.out))
              clear hv hf cY0 cY1 cY2 cY3 cY4 lY
              have cY1 : w6.cell? ⟨Y, 1, none⟩ = some (.int .i64 nv) := HY6.out.cell 1
              have cY2 : w6.cell? ⟨Y, 2, none⟩ = some (.int .u32 nl) := HY6.out.cell 2
              have cY3 : w6.cell? ⟨Y, 3, none⟩ = some (.int .u32 nh) := HY6.out.cell 3
              have lY := HY6.out.lt
              go_wp2_with (fail)
              refine (uqrem_any V N [(⟨nv, nl, nh⟩, orf)] ⟨nv, nl, nh⟩ HNOK.out w6 HBO6.out.v).mono ?_
              rw [HE4.out, HE5.out]
              rintro e w7 ⟨rfl, hv, hf⟩
              have HBO7 := Lib.hid (HBO6.out.right hv hf)
              clear hv hf cY1 cY2 cY3 lY
              go_wp2
              go_roundw
              case rel => exact ⟨k + 1, by go_num, hlt, HBO7.out⟩
              case measure => simp [intOf] <;> omega
            · have e1 : addE N [] ⟨nv, nl, nh⟩ = 2 := by unfold addE; rw [if_neg hout]
              have e2 : addL N [] ⟨nv, nl, nh⟩ orf = [] := by unfold addL; rw [if_neg hout]
              rw [e1, e2] at HE0
              clear e1 e2 hout
              go_wp2_with (fail)
              refine HE0.out.mono ?_
              rintro e w6 ⟨rfl, hv, hf⟩
              have HBO6 := Lib.hid (HBO5.out.right hv hf)
              clear hv hf cY0 cY1 cY2 cY3 cY4 lY
              go_wp2
              go_roundw
              case rel => exact ⟨k + 1, by go_num, hlt, HBO6.out⟩
              case measure => simp [intOf] <;> omega
          · have hkn : n2 = k := by omega
            subst hkn
            have hn1b : n1 ≤ 9000000000000000000 := by have := HB1.out; omega
            go_wp2
            go_loopw [15] (fun i wr => ∃ (k : Nat) (x : Int) (M : List Ent), i = .int .i64 x ∧ x = (k : Int) - 1 ∧ k ≤ n1 ∧ Pair w wr U V N L M ∧ M.length + k ≤ n1 ∧ (∀ p ∈ M, p ∈ L) ∧ ∀ j o, k ≤ j → xs[j]? = some o → ∀ r, look L o.n = some r → look M o.n = some r) (fun i _ => (intOf i + 1).toNat)
            case atStart => exact ⟨n1, _, [], rfl, by go_num, Nat.le_refl _, HBO.out, by simp, by simp, fun j o hj ho => by rw [List.getElem?_eq_none (by rw [← HSx.out.len]; exact hj)] at ho; cases ho⟩
            case round =>
              clear HBO
              obtain ⟨k, x, M, rfl, hx, hk, hbo, hml, hsub, hall⟩ := hrel
              have HBO := Lib.hid hbo
              have HML := Lib.hid hml
              have HSUB := Lib.hid hsub
              have HALL := Lib.hid hall
              clear hbo hml hsub hall
              cases k with
              | zero =>
                have hx1 : ¬ 0 ≤ x := by omega
                clear hx
                have hperm : L.Perm M := (List.perm_ext_iff_of_nodup (nodup_of_keys HBO.out.u.nd) (nodup_of_keys HBO.out.v.nd)).2 fun p => ⟨fun hp => by
                  obtain ⟨o, ho, hn⟩ := HKE.out p hp
                  obtain ⟨j, hj⟩ := List.getElem?_of_mem ho
                  have h1 := look_some HBO.out.u.nd (show (o.n, p.2) ∈ L by rw [hn]; exact hp)
                  have h2 := look_mem (HALL.out j o (Nat.zero_le _) hj p.2 h1)
                  rw [hn] at h2
                  exact h2, fun hp => HSUB.out p hp⟩
                have HPE := Lib.hid (fun v => rvL_perm hperm N v)
                have HLEN := Lib.hid (show L.length * 4 ≤ 140737488355328 by have := HLL.out; have := HB1.out; omega)
                have HLEM := Lib.hid (show M.length * 4 ≤ 140737488355328 by have := HML.out; have := HB1.out; omega)
                clear hperm HSUB HALL
                go_wp2
                go_loopw [128] (fun i wr => ∃ k : Nat, i = .int .i64 k ∧ k ≤ N ∧ Pair w wr U V N L M) (fun i _ => N - (intOf i).toNat)
                case atStart => exact ⟨0, rfl, Nat.zero_le _, HBO.out⟩
                case round =>
                  clear HBO
                  obtain ⟨k, rfl, hk, hbo⟩ := hrel
                  have HBO := Lib.hid hbo
                  clear hbo
                  by_cases hlt : k < N
                  · have hk0 : (0 : Int) ≤ k := by omega
                    have hk1 : (k : Int) < N := by omega
                    have HR1 := Lib.hid (uqrefs_both U N L k wr HBO.out.u HLEN.out)
                    have HR2 := Lib.hid (fun w h => uqrefs_both V N M k w h HLEM.out)
                    rw [HPE.out, show vErr N (k : Int) = 0 from if_pos ⟨hk0, hk1⟩] at HR1
                    rw [show vErr N (k : Int) = 0 from if_pos ⟨hk0, hk1⟩] at HR2
                    have hyl : (rvL N M k).length ≤ 1000000000000000000 := by have := rvL_len N M k; have := HLEM.out; omega
                    obtain ⟨zs, hzs⟩ : ∃ z, z = rvL N M k := ⟨_, rfl⟩
                    rw [← hzs] at HR1 HR2 hyl
                    have HYL := Lib.hid hyl
                    clear hzs hyl
                    go_wp2_with (fail)
                    refine HR1.out.mono ?_
                    rintro e w5 ⟨Ap, Cp, rfl, hp, _, hs5⟩
                    have HBO5 := Lib.hid (HBO.out.later hs5)
                    have HP5 := Lib.hid hp
                    clear hp hs5 HR1
                    go_wp2_with (fail)
                    refine (HR2.out w5 HBO5.out.v).mono ?_
                    rintro e w6 ⟨Aq, Cq, rfl, hq, _, hs6⟩
                    have HBO6 := Lib.hid (HBO5.out.later hs6)
                    have HP6 := Lib.hid (show RU w6 Ap Cp zs from HP5.out.frm hs6 (fun _ _ => id))
                    have HQ6 := Lib.hid hq
                    clear hq hs6 HR2
                    go_wp2_with (fail)
                    refine (usame_any Ap Aq Cp Cq zs zs w6 (RU.ul HP6.out) (RU.ul HQ6.out) HYL.out HYL.out).mono ?_
                    rw [decide_eq_true (rfl : zs = zs)]
                    rintro e w7 ⟨rfl, hs7⟩
                    have HBO7 := Lib.hid (HBO6.out.later hs7)
                    clear hs7
                    go_wp2
                    go_roundw
                    case rel => exact ⟨k + 1, by go_num, hlt, HBO7.out⟩
                    case measure => simp [intOf] <;> omega
                  · have hkn : N = k := by omega
                    subst hkn
                    go_wp2
                    go_ret
                    exact ⟨rfl, HBO.out.same⟩
              | succ j =>
                obtain rfl : x = (j : Int) := by omega
                clear hx
                have hjn : j < n1 := by omega
                obtain ⟨⟨ok, ⟨nv, nl, nh⟩, orf⟩, hop⟩ : ∃ o, xs[j]? = some o := ⟨_, List.getElem?_eq_getElem (by rw [← HSx.out.len]; exact hjn)⟩
                obtain ⟨bl, off, hA, hbl, p0, p1, p2, p3, p4⟩ := opu_at (Sl.same HSx.out HBO.out.same) hop
                obtain ⟨hnok, _⟩ := HOKx.out _ (List.mem_of_getElem? hop)
                simp only at p0 p1 p2 p3 p4 hnok
                subst hA
                have hj0 : (0 : Int) ≤ j := by omega
                have hj1 : (j : Int) < n1 := by omega
                have HNOK := Lib.hid hnok
                have HOP := Lib.hid hop
                clear hop hnok p0 p4
                have HF := Lib.hid (uqfind_any U N L ⟨nv, nl, nh⟩ HNOK.out wr HBO.out.u)
                rcases hlk : look L ⟨nv, nl, nh⟩ with _ | r
                · rw [hlk] at HF
                  simp only [Option.getD_none, Option.isSome_none] at HF
                  have HLK := Lib.hid hlk
                  clear hlk
                  go_wp2_with (fail)
                  refine HF.out.mono ?_
                  rintro e w5 ⟨rfl, hs5⟩
                  have HBO5 := Lib.hid (HBO.out.later hs5)
                  clear hs5 p1 p2 p3 hbl
                  go_wp2
                  go_roundw
                  case rel => exact ⟨j, _, M, rfl, by go_num, by omega, HBO5.out, by have := HML.out; omega, HSUB.out, fun i o hi ho r hr => by
                      by_cases e : i = j
                      · subst e
                        rw [HOP.out] at ho
                        cases ho
                        rw [HLK.out] at hr
                        cases hr
                      · exact HALL.out i o (by omega) ho r hr⟩
                  case measure => show (((j : Int) - 1) + 1).toNat < ((j : Int) + 1).toNat; omega
                · rw [hlk] at HF
                  simp only [Option.getD_some, Option.isSome_some] at HF
                  have HLK := Lib.hid hlk
                  have hm := look_mem hlk
                  have hrw := HBO.out.u.wfR hm
                  have hin := HBO.out.u.vs _ hm
                  have hlk2 : look (addL N M ⟨nv, nl, nh⟩ r) ⟨nv, nl, nh⟩ = some r := by
                    unfold addL
                    rw [if_pos hin]
                    rcases hh : look M ⟨nv, nl, nh⟩ with _ | s
                    · simp only [Option.isSome_none, Bool.false_eq_true, if_false]
                      refine look_some ?_ (List.mem_append_right _ (List.mem_singleton.2 rfl))
                      have : keys (M ++ [((⟨nv, nl, nh⟩ : Nd), r)]) = keys M ++ [⟨nv, nl, nh⟩] := by simp [keys]
                      rw [this, List.nodup_append]
                      exact ⟨HBO.out.v.nd, by simp, fun a ha b hb e => look_none.1 hh (by simp at hb; rw [← hb, ← e]; exact ha)⟩
                    · simp only [Option.isSome_some, if_true]
                      rw [hh, pair_uniq HBO.out.u.nd (HSUB.out _ (look_mem hh)) hm]
                  have hsub2 : ∀ p ∈ addL N M ⟨nv, nl, nh⟩ r, p ∈ L := fun p hp => by
                    rcases mem_addL hp with h | rfl
                    · exact HSUB.out p h
                    · exact hm
                  have hml2 : (addL N M ⟨nv, nl, nh⟩ r).length + j ≤ n1 := by have := addL_len N M ⟨nv, nl, nh⟩ r; have := HML.out; omega
                  have hkeep : ∀ n' s, look M n' = some s → look (addL N M ⟨nv, nl, nh⟩ r) n' = some s := fun n' s hs => by
                    unfold addL
                    rw [if_pos hin]
                    rcases hh : look M ⟨nv, nl, nh⟩ with _ | q
                    · simp only [Option.isSome_none, Bool.false_eq_true, if_false]
                      refine look_some ?_ (List.mem_append_left _ (look_mem hs))
                      have : keys (M ++ [((⟨nv, nl, nh⟩ : Nd), r)]) = keys M ++ [⟨nv, nl, nh⟩] := by simp [keys]
                      rw [this, List.nodup_append]
                      exact ⟨HBO.out.v.nd, by simp, fun a ha b hb e => look_none.1 hh (by simp at hb; rw [← hb, ← e]; exact ha)⟩
                    · simp only [Option.isSome_some, if_true]
                      exact hs
                  have HADD := Lib.hid (fun w h => uqadd_any V N M ⟨nv, nl, nh⟩ HNOK.out r hrw (by have := HML.out; show M.length < 9223372036854775807; omega) w h)
                  obtain ⟨M2, hM2⟩ : ∃ z, z = addL N M ⟨nv, nl, nh⟩ r := ⟨_, rfl⟩
                  rw [← hM2] at hlk2 hsub2 hml2 hkeep HADD
                  have HLK2 := Lib.hid hlk2
                  have HSUB2 := Lib.hid hsub2
                  have HML2 := Lib.hid hml2
                  have HKP := Lib.hid hkeep
                  obtain ⟨er, her⟩ : ∃ z, z = addE N M ⟨nv, nl, nh⟩ := ⟨_, rfl⟩
                  rw [← her] at HADD
                  clear hlk hm hrw hin hlk2 hsub2 hml2 hkeep hM2 her
                  go_wp2_with (fail)
                  refine HF.out.mono ?_
                  rintro e w5 ⟨rfl, hs5⟩
                  have HBO5 := Lib.hid (HBO.out.later hs5)
                  have q1 := (hs5.cell (p := ⟨bl, off + j * 5 + 1, none⟩) hbl id).trans p1
                  have q2 := (hs5.cell (p := ⟨bl, off + j * 5 + 2, none⟩) hbl id).trans p2
                  have q3 := (hs5.cell (p := ⟨bl, off + j * 5 + 3, none⟩) hbl id).trans p3
                  have hbl5 := Nat.lt_of_lt_of_le hbl hs5.size
                  clear hs5 p1 p2 p3 hbl HF
                  go_wp2_with (fail)
                  refine (HADD.out w5 HBO5.out.v).mono ?_
                  rintro e w6 ⟨rfl, hv, hf⟩
                  have HBO6 := Lib.hid (HBO5.out.right hv hf)
                  obtain ⟨bl', off', hA', hbl', _, r1, r2, r3, _⟩ := opu_at (Sl.same HSx.out HBO6.out.same) HOP.out
                  injection hA' with hA'
                  injection hA' with h1 h2
                  subst h1 h2
                  simp only at r1 r2 r3
                  clear hv hf q1 q2 q3 hbl5 HADD
                  go_wp2_with (fail)
                  refine (uqfind_any V N M2 ⟨nv, nl, nh⟩ HNOK.out w6 HBO6.out.v).mono ?_
                  rw [HLK2.out]
                  simp only [Option.getD_some, Option.isSome_some]
                  rintro e w7 ⟨rfl, hs7⟩
                  have HBO7 := Lib.hid (HBO6.out.later hs7)
                  clear hs7 r1 r2 r3 hbl'
                  go_wp2
                  go_roundw
                  case rel => exact ⟨j, _, M2, rfl, by go_num, by omega, HBO7.out, HML2.out, HSUB2.out, fun i o hi ho s hs => by
                      by_cases e : i = j
                      · subst e
                        rw [HOP.out] at ho
                        cases ho
                        rw [HLK.out] at hs
                        cases hs
                        exact HLK2.out
                      · exact HKP.out _ _ (HALL.out i o (by omega) ho s hs)⟩
                  case measure => show (((j : Int) - 1) + 1).toNat < ((j : Int) + 1).toNat; omega
  · go_wp2_with (fail)
    refine (uqnew_bad vars hv w1).mono ?_
    rintro e w2 ⟨rfl, hw2⟩
    subst hw2
    go_wp2_with (fail)
    refine (uqnew_bad vars hv w2).mono ?_
    rintro e w3 ⟨rfl, hw3⟩
    subst hw3
    clear hv
    go_wp2
    go_ret
    exact ⟨rfl, HS1.out⟩
end Go.Proofs.Ytkelbbalffijbaa


/- The walk of UqOrder beside the given rows. -/
