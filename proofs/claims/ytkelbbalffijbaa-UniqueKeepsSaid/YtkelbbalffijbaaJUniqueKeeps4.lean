/- Contracts and plain laws, put together in one file. No condition. -/
import Derived.Test.YtkelbbalffijbaaJUniqueKeeps3
import Derived.Test.YtkelbbalffijbaaRows


/- Layer 07: does. -/
namespace Go.Proofs.Ytkelbbalffijbaa
open Go.RowKit Go.Tk Go.Maps

theorem doL_add {vars : Nat} {L : List Ent} {k : Int} {n : Nd} {r : Int} (h : k = 1) : doL vars L ⟨k, n, r⟩ = addL vars L n r := if_pos h
theorem doL_rem {vars : Nat} {L : List Ent} {k : Int} {n : Nd} {r : Int} (h : k = 2) : doL vars L ⟨k, n, r⟩ = remL vars L n := by unfold doL; rw [if_neg (by simp only; omega), if_pos h]
theorem doL_else {vars : Nat} {L : List Ent} {k : Int} {n : Nd} {r : Int} (h : ¬ k = 1 ∧ ¬ k = 2) : doL vars L ⟨k, n, r⟩ = L := by unfold doL; rw [if_neg h.1, if_neg h.2]
set_option maxRecDepth 100000 in
set_option maxHeartbeats 8000000 in
theorem does_any (U : UTab) (vars : Nat) (A : Option Addr) (C : Nat) (L : List Ent) (ok nv nl nh orf : Int) (hn : Nd.ok ⟨nv, nl, nh⟩) (hr : (Lit.int .u32 orf).wf = true) (w : World) (h : UT w U vars L) (hd : OE w A C L) (hb : (L.length + 1) * 24 ≤ 140737488355328) :
    Calls Try.prog 11 #[.pointer (some ⟨U.T, 0, none⟩), dtab vars A L.length C, .agg #[.int .i64 ok, .int .i64 nv, .int .u32 nl, .int .u32 nh, .int .u32 orf]] w fun e w' => ∃ A' C', e = .returned (.tuple #[dtab vars A' (doL vars L ⟨ok, ⟨nv, nl, nh⟩, orf⟩).length C', .bool true]) ∧ UT w' U vars (doL vars L ⟨ok, ⟨nv, nl, nh⟩, orf⟩) ∧ OE w' A' C' (doL vars L ⟨ok, ⟨nv, nl, nh⟩, orf⟩) ∧ Frm (UB U vars) w w' := by
  have HB := Lib.hid hb
  have HH := Lib.hid h
  have HDD := Lib.hid hd
  unfold dtab
  clear h hd hb
  go_enter Try.func11, Try.ntmps11
  go_upto_region 1 with fail
  refine wp_world fun w1 hw1 => ?_
  have hs1 : Same w w1 := by rw [hw1]; exact (((Frm.refl _ _).alloc _).alloc _).alloc _
  have hX : Blk w1 w.heap.size 30 #[.int .i64 vars, .slice A L.length C] := by rw [hw1]; exact ((Blk.new _ _ _).alloc _).alloc _
  have hY : Blk w1 (w.heap.size + 1) 38 #[.int .i64 ok, .int .i64 nv, .int .u32 nl, .int .u32 nh, .int .u32 orf] := by
    rw [hw1]
    have := (Blk.new (w.alloc (.cells #[.int .i64 vars, .slice A L.length C] 30)) 38 #[.int .i64 ok, .int .i64 nv, .int .u32 nl, .int .u32 nh, .int .u32 orf]).alloc (.cells #[.int .i64 0, .slice none 0 0] 30)
    rwa [World.size_alloc] at this
  have hR : Blk w1 (w.heap.size + 1 + 1) 30 #[.int .i64 0, .slice none 0 0] := by
    rw [hw1]
    have := Blk.new ((w.alloc (.cells #[.int .i64 vars, .slice A L.length C] 30)).alloc (.cells #[.int .i64 ok, .int .i64 nv, .int .u32 nl, .int .u32 nh, .int .u32 orf] 38)) 30 #[.int .i64 0, .slice none 0 0]
    rwa [World.size_alloc, World.size_alloc] at this
  obtain ⟨X, hXX⟩ : ∃ z, z = w.heap.size := ⟨_, rfl⟩
  obtain ⟨Y, hYY⟩ : ∃ z, z = w.heap.size + 1 := ⟨_, rfl⟩
  obtain ⟨R, hRR⟩ : ∃ z, z = w.heap.size + 1 + 1 := ⟨_, rfl⟩
  rw [← hRR] at hR ⊢
  rw [← hYY] at hY ⊢
  rw [← hXX] at hX ⊢
  have hlo : w.heap.size ≤ R ∧ X ≠ R ∧ Y ≠ R := by omega
  have HLO := Lib.hid hlo
  have HSB := Lib.hid (show ¬ U.sb = R from fun e => by have := HH.out.sl; omega)
  have cX0 : w1.cell? ⟨X, 0, none⟩ = some (.int .i64 vars) := hX.cell 0
  have cX1 : w1.cell? ⟨X, 1, none⟩ = some (.slice A L.length C) := hX.cell 1
  have lX := hX.lt
  have cY0 : w1.cell? ⟨Y, 0, none⟩ = some (.int .i64 ok) := hY.cell 0
  have cY1 : w1.cell? ⟨Y, 1, none⟩ = some (.int .i64 nv) := hY.cell 1
  have cY2 : w1.cell? ⟨Y, 2, none⟩ = some (.int .u32 nl) := hY.cell 2
  have cY3 : w1.cell? ⟨Y, 3, none⟩ = some (.int .u32 nh) := hY.cell 3
  have cY4 : w1.cell? ⟨Y, 4, none⟩ = some (.int .u32 orf) := hY.cell 4
  have lY := hY.lt
  have HX := Lib.hid hX
  have HY := Lib.hid hY
  have HR := Lib.hid hR
  have HS1 := Lib.hid hs1
  have HU := Lib.hid (HH.out.same hs1)
  have HD0 := Lib.hid (show OE w1 A C L from HDD.out.frm hs1 (fun _ _ => id))
  clear hw1 hs1 hX hXX hYY hRR hY hR hlo
  rcases Decidable.em (ok = 1) with hk1 | hk1
  · have HK := Lib.hid (show ok = 1 from hk1)
    subst hk1
    go_wp2_with (fail)
    refine (uradd_any vars A C L ⟨nv, nl, nh⟩ orf w1 HD0.out (by have := HB.out; omega)).mono ?_
    rintro e w2 ⟨A2, C2, rfl, hO, hs2⟩
    unfold dtab
    obtain ⟨L2, hL2⟩ : ∃ z, z = addL vars L ⟨nv, nl, nh⟩ orf := ⟨_, rfl⟩
    obtain ⟨er, her⟩ : ∃ z, z = addE vars L ⟨nv, nl, nh⟩ := ⟨_, rfl⟩
    have HADD := Lib.hid (fun w h => uqadd_any U vars L ⟨nv, nl, nh⟩ hn orf hr (by have := HB.out; show L.length < 9223372036854775807; omega) w h)
    rw [← hL2] at hO ⊢
    rw [← hL2, ← her] at HADD
    rw [← her]
    have HL2 := Lib.hid hL2
    have hU2 := HU.out.same hs2
    have HY2 := Lib.hid (HY.out.frm hs2 id)
    have HR2 := Lib.hid (HR.out.frm hs2 id)
    have HO := Lib.hid hO
    have HU2 := Lib.hid hU2
    have HS2 := Lib.hid (HS1.out.trans hs2 (fun _ _ h => h))
    clear hL2 her hO hU2 hs2 cX0 cX1 lX cY0 cY1 cY2 cY3 cY4 lY
    go_upto_region 4 with fail
    refine wp_world fun w3 hw3 => ?_
    have hs3 : Same w2 w3 := by rw [hw3]; exact (Frm.refl _ _).alloc _
    have hZ : Blk w3 w2.heap.size 30 #[.int .i64 vars, .slice A2 L2.length C2] := by rw [hw3]; exact Blk.new _ _ _
    obtain ⟨Z, hZZ⟩ : ∃ z, z = w2.heap.size := ⟨_, rfl⟩
    rw [← hZZ] at hZ ⊢
    clear hw3
    have hY := HY2.out.frm hs3 id
    have hR := HR2.out.frm hs3 id
    have cY0 : w3.cell? ⟨Y, 0, none⟩ = some (.int .i64 1) := hY.cell 0
    have cY1 : w3.cell? ⟨Y, 1, none⟩ = some (.int .i64 nv) := hY.cell 1
    have cY2 : w3.cell? ⟨Y, 2, none⟩ = some (.int .u32 nl) := hY.cell 2
    have cY3 : w3.cell? ⟨Y, 3, none⟩ = some (.int .u32 nh) := hY.cell 3
    have cY4 : w3.cell? ⟨Y, 4, none⟩ = some (.int .u32 orf) := hY.cell 4
    have lY := hY.lt
    have cR0 : w3.cell? ⟨R, 0, none⟩ = some (.int .i64 0) := hR.cell 0
    have cR1 : w3.cell? ⟨R, 1, none⟩ = some (.slice none 0 0) := hR.cell 1
    have fR0 := hR.free 0
    have fR1 := hR.free 1
    have lR := hR.lt
    have cZ0 : w3.cell? ⟨Z, 0, none⟩ = some (.int .i64 vars) := hZ.cell 0
    have cZ1 : w3.cell? ⟨Z, 1, none⟩ = some (.slice A2 L2.length C2) := hZ.cell 1
    have lZ := hZ.lt
    have hU3 := HU2.out.same hs3
    have nY0 : ¬ UB U vars Y := hU3.notUB_cells hY
    have nZ0 : ¬ UB U vars Z := hU3.notUB_cells hZ
    have nR0 : ¬ UB U vars R := hU3.notUB_cells hR
    have hZR : R < Z := by have := HR2.out.lt; omega
    obtain ⟨S, hS⟩ : ∃ S : Nat → Prop, S = fun b => UB U vars b ∨ b = R := ⟨_, rfl⟩
    have nY : ¬ S Y := by rw [hS]; rintro (h | h); exact nY0 h; exact HLO.out.2.2 h
    have nZ : ¬ S Z := by rw [hS]; rintro (h | h); exact nZ0 h; omega
    have sR : S R := by rw [hS]; exact .inr rfl
    have HSS := Lib.hid hS
    have HR3 := Lib.hid hR
    have HNR := Lib.hid nR0
    have HU3 := Lib.hid hU3
    have HO3 := Lib.hid (show OE w3 A2 C2 L2 from HO.out.frm hs3 (fun _ _ => id))
    have HS3 := Lib.hid (HS2.out.trans hs3 (fun _ _ h => h))
    have HADD3 := Lib.hid (HADD.out w3.drew (hU3.same ((Frm.refl _ _).drew)))
    clear hZZ hs3 hY hR hZ hU3 hS nR0 nY0 nZ0 hZR HY2 HR2 HU2 HO HADD
    refine wp_phS S [([0, 1, 2, 3, 4, 5, 7], 6), ([8], 9), ([], 10)] (by kernel_rfl) (by kernel_rfl) ?_
    simp only [wpPh, pick, List.map_cons, List.map_nil, List.getD_cons_zero, List.getD_cons_succ]
    repeat (any_goals (first | go_big_quiet_step (fail) | quiet_step (fail)))
    refine wpQuiet_nil ?_
    refine effStep_plain rfl fun K hK => ?_
    go_simp
    refine HADD3.out.mono ?_
    rintro e w4 ⟨rfl, hU4, hf4⟩
    have hf4' : Frm S w3 w4 := ((Frm.refl S w3).drew).trans hf4 (fun i _ h => by rw [HSS.out]; exact .inl h)
    refine hK _ _ (Lat.mk_ hf4') ?_
    clear hK K
    have hR4 := HR3.out.frm (S := UB U vars) (w' := w4) (((Frm.refl (UB U vars) w3).drew).trans hf4 (fun _ _ h => h)) HNR.out
    have HO4 := Lib.hid (show OE w4 A2 C2 L2 from HO3.out.frm (((Frm.refl (UB U vars) w3).drew).trans hf4 (fun _ _ h => h)) (HU3.out.notUB_own HO3.out))
    have HU4 := Lib.hid hU4
    have HR4 := Lib.hid hR4
    have HF4 := Lib.hid hf4'
    have HFW := Lib.hid (((Frm.refl (UB U vars) w).trans HS3.out (fun _ _ h => h.elim)).trans (((Frm.refl (UB U vars) w3).drew).trans hf4 (fun _ _ h => h)) (fun _ _ h => h))
    clear hf4 hf4' hU4 hR4 HADD3
    repeat (any_goals (first | go_big_quiet_step (fail) | quiet_step (fail)))
    refine wpQuiet_nil ?_
    refine effStep_plain rfl fun K hK => ?_
    have cR0 : w4.cell? ⟨R, 0, none⟩ = some (.int .i64 0) := HR4.out.cell 0
    have cR1 : w4.cell? ⟨R, 1, none⟩ = some (.slice none 0 0) := HR4.out.cell 1
    have fR0 := HR4.out.free 0
    have fR1 := HR4.out.free 1
    have lR := HR4.out.lt
    go_simp
    obtain ⟨we, hwe⟩ : ∃ z, z = (w4.setCell ⟨R, 0, none⟩ (.int .i64 vars)).setCell ⟨R, 1, none⟩ (.slice A2 L2.length C2) := ⟨_, rfl⟩
    rw [← hwe]
    have hB : Blk we R 30 #[.int .i64 vars, .slice A2 L2.length C2] := by
      rw [hwe]
      have := (HR4.out.set 0 (.int .i64 vars)).set 1 (.slice A2 L2.length C2)
      simpa using this
    have hfR : Frm (fun b => b = R) w4 we := by rw [hwe]; exact ((Frm.refl (fun b => b = R) w4).set 0 _ rfl).set 1 _ rfl
    have q0 : we.cell? ⟨R, 0, none⟩ = some (.int .i64 vars) := hB.cell 0
    have q1 : we.cell? ⟨R, 1, none⟩ = some (.slice A2 L2.length C2) := hB.cell 1
    have hOe : OE we A2 C2 L2 := HO4.out.frm hfR (fun a ha e => HO4.out.ne_blk HR4.out (by decide) a ha e)
    have hUe : UT we U vars L2 := HU4.out.frm hfR (fun e => (HU4.out.t.ne HR4.out (by decide)) e |>.elim) (fun e => HSB.out e) (fun v hv e => HU4.out.notUB_cells HR4.out ⟨v, hv, e.symm⟩)
    have hFe : Frm (UB U vars) w we := HFW.out.trans hfR (fun i hi e => by have h1 := HLO.out.1; have e' : i = R := e; omega)
    refine hK _ _ (Lat.mk_ (HF4.out.trans hfR (fun i _ e => by have e' : i = R := e; rw [e']; exact sR))) ?_
    clear hK K
    have HOe := Lib.hid hOe
    have HUe := Lib.hid hUe
    have HFe := Lib.hid hFe
    clear hwe hB hfR hOe hUe hFe
    refine wpQuiet_nil ?_
    go_wp2
    refine bodyPost_ret (v := .tuple #[.agg #[.int .i64 vars, .slice A2 L2.length C2], .bool true]) (by simp [results, Try.results11, go_sem, q0, q1]) rfl ?_
    rw [doL_add rfl, ← HL2.out]
    exact ⟨A2, C2, rfl, HUe.out, HOe.out, HFe.out⟩
  · rcases Decidable.em (ok = 2) with hk2 | hk2
    · have HK := Lib.hid (show ok = 2 from hk2)
      subst hk2
      go_wp2_with (fail)
      refine (urrem_any vars A C L ⟨nv, nl, nh⟩ w1 HD0.out HU.out.nd (by have := HB.out; omega)).mono ?_
      rintro e w2 ⟨A2, C2, rfl, hO, hs2⟩
      unfold dtab
      obtain ⟨L2, hL2⟩ : ∃ z, z = remL vars L ⟨nv, nl, nh⟩ := ⟨_, rfl⟩
      obtain ⟨er, her⟩ : ∃ z, z = remE vars L ⟨nv, nl, nh⟩ := ⟨_, rfl⟩
      have HADD := Lib.hid (fun w h => uqrem_any U vars L ⟨nv, nl, nh⟩ hn w h)
      rw [← hL2] at hO ⊢
      rw [← hL2, ← her] at HADD
      rw [← her]
      have HL2 := Lib.hid hL2
      have hU2 := HU.out.same hs2
      have HY2 := Lib.hid (HY.out.frm hs2 id)
      have HR2 := Lib.hid (HR.out.frm hs2 id)
      have HO := Lib.hid hO
      have HU2 := Lib.hid hU2
      have HS2 := Lib.hid (HS1.out.trans hs2 (fun _ _ h => h))
      clear hL2 her hO hU2 hs2 cX0 cX1 lX cY0 cY1 cY2 cY3 cY4 lY
      go_upto_region 7 with fail
      refine wp_world fun w3 hw3 => ?_
      have hs3 : Same w2 w3 := by rw [hw3]; exact (Frm.refl _ _).alloc _
      have hZ : Blk w3 w2.heap.size 30 #[.int .i64 vars, .slice A2 L2.length C2] := by rw [hw3]; exact Blk.new _ _ _
      obtain ⟨Z, hZZ⟩ : ∃ z, z = w2.heap.size := ⟨_, rfl⟩
      rw [← hZZ] at hZ ⊢
      clear hw3
      have hY := HY2.out.frm hs3 id
      have hR := HR2.out.frm hs3 id
      have cY0 : w3.cell? ⟨Y, 0, none⟩ = some (.int .i64 2) := hY.cell 0
      have cY1 : w3.cell? ⟨Y, 1, none⟩ = some (.int .i64 nv) := hY.cell 1
      have cY2 : w3.cell? ⟨Y, 2, none⟩ = some (.int .u32 nl) := hY.cell 2
      have cY3 : w3.cell? ⟨Y, 3, none⟩ = some (.int .u32 nh) := hY.cell 3
      have cY4 : w3.cell? ⟨Y, 4, none⟩ = some (.int .u32 orf) := hY.cell 4
      have lY := hY.lt
      have cR0 : w3.cell? ⟨R, 0, none⟩ = some (.int .i64 0) := hR.cell 0
      have cR1 : w3.cell? ⟨R, 1, none⟩ = some (.slice none 0 0) := hR.cell 1
      have fR0 := hR.free 0
      have fR1 := hR.free 1
      have lR := hR.lt
      have cZ0 : w3.cell? ⟨Z, 0, none⟩ = some (.int .i64 vars) := hZ.cell 0
      have cZ1 : w3.cell? ⟨Z, 1, none⟩ = some (.slice A2 L2.length C2) := hZ.cell 1
      have lZ := hZ.lt
      have hU3 := HU2.out.same hs3
      have nY0 : ¬ UB U vars Y := hU3.notUB_cells hY
      have nZ0 : ¬ UB U vars Z := hU3.notUB_cells hZ
      have nR0 : ¬ UB U vars R := hU3.notUB_cells hR
      have hZR : R < Z := by have := HR2.out.lt; omega
      obtain ⟨S, hS⟩ : ∃ S : Nat → Prop, S = fun b => UB U vars b ∨ b = R := ⟨_, rfl⟩
      have nY : ¬ S Y := by rw [hS]; rintro (h | h); exact nY0 h; exact HLO.out.2.2 h
      have nZ : ¬ S Z := by rw [hS]; rintro (h | h); exact nZ0 h; omega
      have sR : S R := by rw [hS]; exact .inr rfl
      have HSS := Lib.hid hS
      have HR3 := Lib.hid hR
      have HNR := Lib.hid nR0
      have HU3 := Lib.hid hU3
      have HO3 := Lib.hid (show OE w3 A2 C2 L2 from HO.out.frm hs3 (fun _ _ => id))
      have HS3 := Lib.hid (HS2.out.trans hs3 (fun _ _ h => h))
      have HADD3 := Lib.hid (HADD.out w3.drew (hU3.same ((Frm.refl _ _).drew)))
      clear hZZ hs3 hY hR hZ hU3 hS nR0 nY0 nZ0 hZR HY2 HR2 HU2 HO HADD
      refine wp_phS S [([0, 1, 2, 3, 5], 4), ([6], 7), ([], 8)] (by kernel_rfl) (by kernel_rfl) ?_
      simp only [wpPh, pick, List.map_cons, List.map_nil, List.getD_cons_zero, List.getD_cons_succ]
      repeat (any_goals (first | go_big_quiet_step (fail) | quiet_step (fail)))
      refine wpQuiet_nil ?_
      refine effStep_plain rfl fun K hK => ?_
      go_simp
      refine HADD3.out.mono ?_
      rintro e w4 ⟨rfl, hU4, hf4⟩
      have hf4' : Frm S w3 w4 := ((Frm.refl S w3).drew).trans hf4 (fun i _ h => by rw [HSS.out]; exact .inl h)
      refine hK _ _ (Lat.mk_ hf4') ?_
      clear hK K
      have hR4 := HR3.out.frm (S := UB U vars) (w' := w4) (((Frm.refl (UB U vars) w3).drew).trans hf4 (fun _ _ h => h)) HNR.out
      have HO4 := Lib.hid (show OE w4 A2 C2 L2 from HO3.out.frm (((Frm.refl (UB U vars) w3).drew).trans hf4 (fun _ _ h => h)) (HU3.out.notUB_own HO3.out))
      have HU4 := Lib.hid hU4
      have HR4 := Lib.hid hR4
      have HF4 := Lib.hid hf4'
      have HFW := Lib.hid (((Frm.refl (UB U vars) w).trans HS3.out (fun _ _ h => h.elim)).trans (((Frm.refl (UB U vars) w3).drew).trans hf4 (fun _ _ h => h)) (fun _ _ h => h))
      clear hf4 hf4' hU4 hR4 HADD3
      repeat (any_goals (first | go_big_quiet_step (fail) | quiet_step (fail)))
      refine wpQuiet_nil ?_
      refine effStep_plain rfl fun K hK => ?_
      have cR0 : w4.cell? ⟨R, 0, none⟩ = some (.int .i64 0) := HR4.out.cell 0
      have cR1 : w4.cell? ⟨R, 1, none⟩ = some (.slice none 0 0) := HR4.out.cell 1
      have fR0 := HR4.out.free 0
      have fR1 := HR4.out.free 1
      have lR := HR4.out.lt
      go_simp
      obtain ⟨we, hwe⟩ : ∃ z, z = (w4.setCell ⟨R, 0, none⟩ (.int .i64 vars)).setCell ⟨R, 1, none⟩ (.slice A2 L2.length C2) := ⟨_, rfl⟩
      rw [← hwe]
      have hB : Blk we R 30 #[.int .i64 vars, .slice A2 L2.length C2] := by
        rw [hwe]
        have := (HR4.out.set 0 (.int .i64 vars)).set 1 (.slice A2 L2.length C2)
        simpa using this
      have hfR : Frm (fun b => b = R) w4 we := by rw [hwe]; exact ((Frm.refl (fun b => b = R) w4).set 0 _ rfl).set 1 _ rfl
      have q0 : we.cell? ⟨R, 0, none⟩ = some (.int .i64 vars) := hB.cell 0
      have q1 : we.cell? ⟨R, 1, none⟩ = some (.slice A2 L2.length C2) := hB.cell 1
      have hOe : OE we A2 C2 L2 := HO4.out.frm hfR (fun a ha e => HO4.out.ne_blk HR4.out (by decide) a ha e)
      have hUe : UT we U vars L2 := HU4.out.frm hfR (fun e => (HU4.out.t.ne HR4.out (by decide)) e |>.elim) (fun e => HSB.out e) (fun v hv e => HU4.out.notUB_cells HR4.out ⟨v, hv, e.symm⟩)
      have hFe : Frm (UB U vars) w we := HFW.out.trans hfR (fun i hi e => by have h1 := HLO.out.1; have e' : i = R := e; omega)
      refine hK _ _ (Lat.mk_ (HF4.out.trans hfR (fun i _ e => by have e' : i = R := e; rw [e']; exact sR))) ?_
      clear hK K
      have HOe := Lib.hid hOe
      have HUe := Lib.hid hUe
      have HFe := Lib.hid hFe
      clear hwe hB hfR hOe hUe hFe
      refine wpQuiet_nil ?_
      go_wp2
      refine bodyPost_ret (v := .tuple #[.agg #[.int .i64 vars, .slice A2 L2.length C2], .bool true]) (by simp [results, Try.results11, go_sem, q0, q1]) rfl ?_
      rw [doL_rem rfl, ← HL2.out]
      exact ⟨A2, C2, rfl, HUe.out, HOe.out, HFe.out⟩
    · have HK := Lib.hid (show ¬ ok = 1 ∧ ¬ ok = 2 from ⟨hk1, hk2⟩)
      rcases Decidable.em (ok = 3) with hk3 | hk3
      · clear hk1 hk2
        subst hk3
        have hlk : ∃ x b, x = (look L ⟨nv, nl, nh⟩).getD 0 ∧ b = (look L ⟨nv, nl, nh⟩).isSome := ⟨_, _, rfl, rfl⟩
        obtain ⟨xr, xb, hxr, hxb⟩ := hlk
        have HF1 := Lib.hid (uqfind_any U vars L ⟨nv, nl, nh⟩ hn w1 HU.out)
        have HF2 := Lib.hid (fun w h => urfind_any vars A C L ⟨nv, nl, nh⟩ w h (by have := HB.out; omega))
        rw [← hxr, ← hxb] at HF1 HF2
        unfold dtab at HF2
        clear hxr hxb
        cases xb
        all_goals
          go_wp2_with (fail)
          refine HF1.out.mono ?_
          rintro e w2 ⟨rfl, hs2⟩
          have hX := HX.out.frm hs2 id
          have hY := HY.out.frm hs2 id
          have cX0 : w2.cell? ⟨X, 0, none⟩ = some (.int .i64 vars) := hX.cell 0
          have cX1 : w2.cell? ⟨X, 1, none⟩ = some (.slice A L.length C) := hX.cell 1
          have lX := hX.lt
          have cY0 : w2.cell? ⟨Y, 0, none⟩ = some (.int .i64 3) := hY.cell 0
          have cY1 : w2.cell? ⟨Y, 1, none⟩ = some (.int .i64 nv) := hY.cell 1
          have cY2 : w2.cell? ⟨Y, 2, none⟩ = some (.int .u32 nl) := hY.cell 2
          have cY3 : w2.cell? ⟨Y, 3, none⟩ = some (.int .u32 nh) := hY.cell 3
          have cY4 : w2.cell? ⟨Y, 4, none⟩ = some (.int .u32 orf) := hY.cell 4
          have lY := hY.lt
          have HD2 := Lib.hid (show OE w2 A C L from HD0.out.frm hs2 (fun _ _ => id))
          have HS2 := Lib.hid (HS1.out.trans hs2 (fun _ _ h => h))
          have HU2 := Lib.hid (HU.out.same hs2)
          have HX2 := Lib.hid hX
          have HY2 := Lib.hid hY
          have HR2 := Lib.hid (HR.out.frm hs2 id)
          clear hs2 hX hY HF1
          go_wp2_with (fail)
          refine (HF2.out w2 (OE.el HD2.out)).mono ?_
          rintro e w3 ⟨rfl, hs3⟩
          have hX := HX2.out.frm hs3 id
          have hR := HR2.out.frm hs3 id
          have cX0 : w3.cell? ⟨X, 0, none⟩ = some (.int .i64 vars) := hX.cell 0
          have cX1 : w3.cell? ⟨X, 1, none⟩ = some (.slice A L.length C) := hX.cell 1
          have lX := hX.lt
          have cR0 : w3.cell? ⟨R, 0, none⟩ = some (.int .i64 0) := hR.cell 0
          have cR1 : w3.cell? ⟨R, 1, none⟩ = some (.slice none 0 0) := hR.cell 1
          have fR0 := hR.free 0
          have fR1 := hR.free 1
          have lR := hR.lt
          have HD3 := Lib.hid (show OE w3 A C L from HD2.out.frm hs3 (fun _ _ => id))
          have HS3 := Lib.hid (HS2.out.trans hs3 (fun _ _ h => h))
          have HU3 := Lib.hid (HU2.out.same hs3)
          have HR3 := Lib.hid hR
          have HFW := Lib.hid ((Frm.refl (UB U vars) w).trans HS3.out (fun _ _ h => h.elim))
          clear hs3 hX hR HF2 cY0 cY1 cY2 cY3 cY4 lY
          go_wp2
          refine wp_post fun we hwe => ?_
          have hB : Blk we R 30 #[.int .i64 vars, .slice A L.length C] := by
            rw [hwe]
            have := (HR3.out.set 0 (.int .i64 vars)).set 1 (.slice A L.length C)
            simpa using this
          have hfR : Frm (fun b => b = R) w3 we := by rw [hwe]; exact ((Frm.refl (fun b => b = R) w3).set 0 _ rfl).set 1 _ rfl
          have q0 : we.cell? ⟨R, 0, none⟩ = some (.int .i64 vars) := hB.cell 0
          have q1 : we.cell? ⟨R, 1, none⟩ = some (.slice A L.length C) := hB.cell 1
          have hOe : OE we A C L := HD3.out.frm hfR (fun a ha e => HD3.out.ne_blk HR3.out (by decide) a ha e)
          have hUe : UT we U vars L := HU3.out.frm hfR (fun e => (HU3.out.t.ne HR3.out (by decide)) e |>.elim) (fun e => HSB.out e) (fun v hv e => HU3.out.notUB_cells HR3.out ⟨v, hv, e.symm⟩)
          have hFe : Frm (UB U vars) w we := HFW.out.trans hfR (fun i hi e => by have h1 := HLO.out.1; have e' : i = R := e; omega)
          have HOe := Lib.hid hOe
          have HUe := Lib.hid hUe
          have HFe := Lib.hid hFe
          clear hwe hB hfR hOe hUe hFe
          refine bodyPost_ret (v := .tuple #[.agg #[.int .i64 vars, .slice A L.length C], .bool true]) (by simp [results, Try.results11, go_sem, q0, q1]) rfl ?_
          rw [doL_else (by decide)]
          exact ⟨A, C, rfl, HUe.out, HOe.out, HFe.out⟩
      · rcases Decidable.em (ok = 4) with hk4 | hk4
        · clear hk1 hk2 hk3
          subst hk4
          have HCNT := Lib.hid (uqcount_both U vars L nv w1 HU.out)
          have HRF := Lib.hid (fun w h => urrefs_both vars A C L nv w h (by have := HB.out; omega))
          unfold dtab at HRF
          obtain ⟨ys, hys⟩ : ∃ z, z = rvL vars L nv := ⟨_, rfl⟩
          obtain ⟨er, her⟩ : ∃ z, z = vErr vars nv := ⟨_, rfl⟩
          rw [← hys, ← her] at HCNT HRF
          clear hys her
          go_wp2_with (fail)
          refine HCNT.out.mono ?_
          rintro e w2 ⟨rfl, hv⟩
          subst hv
          go_wp2_with (fail)
          refine (HRF.out w2 (OE.el HD0.out)).mono ?_
          rintro e w3 ⟨Aq, Cq, rfl, hq, _, hs3⟩
          have hX := HX.out.frm hs3 id
          have hR := HR.out.frm hs3 id
          have cX0 : w3.cell? ⟨X, 0, none⟩ = some (.int .i64 vars) := hX.cell 0
          have cX1 : w3.cell? ⟨X, 1, none⟩ = some (.slice A L.length C) := hX.cell 1
          have lX := hX.lt
          have cR0 : w3.cell? ⟨R, 0, none⟩ = some (.int .i64 0) := hR.cell 0
          have cR1 : w3.cell? ⟨R, 1, none⟩ = some (.slice none 0 0) := hR.cell 1
          have fR0 := hR.free 0
          have fR1 := hR.free 1
          have lR := hR.lt
          have HD3 := Lib.hid (show OE w3 A C L from HD0.out.frm hs3 (fun _ _ => id))
          have HS3 := Lib.hid (HS1.out.trans hs3 (fun _ _ h => h))
          have HU3 := Lib.hid (HU.out.same hs3)
          have HR3 := Lib.hid hR
          have HFW := Lib.hid ((Frm.refl (UB U vars) w).trans HS3.out (fun _ _ h => h.elim))
          clear hs3 hX hR hq HRF HCNT cY0 cY1 cY2 cY3 cY4 lY
          go_wp2
          refine wp_post fun we hwe => ?_
          have hB : Blk we R 30 #[.int .i64 vars, .slice A L.length C] := by
            rw [hwe]
            have := (HR3.out.set 0 (.int .i64 vars)).set 1 (.slice A L.length C)
            simpa using this
          have hfR : Frm (fun b => b = R) w3 we := by rw [hwe]; exact ((Frm.refl (fun b => b = R) w3).set 0 _ rfl).set 1 _ rfl
          have q0 : we.cell? ⟨R, 0, none⟩ = some (.int .i64 vars) := hB.cell 0
          have q1 : we.cell? ⟨R, 1, none⟩ = some (.slice A L.length C) := hB.cell 1
          have hOe : OE we A C L := HD3.out.frm hfR (fun a ha e => HD3.out.ne_blk HR3.out (by decide) a ha e)
          have hUe : UT we U vars L := HU3.out.frm hfR (fun e => (HU3.out.t.ne HR3.out (by decide)) e |>.elim) (fun e => HSB.out e) (fun v hv e => HU3.out.notUB_cells HR3.out ⟨v, hv, e.symm⟩)
          have hFe : Frm (UB U vars) w we := HFW.out.trans hfR (fun i hi e => by have h1 := HLO.out.1; have e' : i = R := e; omega)
          have HOe := Lib.hid hOe
          have HUe := Lib.hid hUe
          have HFe := Lib.hid hFe
          clear hwe hB hfR hOe hUe hFe
          refine bodyPost_ret (v := .tuple #[.agg #[.int .i64 vars, .slice A L.length C], .bool true]) (by simp [results, Try.results11, go_sem, q0, q1]) rfl ?_
          rw [doL_else (by decide)]
          exact ⟨A, C, rfl, HUe.out, HOe.out, HFe.out⟩
        · rcases Decidable.em (ok = 5) with hk5 | hk5
          · clear hk1 hk2 hk3 hk4
            subst hk5
            have HCNT := Lib.hid (uqrefs_both U vars L nv w1 HU.out (by have := HB.out; omega))
            have HRF := Lib.hid (fun w h => urrefs_both vars A C L nv w h (by have := HB.out; omega))
            unfold dtab at HRF
            have hylen : (rvL vars L nv).length ≤ 1000000000000000000 := by have := rvL_len vars L nv; have := HB.out; omega
            obtain ⟨ys, hys⟩ : ∃ z, z = rvL vars L nv := ⟨_, rfl⟩
            obtain ⟨er, her⟩ : ∃ z, z = vErr vars nv := ⟨_, rfl⟩
            rw [← hys] at hylen
            rw [← hys, ← her] at HCNT HRF
            have HYL := Lib.hid hylen
            clear hys her hylen
            go_wp2_with (fail)
            refine HCNT.out.mono ?_
            rintro e w2 ⟨Ap, Cp, rfl, hp, _, hs2⟩
            have hX := HX.out.frm hs2 id
            have hY := HY.out.frm hs2 id
            have cX0 : w2.cell? ⟨X, 0, none⟩ = some (.int .i64 vars) := hX.cell 0
            have cX1 : w2.cell? ⟨X, 1, none⟩ = some (.slice A L.length C) := hX.cell 1
            have lX := hX.lt
            have cY0 : w2.cell? ⟨Y, 0, none⟩ = some (.int .i64 5) := hY.cell 0
            have cY1 : w2.cell? ⟨Y, 1, none⟩ = some (.int .i64 nv) := hY.cell 1
            have cY2 : w2.cell? ⟨Y, 2, none⟩ = some (.int .u32 nl) := hY.cell 2
            have cY3 : w2.cell? ⟨Y, 3, none⟩ = some (.int .u32 nh) := hY.cell 3
            have cY4 : w2.cell? ⟨Y, 4, none⟩ = some (.int .u32 orf) := hY.cell 4
            have lY := hY.lt
            have HD2 := Lib.hid (show OE w2 A C L from HD0.out.frm hs2 (fun _ _ => id))
            have HS2 := Lib.hid (HS1.out.trans hs2 (fun _ _ h => h))
            have HU2 := Lib.hid (HU.out.same hs2)
            have HX2 := Lib.hid hX
            have HR2 := Lib.hid (HR.out.frm hs2 id)
            have HP2 := Lib.hid hp
            clear hs2 hX hY hp HCNT
            go_wp2_with (fail)
            refine (HRF.out w2 (OE.el HD2.out)).mono ?_
            rintro e w3 ⟨Aq, Cq, rfl, hq, _, hs3⟩
            have hX := HX2.out.frm hs3 id
            have hR := HR2.out.frm hs3 id
            have cX0 : w3.cell? ⟨X, 0, none⟩ = some (.int .i64 vars) := hX.cell 0
            have cX1 : w3.cell? ⟨X, 1, none⟩ = some (.slice A L.length C) := hX.cell 1
            have lX := hX.lt
            have cR0 : w3.cell? ⟨R, 0, none⟩ = some (.int .i64 0) := hR.cell 0
            have cR1 : w3.cell? ⟨R, 1, none⟩ = some (.slice none 0 0) := hR.cell 1
            have fR0 := hR.free 0
            have fR1 := hR.free 1
            have lR := hR.lt
            have HP3 := Lib.hid (show RU w3 Ap Cp ys from HP2.out.frm hs3 (fun _ _ => id))
            have HQ3 := Lib.hid hq
            have HD3 := Lib.hid (show OE w3 A C L from HD2.out.frm hs3 (fun _ _ => id))
            have HS3 := Lib.hid (HS2.out.trans hs3 (fun _ _ h => h))
            have HU3 := Lib.hid (HU2.out.same hs3)
            have HR3 := Lib.hid hR
            clear hs3 hX hR hq HRF cY0 cY1 cY2 cY3 cY4 lY
            obtain ⟨S, hS⟩ : ∃ S : Nat → Prop, S = fun b => b = R := ⟨_, rfl⟩
            have nX : ¬ S X := by rw [hS]; exact HLO.out.2.1
            have sR : S R := by rw [hS]
            clear hS
            go_upto_region 19 with fail
            refine wp_phS S [([0, 1, 2], 3), ([4, 5, 6, 7, 8], 9), ([], 10)] (by kernel_rfl) (by kernel_rfl) ?_
            simp only [wpPh, pick, List.map_cons, List.map_nil, List.getD_cons_zero, List.getD_cons_succ]
            repeat (any_goals (first | go_big_quiet_step (fail) | quiet_step (fail)))
            refine wpQuiet_nil ?_
            refine effStep_plain rfl fun K hK => ?_
            go_simp
            refine (usame_any Ap Aq Cp Cq ys ys w3.drew (RU.ul (HP3.out.frm ((Frm.refl (fun _ => False) w3).drew) (fun _ _ => id))) (RU.ul (HQ3.out.frm ((Frm.refl (fun _ => False) w3).drew) (fun _ _ => id))) HYL.out HYL.out).mono ?_
            rw [decide_eq_true (rfl : ys = ys)]
            rintro e w4 ⟨rfl, hs4⟩
            have hs4' : Same w3 w4 := ((Frm.refl _ w3).drew).trans hs4 (fun _ _ h => h)
            have HF4 := Lib.hid ((Frm.refl S w3).trans hs4' (fun _ _ h => h.elim))
            refine hK _ _ (Lat.mk_ HF4.out) ?_
            clear hK K
            have HR4 := Lib.hid (HR3.out.frm hs4' id)
            have HD4 := Lib.hid (show OE w4 A C L from HD3.out.frm hs4' (fun _ _ => id))
            have HU4 := Lib.hid (HU3.out.same hs4')
            have HFW := Lib.hid ((Frm.refl (UB U vars) w).trans (HS3.out.trans hs4' (fun _ _ h => h)) (fun _ _ h => h.elim))
            clear hs4 hs4'
            repeat (any_goals (first | go_big_quiet_step (fail) | quiet_step (fail)))
            refine wpQuiet_nil ?_
            refine effStep_plain rfl fun K hK => ?_
            have cR0 : w4.cell? ⟨R, 0, none⟩ = some (.int .i64 0) := HR4.out.cell 0
            have cR1 : w4.cell? ⟨R, 1, none⟩ = some (.slice none 0 0) := HR4.out.cell 1
            have fR0 := HR4.out.free 0
            have fR1 := HR4.out.free 1
            have lR := HR4.out.lt
            go_simp
            obtain ⟨we, hwe⟩ : ∃ z, z = (w4.setCell ⟨R, 0, none⟩ (.int .i64 vars)).setCell ⟨R, 1, none⟩ (.slice A L.length C) := ⟨_, rfl⟩
            rw [← hwe]
            have hB : Blk we R 30 #[.int .i64 vars, .slice A L.length C] := by
              rw [hwe]
              have := (HR4.out.set 0 (.int .i64 vars)).set 1 (.slice A L.length C)
              simpa using this
            have hfR : Frm (fun b => b = R) w4 we := by rw [hwe]; exact ((Frm.refl (fun b => b = R) w4).set 0 _ rfl).set 1 _ rfl
            have q0 : we.cell? ⟨R, 0, none⟩ = some (.int .i64 vars) := hB.cell 0
            have q1 : we.cell? ⟨R, 1, none⟩ = some (.slice A L.length C) := hB.cell 1
            have hOe : OE we A C L := HD4.out.frm hfR (fun a ha e => HD4.out.ne_blk HR4.out (by decide) a ha e)
            have hUe : UT we U vars L := HU4.out.frm hfR (fun e => (HU4.out.t.ne HR4.out (by decide)) e |>.elim) (fun e => HSB.out e) (fun v hv e => HU4.out.notUB_cells HR4.out ⟨v, hv, e.symm⟩)
            have hFe : Frm (UB U vars) w we := HFW.out.trans hfR (fun i hi e => by have h1 := HLO.out.1; have e' : i = R := e; omega)
            refine hK _ _ (Lat.mk_ (HF4.out.trans hfR (fun i _ e => by have e' : i = R := e; rw [e']; exact sR))) ?_
            clear hK K
            have HOe := Lib.hid hOe
            have HUe := Lib.hid hUe
            have HFe := Lib.hid hFe
            clear hwe hB hfR hOe hUe hFe
            refine wpQuiet_nil ?_
            go_wp2
            refine bodyPost_ret (v := .tuple #[.agg #[.int .i64 vars, .slice A L.length C], .bool true]) (by simp [results, Try.results11, go_sem, q0, q1]) rfl ?_
            rw [doL_else (by decide)]
            exact ⟨A, C, rfl, HUe.out, HOe.out, HFe.out⟩
          ·
            have HFW := Lib.hid ((Frm.refl (UB U vars) w).trans HS1.out (fun _ _ h => h.elim))
            have hR := HR.out
            have cR0 : w1.cell? ⟨R, 0, none⟩ = some (.int .i64 0) := hR.cell 0
            have cR1 : w1.cell? ⟨R, 1, none⟩ = some (.slice none 0 0) := hR.cell 1
            have fR0 := hR.free 0
            have fR1 := hR.free 1
            have lR := hR.lt
            clear hR
            go_wp2
            refine wp_post fun we hwe => ?_
            have hB : Blk we R 30 #[.int .i64 vars, .slice A L.length C] := by
              rw [hwe]
              have := (HR.out.set 0 (.int .i64 vars)).set 1 (.slice A L.length C)
              simpa using this
            have hfR : Frm (fun b => b = R) w1 we := by rw [hwe]; exact ((Frm.refl (fun b => b = R) w1).set 0 _ rfl).set 1 _ rfl
            have q0 : we.cell? ⟨R, 0, none⟩ = some (.int .i64 vars) := hB.cell 0
            have q1 : we.cell? ⟨R, 1, none⟩ = some (.slice A L.length C) := hB.cell 1
            have hOe : OE we A C L := HD0.out.frm hfR (fun a ha e => HD0.out.ne_blk HR.out (by decide) a ha e)
            have hUe : UT we U vars L := HU.out.frm hfR (fun e => (HU.out.t.ne HR.out (by decide)) e |>.elim) (fun e => HSB.out e) (fun v hv e => HU.out.notUB_cells HR.out ⟨v, hv, e.symm⟩)
            have hFe : Frm (UB U vars) w we := HFW.out.trans hfR (fun i hi e => by have h1 := HLO.out.1; have e' : i = R := e; omega)
            have HOe := Lib.hid hOe
            have HUe := Lib.hid hUe
            have HFe := Lib.hid hFe
            clear hwe hB hfR hOe hUe hFe
            refine bodyPost_ret (v := .tuple #[.agg #[.int .i64 vars, .slice A L.length C], .bool true]) (by simp [results, Try.results11, go_sem, q0, q1]) rfl ?_
            rw [doL_else HK.out]
            exact ⟨A, C, rfl, HUe.out, HOe.out, HFe.out⟩
end Go.Proofs.Ytkelbbalffijbaa


/- Layer 07: awake. -/
namespace Go.Proofs.Ytkelbbalffijbaa
open Go.RowKit Go.Tk Go.Maps

def n012 : Nd := ⟨0, 1, 2⟩
theorem n012_ok : n012.ok := by unfold n012 Nd.ok; decide
set_option maxRecDepth 100000 in
set_option maxHeartbeats 4000000 in
theorem uqawake_any (w : World) : Calls Try.prog 8 #[] w fun e w' => e = .returned (.bool true) ∧ Same w w' := by
  go_enter Try.func8, Try.ntmps8
  go_wp2_with (fail)
  refine (uqnew_any 3 (by decide) (by decide) w).mono ?_
  rintro e w1 ⟨U, rfl, hs1, h1, hT, hsb, hmb⟩
  have HS1 := Lib.hid hs1
  have H1 := Lib.hid h1
  have HMB := Lib.hid hmb
  clear hs1 h1 hT hsb hmb
  go_wp2_with (fail)
  refine call_world fun w2 hw2 => ?_
  have hs2 : Same w1 w2 := by rw [hw2]; exact (Frm.refl _ _).alloc _
  have hX : Blk w2 w1.heap.size 36 #[.int .i64 0, .int .u32 1, .int .u32 2] := by rw [hw2]; exact Blk.new _ _ _
  have hlo : ∀ v, v < 3 → U.mb v < w1.heap.size := fun v hv => (H1.out.m v hv).lt
  obtain ⟨X, hXX⟩ : ∃ z, z = w1.heap.size := ⟨_, rfl⟩
  rw [← hXX] at hX hlo ⊢
  have hnX : ¬ UB U 3 X := fun ⟨v, hv, e⟩ => by have := hlo v hv; omega
  have HNX := Lib.hid hnX
  have HX := Lib.hid hX
  have HS2 := Lib.hid (HS1.out.trans hs2 (fun _ _ h => h))
  have H2 := Lib.hid (H1.out.same hs2)
  clear hs2 hX hlo hXX hnX hw2
  refine (uqadd_any U 3 [] n012 n012_ok 7 (by decide) (by decide) w2 H2.out).mono ?_
  rw [show addE 3 [] n012 = 0 by decide, show addL 3 [] n012 7 = [(n012, 7)] by decide]
  rintro e w3 ⟨rfl, h3, hf3⟩
  have HF3 := Lib.hid (HS2.out.trans hf3 (fun i hi (h : UB U 3 i) => by obtain ⟨v, hv, rfl⟩ := h; have := HMB.out v hv; omega))
  have hX3 := HX.out.frm hf3 HNX.out
  have c0 : w3.cell? ⟨X, 0, none⟩ = some (.int .i64 0) := hX3.cell 0
  have c1 : w3.cell? ⟨X, 1, none⟩ = some (.int .u32 1) := hX3.cell 1
  have c2 : w3.cell? ⟨X, 2, none⟩ = some (.int .u32 2) := hX3.cell 2
  have lX := hX3.lt
  have HX3 := Lib.hid hX3
  have H3 := Lib.hid h3
  clear h3 hf3 hX3 H2 HX H1 HS1
  go_wp2_with (fail)
  refine (uqadd_any U 3 [(n012, 7)] n012 n012_ok 8 (by decide) (by decide) w3 H3.out).mono ?_
  rw [show addE 3 [(n012, 7)] n012 = 11 by decide, show addL 3 [(n012, 7)] n012 8 = [(n012, 7)] by decide]
  rintro e w4 ⟨rfl, h4, hf4⟩
  have HF4 := Lib.hid (HF3.out.trans hf4 (fun i hi (h : UB U 3 i) => by obtain ⟨v, hv, rfl⟩ := h; have := HMB.out v hv; omega))
  have hX4 := HX3.out.frm hf4 HNX.out
  have c0 : w4.cell? ⟨X, 0, none⟩ = some (.int .i64 0) := hX4.cell 0
  have c1 : w4.cell? ⟨X, 1, none⟩ = some (.int .u32 1) := hX4.cell 1
  have c2 : w4.cell? ⟨X, 2, none⟩ = some (.int .u32 2) := hX4.cell 2
  have lX := hX4.lt
  have HX4 := Lib.hid hX4
  have H4 := Lib.hid h4
  clear h4 hf4 hX4 H3 HX3
  go_wp2_with (fail)
  refine (uqfind_any U 3 [(n012, 7)] n012 n012_ok w4 H4.out).mono ?_
  rw [show look [(n012, 7)] n012 = some 7 by decide]
  rintro e w5 ⟨rfl, hs5⟩
  have HF5 := Lib.hid (HF4.out.trans hs5 (fun _ _ h => h))
  have HX5 := Lib.hid (HX4.out.frm hs5 id)
  have H5 := Lib.hid (H4.out.same hs5)
  clear hs5 H4 HX4 c0 c1 c2
  simp only [Option.getD_some, Option.isSome_some]
  go_wp2_with (fail)
  refine (uqcount_any U 3 [(n012, 7)] 0 w5 H5.out).mono ?_
  rw [show (if (0 : Int) ≤ 0 ∧ (0 : Int) < (3 : Nat) then (ofv [(n012, 7)] (0 : Int).toNat).length else 0) = 1 by decide, show vErr 3 0 = 0 by decide]
  rintro e w6 ⟨rfl, rfl⟩
  have c0 : w6.cell? ⟨X, 0, none⟩ = some (.int .i64 0) := HX5.out.cell 0
  have c1 : w6.cell? ⟨X, 1, none⟩ = some (.int .u32 1) := HX5.out.cell 1
  have c2 : w6.cell? ⟨X, 2, none⟩ = some (.int .u32 2) := HX5.out.cell 2
  have lX := HX5.out.lt
  go_wp2_with (fail)
  refine (uqrem_any U 3 [(n012, 7)] n012 n012_ok w6 H5.out).mono ?_
  rw [show remE 3 [(n012, 7)] n012 = 0 by decide, show remL 3 [(n012, 7)] n012 = [] by decide]
  rintro e w7 ⟨rfl, h7, hf7⟩
  have HF7 := Lib.hid (HF5.out.trans hf7 (fun i hi (h : UB U 3 i) => by obtain ⟨v, hv, rfl⟩ := h; have := HMB.out v hv; omega))
  have hX7 := HX5.out.frm hf7 HNX.out
  have c0 : w7.cell? ⟨X, 0, none⟩ = some (.int .i64 0) := hX7.cell 0
  have c1 : w7.cell? ⟨X, 1, none⟩ = some (.int .u32 1) := hX7.cell 1
  have c2 : w7.cell? ⟨X, 2, none⟩ = some (.int .u32 2) := hX7.cell 2
  have lX := hX7.lt
  have H7 := Lib.hid h7
  clear h7 hf7 hX7 H5 HX5
  go_wp2_with (fail)
  refine (uqrem_any U 3 [] n012 n012_ok w7 H7.out).mono ?_
  rw [show remE 3 [] n012 = 10 by decide, show remL 3 [] n012 = [] by decide]
  rintro e w8 ⟨rfl, h8, hf8⟩
  have HF8 := Lib.hid (HF7.out.trans hf8 (fun i hi (h : UB U 3 i) => by obtain ⟨v, hv, rfl⟩ := h; have := HMB.out v hv; omega))
  clear h8 hf8
  go_wp2
  go_ret
  exact ⟨rfl, HF8.out⟩
end Go.Proofs.Ytkelbbalffijbaa


/- Layer 07: UniquePlays. -/
namespace Go.Proofs.Ytkelbbalffijbaa
open Go.RowKit Go.Tk Go.Maps

/-- a table beside the reference's, whose record lies in block D: the same entries, no more than so many -/
structure Both (w0 w : World) (U : UTab) (N D bnd : Nat) (A : Option Addr) (C : Nat) (L : List Ent) : Prop where
  u : UT w U N L
  o : OE w A C L
  d : Blk w D 30 #[.int .i64 N, .slice A L.length C]
  len : L.length ≤ bnd
  same : Same w0 w
  fm : ∀ v, v < N → w0.heap.size ≤ U.mb v
  fd : w0.heap.size ≤ D
theorem Both.later {w0 w w' : World} {U : UTab} {N D bnd : Nat} {A : Option Addr} {C : Nat} {L : List Ent} (h : Both w0 w U N D bnd A C L) (hs : Same w w') : Both w0 w' U N D bnd A C L :=
  ⟨h.u.same hs, h.o.frm hs (fun _ _ => id), h.d.frm hs id, h.len, h.same.trans hs (fun _ _ h => h), h.fm, h.fd⟩
/-- a call of does, and its table stored -/
theorem Both.did {w0 w w' : World} {U : UTab} {N D bnd : Nat} {A A' : Option Addr} {C C' : Nat} {L L' : List Ent} (h : Both w0 w U N D bnd A C L) (hu : UT w' U N L') (ho : OE w' A' C' L') (hf : Frm (UB U N) w w') {bnd' : Nat} (hl : L'.length ≤ bnd') :
    Both w0 ((w'.setCell ⟨D, 0, none⟩ (.int .i64 N)).setCell ⟨D, 1, none⟩ (.slice A' L'.length C')) U N D bnd' A' C' L' := by
  have hd := h.d.frm hf (h.u.notUB_cells h.d)
  have hfD : Frm (fun b => b = D) w' ((w'.setCell ⟨D, 0, none⟩ (.int .i64 N)).setCell ⟨D, 1, none⟩ (.slice A' L'.length C')) := ((Frm.refl (fun b => b = D) w').set 0 _ rfl).set 1 _ rfl
  have hs1 : Same w0 w' := h.same.trans hf (fun i hi (hb : UB U N i) => by
    obtain ⟨v, hv, rfl⟩ := hb
    have := h.fm v hv
    omega)
  refine ⟨hu.frm hfD (fun e => (hu.t.ne hd (by decide)) e) ?_ (fun v hv e => hu.notUB_cells hd ⟨v, hv, e.symm⟩), ho.frm hfD (fun a ha e => ho.ne_blk hd (by decide) a ha e), ?_, hl, hs1.trans hfD (fun i hi (e : i = D) => by have := h.fd; omega), h.fm, h.fd⟩
  · intro e
    have e' : U.sb = D := e
    have h1 := hu.s 0 (Nat.lt_of_lt_of_le Nat.zero_lt_one hu.hv.1)
    have h2 := hd.cell 0
    rw [← e', h1] at h2
    cases h2
  · have := (hd.set 0 (.int .i64 N)).set 1 (.slice A' L'.length C')
    simpa using this
/-- one item of the script, in its box -/
theorem opu_at {w : World} {A : Option Addr} {n : Nat} {ops : List Opu} (hs : Sl w 5 Opu.cells A n ops) {k : Nat} {o : Opu} (ho : ops[k]? = some o) : ∃ b off, A = some ⟨b, off, none⟩ ∧ b < w.heap.size ∧ w.cell? ⟨b, off + k * 5, none⟩ = some (.int .i64 o.k) ∧ w.cell? ⟨b, off + k * 5 + 1, none⟩ = some (.int .i64 o.n.v) ∧ w.cell? ⟨b, off + k * 5 + 2, none⟩ = some (.int .u32 o.n.lo) ∧ w.cell? ⟨b, off + k * 5 + 3, none⟩ = some (.int .u32 o.n.hi) ∧ w.cell? ⟨b, off + k * 5 + 4, none⟩ = some (.int .u32 o.r) := by
  obtain ⟨b, off, h1, h2, h3⟩ := hs.get k o ho
  exact ⟨b, off, h1, h2, h3 0 (by omega), h3 1 (by omega), h3 2 (by omega), h3 3 (by omega), h3 4 (by omega)⟩
set_option maxRecDepth 100000 in
set_option maxHeartbeats 8000000 in
theorem uniquePlays_any (vars : Int) (A : Option Addr) (n C : Nat) (ops : List Opu) (hok : ∀ o ∈ ops, o.ok) (w : World) (hs : Sl w 5 Opu.cells A n ops) (hb : n * 32 ≤ 140737488355328) :
    Calls Try.prog 3 #[.int .i64 vars, .slice A n C] w fun e w' => e = .returned (.bool true) ∧ Same w w' := by
  have HS := Lib.hid hs
  have HOK := Lib.hid hok
  have HB := Lib.hid hb
  clear hs hok hb
  go_enter Try.func3, Try.ntmps3
  go_wp2_with (fail)
  refine (uqawake_any w).mono ?_
  rintro e w1 ⟨rfl, hs1⟩
  have HS1 := Lib.hid hs1
  clear hs1
  by_cases hv : 1 ≤ vars ∧ vars ≤ 64
  · obtain ⟨N, rfl⟩ := Int.eq_ofNat_of_zero_le (show 0 ≤ vars by omega)
    have hN1 : 1 ≤ N := by omega
    have hN2 : N ≤ 64 := by omega
    have HNEW := Lib.hid (fun w => urnew_any (N : Int) w)
    rw [if_pos hv, if_pos hv] at HNEW
    clear hv
    go_wp2_with (fail)
    refine (uqnew_any N hN1 hN2 w1).mono ?_
    rintro e w2 ⟨U, rfl, hs2, hU, hT, hsb, hmb⟩
    have HU := Lib.hid hU
    have HS2 := Lib.hid (HS1.out.trans hs2 (fun _ _ h => h))
    have HMB := Lib.hid (fun v hv => Nat.le_trans HS1.out.size (hmb v hv))
    clear hU hT hsb hmb hs2
    go_wp2_with (fail)
    refine (HNEW.out w2).mono ?_
    rintro e w3 ⟨A0, C0, rfl, ho, hs3⟩
    unfold dtab
    have HO3 := Lib.hid ho
    have HU3 := Lib.hid (HU.out.same hs3)
    have HS3 := Lib.hid (HS2.out.trans hs3 (fun _ _ h => h))
    clear ho hs3 HNEW HU
    go_upto_region 5 with fail
    refine wp_world fun w4 hw4 => ?_
    have hs4 : Same w3 w4 := by rw [hw4]; exact (Frm.refl _ _).alloc _
    have hD : Blk w4 w3.heap.size 30 #[.int .i64 N, .slice A0 ([] : List Ent).length C0] := by rw [hw4]; exact Blk.new _ _ _
    obtain ⟨D, hDD⟩ : ∃ z, z = w3.heap.size := ⟨_, rfl⟩
    rw [← hDD] at hD ⊢
    have HBOTH := Lib.hid (show Both w w4 U N D 0 A0 C0 [] from ⟨HU3.out.same hs4, HO3.out.frm hs4 (fun _ _ => id), hD, Nat.le_refl _, HS3.out.trans hs4 (fun _ _ h => h), HMB.out, by rw [hDD]; exact HS3.out.size⟩)
    clear hw4 hs4 hD hDD HU3 HO3 HS3 HMB HS1 HS2
    go_wp2
    go_loopw [9, 42] (fun x i wr => x = .bool true ∧ ∃ (k : Nat) (A1 : Option Addr) (C1 : Nat) (L : List Ent), i = .int .i64 k ∧ k ≤ n ∧ Both w wr U N D k A1 C1 L) (fun _ i _ => n - (intOf i).toNat)
    case atStart => exact ⟨rfl, 0, A0, C0, [], rfl, Nat.zero_le _, HBOTH.out⟩
    case round =>
      clear HBOTH
      obtain ⟨rfl, k, A1, C1, L, rfl, hk, hbo⟩ := hrel
      have HBO := Lib.hid hbo
      clear hbo
      by_cases hlt : k < n
      ·
        obtain ⟨⟨ok, ⟨nv, nl, nh⟩, orf⟩, hop⟩ : ∃ o, ops[k]? = some o := ⟨_, List.getElem?_eq_getElem (by rw [← HS.out.len]; exact hlt)⟩
        obtain ⟨bl, off, hA, hbl, p0, p1, p2, p3, p4⟩ := opu_at (Sl.same HS.out HBO.out.same) hop
        obtain ⟨hnok, hrok⟩ := HOK.out _ (List.mem_of_getElem? hop)
        simp only at p0 p1 p2 p3 p4
        subst hA
        have hk0 : (0 : Int) ≤ k := by omega
        have hk1 : (k : Int) < n := by omega
        have hkb : k + 1 ≤ 9000000000000000000 := by have := HB.out; omega
        have HNOK := Lib.hid hnok
        have HROK := Lib.hid hrok
        clear hop hnok hrok
        go_upto_region 13 with fail
        refine wp_world fun w5 hw5 => ?_
        have hs5 : Same wr w5 := by rw [hw5]; exact (Frm.refl _ _).alloc _
        have hY : Blk w5 wr.heap.size 38 #[.int .i64 ok, .int .i64 nv, .int .u32 nl, .int .u32 nh, .int .u32 orf] := by rw [hw5]; exact Blk.new _ _ _
        obtain ⟨Y, hYY⟩ : ∃ z, z = wr.heap.size := ⟨_, rfl⟩
        rw [← hYY] at hY ⊢
        have HBO5 := Lib.hid (HBO.out.later hs5)
        have HY := Lib.hid hY
        clear hw5 hs5 hYY p0 p1 p2 p3 p4 hbl hY
        have cY0 : w5.cell? ⟨Y, 0, none⟩ = some (.int .i64 ok) := HY.out.cell 0
        have cY1 : w5.cell? ⟨Y, 1, none⟩ = some (.int .i64 nv) := HY.out.cell 1
        have cY2 : w5.cell? ⟨Y, 2, none⟩ = some (.int .u32 nl) := HY.out.cell 2
        have cY3 : w5.cell? ⟨Y, 3, none⟩ = some (.int .u32 nh) := HY.out.cell 3
        have cY4 : w5.cell? ⟨Y, 4, none⟩ = some (.int .u32 orf) := HY.out.cell 4
        have lY := HY.out.lt
        have cD0 : w5.cell? ⟨D, 0, none⟩ = some (.int .i64 N) := HBO5.out.d.cell 0
        have cD1 : w5.cell? ⟨D, 1, none⟩ = some (.slice A1 L.length C1) := HBO5.out.d.cell 1
        have fD0 := HBO5.out.d.free 0
        have fD1 := HBO5.out.d.free 1
        have lD := HBO5.out.d.lt
        go_wp2_with (fail)
        refine (does_any U N A1 C1 L ok nv nl nh orf HNOK.out HROK.out w5 HBO5.out.u HBO5.out.o (by have := HBO5.out.len; have := HB.out; omega)).mono ?_
        unfold dtab
        rintro e w6 ⟨A2, C2, rfl, hu, ho, hf⟩
        have hl2 : (doL N L ⟨ok, ⟨nv, nl, nh⟩, orf⟩).length ≤ k + 1 := by have := doL_len N L ⟨ok, ⟨nv, nl, nh⟩, orf⟩; have := HBO5.out.len; omega
        have HD := Lib.hid (HBO5.out.did hu ho hf hl2)
        have hD6 := HBO5.out.d.frm hf (HBO5.out.u.notUB_cells HBO5.out.d)
        obtain ⟨L2, hL2⟩ : ∃ z, z = doL N L ⟨ok, ⟨nv, nl, nh⟩, orf⟩ := ⟨_, rfl⟩
        rw [← hL2] at HD ⊢
        have HD6 := Lib.hid hD6
        clear hu ho hf hl2 hL2 hD6 cD0 cD1 fD0 fD1 lD cY0 cY1 cY2 cY3 cY4 lY
        have cD0 : w6.cell? ⟨D, 0, none⟩ = some (.int .i64 N) := HD6.out.cell 0
        have cD1 : w6.cell? ⟨D, 1, none⟩ = some (.slice A1 L.length C1) := HD6.out.cell 1
        have fD0 := HD6.out.free 0
        have fD1 := HD6.out.free 1
        have lD := HD6.out.lt
        go_wp2
        go_roundw
        case rel => exact ⟨rfl, k + 1, A2, C2, L2, by go_num, hlt, HD.out⟩
        case measure => simp [intOf] <;> omega
      · have hkn : n = k := by omega
        subst hkn
        go_wp2
        go_loopw [9, 58] (fun x i wr => (∃ b, x = .bool b) ∧ ∃ (k : Nat) (A1 : Option Addr) (C1 : Nat) (L : List Ent), i = .int .i64 k ∧ k ≤ n ∧ Both w wr U N D n A1 C1 L) (fun _ i _ => n - (intOf i).toNat)
        case atStart => exact ⟨⟨_, rfl⟩, 0, A1, C1, L, rfl, Nat.zero_le _, HBO.out⟩
        case round =>
          clear HBO
          obtain ⟨⟨b0, rfl⟩, k, A1, C1, L, rfl, hk, hbo⟩ := hrel
          have HBO := Lib.hid hbo
          clear hbo
          by_cases hlt : k < n
          · 
            obtain ⟨⟨ok, ⟨nv, nl, nh⟩, orf⟩, hop⟩ : ∃ o, ops[k]? = some o := ⟨_, List.getElem?_eq_getElem (by rw [← HS.out.len]; exact hlt)⟩
            obtain ⟨bl, off, hA, hbl, p0, p1, p2, p3, p4⟩ := opu_at (Sl.same HS.out HBO.out.same) hop
            obtain ⟨hnok, hrok⟩ := HOK.out _ (List.mem_of_getElem? hop)
            simp only at p0 p1 p2 p3 p4
            subst hA
            have hk0 : (0 : Int) ≤ k := by omega
            have hk1 : (k : Int) < n := by omega
            have hkb : k + 1 ≤ 9000000000000000000 := by have := HB.out; omega
            have HNOK := Lib.hid hnok
            have HROK := Lib.hid hrok
            clear hop hnok hrok
            go_upto_region 20 with fail
            refine wp_world fun w5 hw5 => ?_
            have hs5 : Same wr w5 := by rw [hw5]; exact (Frm.refl _ _).alloc _
            have hY : Blk w5 wr.heap.size 38 #[.int .i64 ok, .int .i64 nv, .int .u32 nl, .int .u32 nh, .int .u32 orf] := by rw [hw5]; exact Blk.new _ _ _
            obtain ⟨Y, hYY⟩ : ∃ z, z = wr.heap.size := ⟨_, rfl⟩
            rw [← hYY] at hY ⊢
            have HBO5 := Lib.hid (HBO.out.later hs5)
            have HY := Lib.hid hY
            clear hw5 hs5 hYY p0 p1 p2 p3 p4 hbl hY
            have cY0 : w5.cell? ⟨Y, 0, none⟩ = some (.int .i64 ok) := HY.out.cell 0
            have cY1 : w5.cell? ⟨Y, 1, none⟩ = some (.int .i64 nv) := HY.out.cell 1
            have cY2 : w5.cell? ⟨Y, 2, none⟩ = some (.int .u32 nl) := HY.out.cell 2
            have cY3 : w5.cell? ⟨Y, 3, none⟩ = some (.int .u32 nh) := HY.out.cell 3
            have cY4 : w5.cell? ⟨Y, 4, none⟩ = some (.int .u32 orf) := HY.out.cell 4
            have lY := HY.out.lt
            go_upto_region 21 with fail
            refine wp_world fun w6 hw6 => ?_
            have hs6 : Same w5 w6 := by rw [hw6]; exact (Frm.refl _ _).alloc _
            have hI : Blk w6 w5.heap.size 3 #[.int .i64 3, .int .i64 4, .int .i64 5] := by rw [hw6]; exact Blk.new _ _ _
            obtain ⟨I, hII⟩ : ∃ z, z = w5.heap.size := ⟨_, rfl⟩
            rw [← hII] at hI ⊢
            have HBO6 := Lib.hid (HBO5.out.later hs6)
            have HY6 := Lib.hid (HY.out.frm hs6 id)
            have HI := Lib.hid hI
            clear hw6 hs6 hII hI cY0 cY1 cY2 cY3 cY4 lY HBO5 HY
            go_loopw [9, 64] (fun x i wi => (∃ b, x = .bool b) ∧ ∃ (j : Nat) (A2 : Option Addr) (C2 : Nat) (L2 : List Ent), i = .int .i64 j ∧ j ≤ 3 ∧ Both w wi U N D n A2 C2 L2 ∧ Blk wi Y 38 #[.int .i64 ok, .int .i64 nv, .int .u32 nl, .int .u32 nh, .int .u32 orf] ∧ Blk wi I 3 #[.int .i64 3, .int .i64 4, .int .i64 5]) (fun _ i _ => 3 - (intOf i).toNat)
            case atStart => exact ⟨⟨_, rfl⟩, 0, A1, C1, L, rfl, by omega, HBO6.out, HY6.out, HI.out⟩
            case round =>
              clear HBO6 HY6 HI
              obtain ⟨⟨b1, rfl⟩, j, A2, C2, L2, rfl, hj, hbo, hY, hI⟩ := hrel
              have HBO2 := Lib.hid hbo
              have HY2 := Lib.hid hY
              have HI2 := Lib.hid hI
              clear hbo hY hI
              rcases Nat.lt_or_ge j 3 with hj3 | hj3
              · have hq : ∃ q : Int, 2 < q ∧ wr.cell? ⟨I, j, none⟩ = some (.int .i64 q) := by
                  rcases (show j = 0 ∨ j = 1 ∨ j = 2 by omega) with rfl | rfl | rfl
                  · exact ⟨3, by decide, HI2.out.cell 0⟩
                  · exact ⟨4, by decide, HI2.out.cell 1⟩
                  · exact ⟨5, by decide, HI2.out.cell 2⟩
                obtain ⟨q, hq2, cI⟩ := hq
                have lI := HI2.out.lt
                have cY1 : wr.cell? ⟨Y, 1, none⟩ = some (.int .i64 nv) := HY2.out.cell 1
                have cY2 : wr.cell? ⟨Y, 2, none⟩ = some (.int .u32 nl) := HY2.out.cell 2
                have cY3 : wr.cell? ⟨Y, 3, none⟩ = some (.int .u32 nh) := HY2.out.cell 3
                have lY := HY2.out.lt
                have hj0 : (0 : Int) ≤ j := by omega
                have hj1 : (j : Int) < 3 := by omega
                have HQ := Lib.hid hq2
                clear hq2
                have cD0 : wr.cell? ⟨D, 0, none⟩ = some (.int .i64 N) := HBO2.out.d.cell 0
                have cD1 : wr.cell? ⟨D, 1, none⟩ = some (.slice A2 L2.length C2) := HBO2.out.d.cell 1
                have fD0 := HBO2.out.d.free 0
                have fD1 := HBO2.out.d.free 1
                have lD := HBO2.out.d.lt
                go_wp2_with (fail)
                refine (does_any U N A2 C2 L2 q nv nl nh 0 HNOK.out (by decide) wr HBO2.out.u HBO2.out.o (by have := HBO2.out.len; have := HB.out; omega)).mono ?_
                rw [doL_else (by have := HQ.out; omega)]
                unfold dtab
                rintro e w7 ⟨A3, C3, rfl, hu, ho, hf⟩
                have HD := Lib.hid (HBO2.out.did hu ho hf HBO2.out.len)
                have HD7 := Lib.hid (HBO2.out.d.frm hf (HBO2.out.u.notUB_cells HBO2.out.d))
                have HY7 := Lib.hid (HY2.out.frm hf (HBO2.out.u.notUB_cells HY2.out))
                have HI7 := Lib.hid (HI2.out.frm hf (HBO2.out.u.notUB_cells HI2.out))
                have HDY := Lib.hid (show Y ≠ D from HY2.out.ne HBO2.out.d (by decide))
                have HDI := Lib.hid (show I ≠ D from HI2.out.ne HBO2.out.d (by decide))
                clear hu ho hf cD0 cD1 fD0 fD1 lD cY1 cY2 cY3 lY cI lI
                have cD0 : w7.cell? ⟨D, 0, none⟩ = some (.int .i64 N) := HD7.out.cell 0
                have cD1 : w7.cell? ⟨D, 1, none⟩ = some (.slice A2 L2.length C2) := HD7.out.cell 1
                have fD0 := HD7.out.free 0
                have fD1 := HD7.out.free 1
                have lD := HD7.out.lt
                go_wp2
                go_roundw
                case rel => exact ⟨⟨_, rfl⟩, j + 1, A3, C3, L2, by go_num, hj3, HD.out, (HY7.out.far (p := ⟨D, 0, none⟩) HDY.out _).far (p := ⟨D, 1, none⟩) HDY.out _, (HI7.out.far (p := ⟨D, 0, none⟩) HDI.out _).far (p := ⟨D, 1, none⟩) HDI.out _⟩
                case measure => simp [intOf] <;> omega
              · obtain rfl : j = 3 := by omega
                go_wp2
                go_roundw
                case rel => exact ⟨⟨_, rfl⟩, k + 1, A2, C2, L2, by go_num, hlt, HBO2.out⟩
                case measure => simp [intOf] <;> omega
          · have hkn : n = k := by omega
            subst hkn
            go_wp2
            go_ret
            exact ⟨rfl, HBO.out.same⟩
  ·
    have HNEW := Lib.hid (fun w => urnew_any vars w)
    rw [if_neg hv, if_neg hv] at HNEW
    go_wp2_with (fail)
    refine (uqnew_bad vars hv w1).mono ?_
    rintro e w2 ⟨rfl, hw2⟩
    subst hw2
    clear hv
    go_wp2_with (fail)
    refine (HNEW.out w2).mono ?_
    rintro e w3 ⟨A0, C0, rfl, ho, hs3⟩
    unfold dtab
    have HS3 := Lib.hid (HS1.out.trans hs3 (fun _ _ h => h))
    clear ho hs3 HNEW
    go_upto_region 5 with fail
    refine wp_world fun w4 hw4 => ?_
    have HS4 := Lib.hid (show Same w w4 by rw [hw4]; exact HS3.out.alloc _)
    clear hw4
    go_wp2
    go_ret
    exact ⟨rfl, HS4.out⟩
end Go.Proofs.Ytkelbbalffijbaa


/- Layer 07: UniqueKeeps. -/
namespace Go.Proofs.Ytkelbbalffijbaa
open Go.RowKit Go.Tk Go.Maps

/-- a table beside the reference's, and an empty one that has nothing to do with it -/
structure Keep (w0 w : World) (U V : UTab) (N D bnd : Nat) (A : Option Addr) (C : Nat) (L : List Ent) : Prop where
  b : Both w0 w U N D bnd A C L
  v : UT w V N []
  uv : ∀ x, UB U N x → x ≠ V.T ∧ x ≠ V.sb ∧ ¬ UB V N x
  vd : V.T ≠ D ∧ V.sb ≠ D ∧ ∀ v, v < N → V.mb v ≠ D
theorem Keep.later {w0 w w' : World} {U V : UTab} {N D bnd : Nat} {A : Option Addr} {C : Nat} {L : List Ent} (h : Keep w0 w U V N D bnd A C L) (hs : Same w w') : Keep w0 w' U V N D bnd A C L :=
  ⟨h.b.later hs, h.v.same hs, h.uv, h.vd⟩
theorem Keep.did {w0 w w' : World} {U V : UTab} {N D bnd : Nat} {A A' : Option Addr} {C C' : Nat} {L L' : List Ent} (h : Keep w0 w U V N D bnd A C L) (hu : UT w' U N L') (ho : OE w' A' C' L') (hf : Frm (UB U N) w w') {bnd' : Nat} (hl : L'.length ≤ bnd') :
    Keep w0 ((w'.setCell ⟨D, 0, none⟩ (.int .i64 N)).setCell ⟨D, 1, none⟩ (.slice A' L'.length C')) U V N D bnd' A' C' L' := by
  have hfD : Frm (fun b => b = D) w' ((w'.setCell ⟨D, 0, none⟩ (.int .i64 N)).setCell ⟨D, 1, none⟩ (.slice A' L'.length C')) := ((Frm.refl (fun b => b = D) w').set 0 _ rfl).set 1 _ rfl
  exact ⟨h.b.did hu ho hf hl, (h.v.frm hf (fun hb => (h.uv _ hb).1 rfl) (fun hb => (h.uv _ hb).2.1 rfl) (fun v hv hb => (h.uv _ hb).2.2 ⟨v, hv, rfl⟩)).frm hfD (fun e => h.vd.1 e) (fun e => h.vd.2.1 e) (fun v hv e => h.vd.2.2 v hv e), h.uv, h.vd⟩
/-- a row of Refs that is younger than the tables is written -/
theorem Keep.turnRow {w0 w w' : World} {U V : UTab} {N D bnd : Nat} {A : Option Addr} {C : Nat} {L : List Ent} (h : Keep w0 w U V N D bnd A C L) {B : Option Addr} {M Cb : Nat} {xs : List Int} (hr : Row1 w 34 (Value.int .u32) B M Cb xs) (hf : Frm (fun b => rowOf B b) w w')
    (hlo : ∀ x, rowOf B x → U.T < x ∧ U.sb < x ∧ D < x ∧ V.T < x ∧ V.sb < x ∧ ∀ v, v < N → U.mb v < x ∧ V.mb v < x) : Keep w0 w' U V N D bnd A C L :=
  ⟨⟨h.b.u.frm hf (fun e => by have := (hlo _ e).1; omega) (fun e => by have := (hlo _ e).2.1; omega) (fun v hv e => by have := ((hlo _ e).2.2.2.2.2 v hv).1; omega),
    h.b.o.frm hf (fun a ha hb => h.b.o.ne_own hr (by decide) a.block ⟨a, ha, rfl⟩ hb), h.b.d.frm hf (fun e => by have := (hlo _ e).2.2.1; omega), h.b.len,
    h.b.same.trans hf (fun i hi e => by have h1 := (hlo _ e).2.2.1; have h2 := h.b.fd; omega), h.b.fm, h.b.fd⟩,
   h.v.frm hf (fun e => by have := (hlo _ e).2.2.2.1; omega) (fun e => by have := (hlo _ e).2.2.2.2.1; omega) (fun v hv e => by have := ((hlo _ e).2.2.2.2.2 v hv).2; omega), h.uv, h.vd⟩
theorem row_notUB {w : World} {U : UTab} {N : Nat} {L : List Ent} (h : UT w U N L) {A : Option Addr} {C : Nat} {xs : List Int} (hr : RU w A C xs) : ∀ a, A = some a → ¬ UB U N a.block := h.notUB_own hr
/-- a row stays behind does and the store of its table -/
theorem row_did {w w' : World} {U : UTab} {N D : Nat} {L : List Ent} {t : TypeId} {cs : Array Value} (h : UT w U N L) (hd : Blk w D t cs) (ht : 34 ≠ t) {x y : Value} {A : Option Addr} {C : Nat} {xs : List Int} (hr : RU w A C xs) (hf : Frm (UB U N) w w') : RU ((w'.setCell ⟨D, 0, none⟩ x).setCell ⟨D, 1, none⟩ y) A C xs := by
  have h1 : RU w' A C xs := hr.frm hf (row_notUB h hr)
  have h2 : ∀ a, A = some a → a.block ≠ D := hr.ne_blk hd ht
  exact (Own.far (p := ⟨D, 0, none⟩) h1 h2 _).far (p := ⟨D, 1, none⟩) h2 _
set_option maxRecDepth 100000 in
set_option maxHeartbeats 8000000 in
theorem uniqueKeeps_any (vars : Int) (A : Option Addr) (n C : Nat) (ops : List Opu) (v : Int) (hvw : (Lit.int .i64 v).wf = true) (hok : ∀ o ∈ ops, o.ok) (w : World) (hs : Sl w 5 Opu.cells A n ops) (hb : n * 32 ≤ 140737488355328 - 4096) :
    Calls Try.prog 5 #[.int .i64 vars, .slice A n C, .int .i64 v] w fun e w' => e = .returned (.bool true) ∧ Same w w' := by
  have HS := Lib.hid hs
  have HOK := Lib.hid hok
  have HB := Lib.hid hb
  have HVN := Lib.hid (show Nd.ok ⟨v, 1073741824, 1073741825⟩ from ⟨hvw, show (Lit.int .u32 1073741824).wf = true by decide, show (Lit.int .u32 1073741825).wf = true by decide⟩)
  clear hs hok hb hvw
  go_enter Try.func5, Try.ntmps5
  go_wp2_with (fail)
  refine (uqawake_any w).mono ?_
  rintro e w1 ⟨rfl, hs1⟩
  have HS1 := Lib.hid hs1
  clear hs1
  by_cases hv : 1 ≤ vars ∧ vars ≤ 64
  · obtain ⟨N, rfl⟩ := Int.eq_ofNat_of_zero_le (show 0 ≤ vars by omega)
    have hN1 : 1 ≤ N := by omega
    have hN2 : N ≤ 64 := by omega
    have HNEW := Lib.hid (fun w => urnew_any (N : Int) w)
    rw [if_pos hv, if_pos hv] at HNEW
    clear hv
    go_wp2_with (fail)
    refine (uqnew_any N hN1 hN2 w1).mono ?_
    rintro e w2 ⟨U, rfl, hs2, hU, _, _, hmb⟩
    have HU := Lib.hid hU
    have HS2 := Lib.hid (HS1.out.trans hs2 (fun _ _ h => h))
    have HMB := Lib.hid (fun v hv => Nat.le_trans HS1.out.size (hmb v hv))
    clear hU hmb hs2
    go_wp2_with (fail)
    refine (uqnew_any N hN1 hN2 w2).mono ?_
    rintro e w3 ⟨V, rfl, hs3, hV, hT, hsb, hmb⟩
    have HU3 := Lib.hid (HU.out.same hs3)
    have HV3 := Lib.hid hV
    have HUV := Lib.hid (show ∀ x, UB U N x → x ≠ V.T ∧ x ≠ V.sb ∧ ¬ UB V N x from fun x ⟨v, hv, hx⟩ => by
      have h1 := (HU.out.m v hv).lt
      refine ⟨by omega, by omega, ?_⟩
      rintro ⟨u, hu', e⟩
      have := hmb u hu'
      omega)
    have HS3 := Lib.hid (HS2.out.trans hs3 (fun _ _ h => h))
    clear hV hT hsb hmb hs3 HU HS2 HS1
    go_wp2_with (fail)
    refine (HNEW.out w3).mono ?_
    rintro e w4 ⟨A0, C0, rfl, ho, hs4⟩
    unfold dtab
    have HO4 := Lib.hid ho
    have HU4 := Lib.hid (HU3.out.same hs4)
    have HV4 := Lib.hid (HV3.out.same hs4)
    have HS4 := Lib.hid (HS3.out.trans hs4 (fun _ _ h => h))
    clear ho hs4 HNEW HU3 HV3 HS3
    go_upto_region 6 with fail
    refine wp_world fun w5 hw5 => ?_
    have hs5 : Same w4 w5 := by rw [hw5]; exact (Frm.refl _ _).alloc _
    have hD : Blk w5 w4.heap.size 30 #[.int .i64 N, .slice A0 ([] : List Ent).length C0] := by rw [hw5]; exact Blk.new _ _ _
    obtain ⟨D, hDD⟩ : ∃ z, z = w4.heap.size := ⟨_, rfl⟩
    rw [← hDD] at hD ⊢
    have HBO0 := Lib.hid (show Keep w w5 U V N D 0 A0 C0 [] from ⟨⟨HU4.out.same hs5, HO4.out.frm hs5 (fun _ _ => id), hD, Nat.le_refl _, HS4.out.trans hs5 (fun _ _ h => h), HMB.out, by rw [hDD]; exact HS4.out.size⟩, HV4.out.same hs5, HUV.out, by have := HV4.out.t.lt; omega, by have := HV4.out.sl; omega, fun v hv => by have := (HV4.out.m v hv).lt; omega⟩)
    clear hw5 hs5 hD hDD HU4 HV4 HO4 HS4 HMB HUV
    go_wp2
    go_loopw [13, 52] (fun x i wr => x = .bool true ∧ ∃ (k : Nat) (A1 : Option Addr) (C1 : Nat) (L : List Ent), i = .int .i64 k ∧ k ≤ n ∧ Keep w wr U V N D k A1 C1 L) (fun _ i _ => n - (intOf i).toNat)
    case atStart => exact ⟨rfl, 0, A0, C0, [], rfl, Nat.zero_le _, HBO0.out⟩
    case round =>
      clear HBO0
      obtain ⟨rfl, k, A1, C1, L, rfl, hk, hbo⟩ := hrel
      have HBO := Lib.hid hbo
      clear hbo
      by_cases hlt : k < n
      ·
        obtain ⟨⟨ok, ⟨nv, nl, nh⟩, orf⟩, hop⟩ : ∃ o, ops[k]? = some o := ⟨_, List.getElem?_eq_getElem (by rw [← HS.out.len]; exact hlt)⟩
        obtain ⟨bl, off, hA, hbl, p0, p1, p2, p3, p4⟩ := opu_at (Sl.same HS.out HBO.out.b.same) hop
        obtain ⟨hnok, hrok⟩ := HOK.out _ (List.mem_of_getElem? hop)
        simp only at p0 p1 p2 p3 p4
        subst hA
        have hk0 : (0 : Int) ≤ k := by omega
        have hk1 : (k : Int) < n := by omega
        have hkb : k + 1 ≤ 9000000000000000000 := by have := HB.out; omega
        have HNOK := Lib.hid hnok
        have HROK := Lib.hid hrok
        clear hop hnok hrok
        go_upto_region 12 with fail
        refine wp_world fun w5 hw5 => ?_
        have hs5 : Same wr w5 := by rw [hw5]; exact (Frm.refl _ _).alloc _
        have hY : Blk w5 wr.heap.size 38 #[.int .i64 ok, .int .i64 nv, .int .u32 nl, .int .u32 nh, .int .u32 orf] := by rw [hw5]; exact Blk.new _ _ _
        obtain ⟨Y, hYY⟩ : ∃ z, z = wr.heap.size := ⟨_, rfl⟩
        rw [← hYY] at hY ⊢
        have HBO5 := Lib.hid (HBO.out.later hs5)
        have HY := Lib.hid hY
        clear hw5 hs5 hYY p0 p1 p2 p3 p4 hbl hY
        have cY0 : w5.cell? ⟨Y, 0, none⟩ = some (.int .i64 ok) := HY.out.cell 0
        have cY1 : w5.cell? ⟨Y, 1, none⟩ = some (.int .i64 nv) := HY.out.cell 1
        have cY2 : w5.cell? ⟨Y, 2, none⟩ = some (.int .u32 nl) := HY.out.cell 2
        have cY3 : w5.cell? ⟨Y, 3, none⟩ = some (.int .u32 nh) := HY.out.cell 3
        have cY4 : w5.cell? ⟨Y, 4, none⟩ = some (.int .u32 orf) := HY.out.cell 4
        have lY := HY.out.lt
        have cD0 : w5.cell? ⟨D, 0, none⟩ = some (.int .i64 N) := HBO5.out.b.d.cell 0
        have cD1 : w5.cell? ⟨D, 1, none⟩ = some (.slice A1 L.length C1) := HBO5.out.b.d.cell 1
        have fD0 := HBO5.out.b.d.free 0
        have fD1 := HBO5.out.b.d.free 1
        have lD := HBO5.out.b.d.lt
        go_wp2_with (fail)
        refine (does_any U N A1 C1 L ok nv nl nh orf HNOK.out HROK.out w5 HBO5.out.b.u HBO5.out.b.o (by have := HBO5.out.b.len; have := HB.out; omega)).mono ?_
        unfold dtab
        rintro e w6 ⟨A2, C2, rfl, hu, ho, hf⟩
        have hl2 : (doL N L ⟨ok, ⟨nv, nl, nh⟩, orf⟩).length ≤ k + 1 := by have := doL_len N L ⟨ok, ⟨nv, nl, nh⟩, orf⟩; have := HBO5.out.b.len; omega
        have HD := Lib.hid (HBO5.out.did hu ho hf hl2)
        have hD6 := HBO5.out.b.d.frm hf (HBO5.out.b.u.notUB_cells HBO5.out.b.d)
        obtain ⟨L2, hL2⟩ : ∃ z, z = doL N L ⟨ok, ⟨nv, nl, nh⟩, orf⟩ := ⟨_, rfl⟩
        rw [← hL2] at HD ⊢
        have HD6 := Lib.hid hD6
        clear hu ho hf hl2 hL2 hD6 cD0 cD1 fD0 fD1 lD cY0 cY1 cY2 cY3 cY4 lY
        have cD0 : w6.cell? ⟨D, 0, none⟩ = some (.int .i64 N) := HD6.out.cell 0
        have cD1 : w6.cell? ⟨D, 1, none⟩ = some (.slice A1 L.length C1) := HD6.out.cell 1
        have fD0 := HD6.out.free 0
        have fD1 := HD6.out.free 1
        have lD := HD6.out.lt
        go_wp2
        go_roundw
        case rel => exact ⟨rfl, k + 1, A2, C2, L2, by go_num, hlt, HD.out⟩
        case measure => simp [intOf] <;> omega
      · have hkn : n = k := by omega
        subst hkn
        have HLB := Lib.hid (show L.length ≤ n from HBO.out.b.len)
        have hxl : (rvL N L v).length ≤ n := Nat.le_trans (rvL_len N L v) HLB.out
        have HR1 := Lib.hid (fun w h => urrefs_both N A1 C1 L v w h (by have := HLB.out; have := HB.out; omega))
        have HR2 := Lib.hid (fun w h => uqrefs_both U N L v w h (by have := HLB.out; have := HB.out; omega))
        unfold dtab at HR1
        obtain ⟨xs, hxs⟩ : ∃ z, z = rvL N L v := ⟨_, rfl⟩
        rw [← hxs] at HR1 HR2 hxl
        have hxl2 : xs.length ≤ 1000000000000000000 := by have := HB.out; omega
        have HXL := Lib.hid hxl
        have HXL2 := Lib.hid hxl2
        obtain ⟨ev, hev⟩ : ∃ z, z = vErr N v := ⟨_, rfl⟩
        rw [← hev] at HR1 HR2
        have HEV := Lib.hid hev
        clear hxs hxl hxl2 hev
        have cD0 : wr.cell? ⟨D, 0, none⟩ = some (.int .i64 N) := HBO.out.b.d.cell 0
        have cD1 : wr.cell? ⟨D, 1, none⟩ = some (.slice A1 L.length C1) := HBO.out.b.d.cell 1
        have fD0 := HBO.out.b.d.free 0
        have fD1 := HBO.out.b.d.free 1
        have lD := HBO.out.b.d.lt
        go_wp2_with (fail)
        refine (HR1.out wr (OE.el HBO.out.b.o)).mono ?_
        rintro e w16 ⟨Aw, Cw, rfl, hw, _, hs16⟩
        have HK16 := Lib.hid (HBO.out.later hs16)
        have HW := Lib.hid hw
        have HWX := Lib.hid hw
        clear hw hs16 cD0 cD1 fD0 fD1 lD HBO HR1
        go_wp2_with (fail)
        refine (HR2.out w16 HK16.out.b.u).mono ?_
        rintro e w17 ⟨Aa, Ca, rfl, ha, hfa, hs17⟩
        have HA := Lib.hid ha
        have HFA := Lib.hid hfa
        have HNUM := Lib.hid (show ∀ x, w17.heap.size ≤ x → U.T < x ∧ U.sb < x ∧ D < x ∧ V.T < x ∧ V.sb < x ∧ ∀ v, v < N → U.mb v < x ∧ V.mb v < x from fun x hx => by
          have h0 := hs17.size
          have h1 := HK16.out.b.u.t.lt
          have h2 := HK16.out.b.u.sl
          have h3 := HK16.out.b.d.lt
          have h4 := HK16.out.v.t.lt
          have h5 := HK16.out.v.sl
          exact ⟨by omega, by omega, by omega, by omega, by omega, fun v hv => by have h6 := (HK16.out.b.u.m v hv).lt; have h7 := (HK16.out.v.m v hv).lt; omega⟩)
        have HS17 := Lib.hid hs17
        clear ha hfa hs17
        go_wp2_with (fail)
        refine (HR2.out w17 (HK16.out.b.u.same HS17.out)).mono ?_
        rintro e w18 ⟨Ab, Cb, rfl, hb, hfb, hs18⟩
        have HAA := Lib.hid (show RU w18 Aa Ca xs from HA.out.frm hs18 (fun _ _ => id))
        have HFB := Lib.hid hfb
        have HB18 := Lib.hid hb
        have HLA := Lib.hid (show ∀ x, rowOf Aa x → x < w17.heap.size from fun x ⟨a, h1, h2⟩ => by rw [← h2]; exact HA.out.block a h1)
        have HS18 := Lib.hid (HS17.out.trans hs18 (fun _ _ h => h))
        clear hb hfb hs18 HR2 HA HS17
        have HWW := Lib.hid (show RU w18 Aw Cw xs from HW.out.frm HS18.out (fun _ _ => id))
        clear HW
        go_wp2_with (fail)
        refine (usame_any Aa Aw Ca Cw xs xs w18 (RU.ul HAA.out) (RU.ul HWW.out) HXL2.out HXL2.out).mono ?_
        rw [decide_eq_true (rfl : xs = xs)]
        rintro e w19 ⟨rfl, hs19⟩
        have HS19 := Lib.hid (HS18.out.trans hs19 (fun _ _ h => h))
        have HAA := Lib.hid (show RU w19 Aa Ca xs from HAA.out.frm hs19 (fun _ _ => id))
        have HBB := Lib.hid (show RU w19 Ab Cb xs from HB18.out.frm hs19 (fun _ _ => id))
        have HWW := Lib.hid (show RU w19 Aw Cw xs from HWW.out.frm hs19 (fun _ _ => id))
        clear hs19 HS18 HB18
        go_wp2_with (fail)
        refine (usame_any Ab Aw Cb Cw xs xs w19 (RU.ul HBB.out) (RU.ul HWW.out) HXL2.out HXL2.out).mono ?_
        rw [decide_eq_true (rfl : xs = xs)]
        rintro e w20 ⟨rfl, hs20⟩
        have HS20 := Lib.hid (HS19.out.trans hs20 (fun _ _ h => h))
        have HAA := Lib.hid (show RU w20 Aa Ca xs from HAA.out.frm hs20 (fun _ _ => id))
        have HBB := Lib.hid (show RU w20 Ab Cb xs from HBB.out.frm hs20 (fun _ _ => id))
        have HWW := Lib.hid (show RU w20 Aw Cw xs from HWW.out.frm hs20 (fun _ _ => id))
        clear hs20 HS19
        obtain ⟨M, hM⟩ : ∃ z, z = xs.length := ⟨_, rfl⟩
        rw [← hM] at HXL
        rw [← hM]
        have HM := Lib.hid hM
        clear hM
        have HRB := Lib.hid (show ∀ x, rowOf Aa x → ¬ rowOf Ab x from fun x h1 h2 => by have := HLA.out x h1; have := HFB.out x h2; omega)
        go_wp2
        go_loopw [96] (fun i wi => ∃ (k : Nat) (ys : List Int), i = .int .i64 k ∧ k ≤ M ∧ ys.length = M ∧ Same w16 wi ∧ Row1 wi 34 (Value.int .u32) Aa M Ca ys ∧ Row1 wi 34 (Value.int .u32) Ab M Cb xs) (fun i _ => M - (intOf i).toNat)
        case atStart => exact ⟨0, xs, rfl, Nat.zero_le _, HM.out.symm, HS20.out, by rw [HM.out]; exact HAA.out, by rw [HM.out]; exact HBB.out⟩
        case round =>
          clear HS20 HAA HBB HWW
          obtain ⟨k, ys, rfl, hk, hyl, hsi, hra, hrb⟩ := hrel
          have HSI := Lib.hid hsi
          have HRA := Lib.hid hra
          have HRBB := Lib.hid hrb
          have HYL := Lib.hid hyl
          clear hsi hra hrb hyl
          by_cases hlt : k < M
          · obtain ⟨y, hy⟩ : ∃ y, ys[k]? = some y := ⟨_, List.getElem?_eq_getElem (by rw [HYL.out]; exact hlt)⟩
            obtain ⟨sa, h1, hsa, h3⟩ := HRA.out.at1 hy
            subst h1
            have fA := HRA.out.free k
            have hk0 : (0 : Int) ≤ k := by omega
            have hk1 : (k : Int) < M := by omega
            have hkb : k + 1 ≤ 9000000000000000000 := by have := HB.out; have := HXL.out; omega
            have hst : ∀ u : Int, Row1 (wr.setCell ⟨sa, k, none⟩ (.int .u32 u)) 34 (Value.int .u32) (some ⟨sa, 0, none⟩) M Ca (ys.set k u) := fun u => HRA.out.put1 (by rw [HYL.out]; exact hlt) u
            have hsb : ∀ u : Int, Row1 (wr.setCell ⟨sa, k, none⟩ (.int .u32 u)) 34 (Value.int .u32) Ab M Cb xs := fun u => HRBB.out.far (p := ⟨sa, k, none⟩) (fun a ha e => HRB.out sa ⟨_, rfl, rfl⟩ ⟨a, ha, e⟩) _
            have hsm : ∀ u : Int, Same w16 (wr.setCell ⟨sa, k, none⟩ (.int .u32 u)) := fun u => HSI.out.setNew k _ (HFA.out sa ⟨_, rfl, rfl⟩)
            have HST := Lib.hid hst
            have HSTB := Lib.hid hsb
            have HSM := Lib.hid hsm
            clear hy hst hsb hsm
            go_wp2
            go_roundw
            case rel => exact ⟨k + 1, _, by go_num, hlt, by rw [List.length_set, HYL.out], HSM.out _, HST.out _, HSTB.out _⟩
            case measure => simp [intOf] <;> omega
          · have hkn : M = k := by omega
            subst hkn
            clear hk
            go_upto_region 26 with fail
            refine wp_read 1 ?_
            simp only [List.take_succ_cons, List.take_zero, List.drop_succ_cons, List.drop_zero]
            repeat (any_goals (first | go_big_quiet_step (fail) | quiet_step (fail)))
            refine wpQuiet_nil ?_
            refine wpList_plain rfl fun K hK => ?_
            go_simp
            obtain ⟨w21, hw21⟩ : ∃ z, z = wr.alloc (.cells #[.int .u32 1, .int .u32 2, .int .u32 3] 34) := ⟨_, rfl⟩
            rw [← hw21]
            have hs21 : Same wr w21 := by rw [hw21]; exact (Frm.refl _ _).alloc _
            have hB21 : Blk w21 wr.heap.size 34 #[.int .u32 1, .int .u32 2, .int .u32 3] := by rw [hw21]; exact Blk.new wr _ _
            clear hw21
            refine hK _ _ ?_
            clear hK K
            refine wpList_plain rfl fun K hK => ?_
            refine Own.append_many (f := fun x : Int => [Value.int .u32 x]) (.tmp 106) (.tmp 107) _ rfl Try.underlying47 info_ref rfl (by omega) rfl (HRA.out.frm hs21 (fun _ _ => id)) (fun _ => rfl) [1, 2, 3] (some ⟨wr.heap.size, 0, none⟩) 3 rfl (fun _ => ⟨_, rfl, news_of_blk (l := [Value.int .u32 1, .int .u32 2, .int .u32 3]) hB21⟩) (fun y _ => ref_one y) (by rw [HYL.out]; show _ ≤ 9223372036854775807; have := HXL.out; have := HB.out; simp <;> omega) (by rw [HYL.out]; have := HXL.out; have := HB.out; simp <;> omega) ?_
            intro A3 C3 w22 hO3 hg3 hat3
            refine hK _ _ ?_
            clear hK K
            have hs22 : Same w16 w22 := (HSI.out.trans hs21 (fun _ _ h => h)).grown hg3 (fun g hg => .inr (HFA.out g (ownBlock_row.1 hg)))
            have hb22 : Row1 w22 34 (Value.int .u32) Ab M Cb xs := by
              have h1 := HRBB.out.frm hs21 (fun _ _ => id)
              exact h1.frm (S := fun b => rowOf Aa b) ((Frm.refl (fun b => rowOf Aa b) w21).grown hg3 (fun g hg => .inl (ownBlock_row.1 hg))) (fun a ha hr => HRB.out a.block hr ⟨a, ha, rfl⟩)
            have hl3 : (ys ++ [1, 2, 3]).length = M + 3 := by rw [List.length_append, HYL.out]; rfl
            rw [hl3] at hO3 ⊢
            have h3at : (ys ++ [1, 2, 3])[M]? = some 1 := by rw [List.getElem?_append_right (by rw [HYL.out]; exact Nat.le_refl _), HYL.out, Nat.sub_self]; rfl
            obtain ⟨zs, hzs⟩ : ∃ z, z = ys ++ [1, 2, 3] := ⟨_, rfl⟩
            rw [← hzs] at hO3 h3at hl3
            have HA3 := Lib.hid hO3
            have HZ1 := Lib.hid h3at
            have HZL := Lib.hid hl3
            have HS22 := Lib.hid hs22
            have HB22 := Lib.hid hb22
            have HK22 := Lib.hid (HK16.out.later hs22)
            have HFA3 := Lib.hid (show ∀ b, rowOf A3 b → ¬ rowOf Ab b from fun b hb h2 => by
              rcases hat3 b hb with h | h
              · exact HRB.out b h h2
              · obtain ⟨a, h3, h4⟩ := h2
                have h5 := (HRBB.out.frm hs21 (fun _ _ => id)).block a h3
                omega)
            clear hO3 h3at hs22 hb22 hg3 hat3 hs21 hB21 hl3 hzs HRA HRBB HSI HFA HK16
            go_upto_region 28 with fail
            refine wp_world fun w23 hw23 => ?_
            have hs23 : Same w22 w23 := by rw [hw23]; exact (Frm.refl _ _).alloc _
            have hE : Blk w23 w22.heap.size 36 #[.int .i64 v, .int .u32 1073741824, .int .u32 1073741825] := by rw [hw23]; exact Blk.new _ _ _
            obtain ⟨E, hEE⟩ : ∃ z, z = w22.heap.size := ⟨_, rfl⟩
            rw [← hEE] at hE ⊢
            have HK23 := Lib.hid (HK22.out.later hs23)
            have HA23 := Lib.hid (HA3.out.frm hs23 (fun _ _ => id))
            have HB23 := Lib.hid (HB22.out.frm hs23 (fun _ _ => id))
            have HW23 := Lib.hid (show RU w23 Aw Cw xs from HWX.out.frm (HS22.out.trans hs23 (fun _ _ h => h)) (fun _ _ => id))
            have cE0 : w23.cell? ⟨E, 0, none⟩ = some (.int .i64 v) := hE.cell 0
            have cE1 : w23.cell? ⟨E, 1, none⟩ = some (.int .u32 1073741824) := hE.cell 1
            have cE2 : w23.cell? ⟨E, 2, none⟩ = some (.int .u32 1073741825) := hE.cell 2
            have lE := hE.lt
            clear hw23 hs23 hE hEE HK22 HA3 HB22 HS22
            have cD0 : w23.cell? ⟨D, 0, none⟩ = some (.int .i64 N) := HK23.out.b.d.cell 0
            have cD1 : w23.cell? ⟨D, 1, none⟩ = some (.slice A1 L.length C1) := HK23.out.b.d.cell 1
            have lD := HK23.out.b.d.lt
            go_wp2_with (fail)
            refine (does_any U N A1 C1 L 1 v 1073741824 1073741825 5 HVN.out (by decide) w23 HK23.out.b.u HK23.out.b.o (by have := HLB.out; have := HB.out; omega)).mono ?_
            unfold dtab
            rintro e w24 ⟨A4, C4, rfl, hu, ho, hf⟩
            have hl4 : (doL N L ⟨1, ⟨v, 1073741824, 1073741825⟩, 5⟩).length ≤ n + 1 := by have := doL_len N L ⟨1, ⟨v, 1073741824, 1073741825⟩, 5⟩; have := HLB.out; omega
            have hD24 := HK23.out.b.d.frm hf (HK23.out.b.u.notUB_cells HK23.out.b.d)
            have hK25 := HK23.out.did hu ho hf hl4
            have hA25 := row_did (w' := w24) HK23.out.b.u HK23.out.b.d (by decide) (x := .int .i64 N) (y := .slice A4 (doL N L ⟨1, ⟨v, 1073741824, 1073741825⟩, 5⟩).length C4) (A := A3) (C := C3) (xs := zs) (by show Go.Tk.Own w23 _ 1 _ A3 zs.length C3 zs; rw [HZL.out]; exact HA23.out) hf
            have hB25 := row_did (w' := w24) HK23.out.b.u HK23.out.b.d (by decide) (x := .int .i64 N) (y := .slice A4 (doL N L ⟨1, ⟨v, 1073741824, 1073741825⟩, 5⟩).length C4) (A := Ab) (C := Cb) (xs := xs) (by show Go.Tk.Own w23 _ 1 _ Ab xs.length Cb xs; rw [← HM.out]; exact HB23.out) hf
            have hW25 := row_did (w' := w24) HK23.out.b.u HK23.out.b.d (by decide) (x := .int .i64 N) (y := .slice A4 (doL N L ⟨1, ⟨v, 1073741824, 1073741825⟩, 5⟩).length C4) HW23.out hf
            obtain ⟨L2, hL2⟩ : ∃ z, z = doL N L ⟨1, ⟨v, 1073741824, 1073741825⟩, 5⟩ := ⟨_, rfl⟩
            rw [← hL2] at hK25 hA25 hB25 hW25 hl4 ⊢
            have HL4 := Lib.hid hl4
            clear hu ho hf hL2 hl4 cD0 cD1 lD cE0 cE1 cE2 lE HA23 HB23 HW23 HK23
            have HD24 := Lib.hid hD24
            have cD0 : w24.cell? ⟨D, 0, none⟩ = some (.int .i64 N) := HD24.out.cell 0
            have cD1 : w24.cell? ⟨D, 1, none⟩ = some (.slice A1 L.length C1) := HD24.out.cell 1
            have fD0 := HD24.out.free 0
            have fD1 := HD24.out.free 1
            have lD := HD24.out.lt
            clear hD24
            go_upto_region 29 with fail
            refine wp_world fun w25 hw25 => ?_
            rw [← hw25] at hK25 hA25 hB25 hW25
            have HK25 := Lib.hid hK25
            have HA25 := Lib.hid hA25
            have HB25 := Lib.hid hB25
            have HW25 := Lib.hid hW25
            clear hw25 hK25 hA25 hB25 hW25 cD0 cD1 fD0 fD1 lD HD24
            have CS1 := Lib.hid (usame_any Ab Aw Cb Cw xs xs w25 (RU.ul HB25.out) (RU.ul HW25.out) HXL2.out HXL2.out)
            rw [← HM.out, decide_eq_true (rfl : xs = xs)] at CS1
            go_wp2_with (fail)
            refine CS1.out.mono ?_
            rintro e w26 ⟨rfl, hs26⟩
            have HK26 := Lib.hid (HK25.out.later hs26)
            have HA26 := Lib.hid (HA25.out.frm hs26 (fun _ _ => id))
            have HB26 := Lib.hid (show Row1 w26 34 (Value.int .u32) Ab M Cb xs by rw [HM.out]; exact HB25.out.frm hs26 (fun _ _ => id))
            clear hs26 HK25 HA25 HB25 HW25 CS1
            go_upto_region 31 with fail
            refine wp_read 1 ?_
            simp only [List.take_succ_cons, List.take_zero, List.drop_succ_cons, List.drop_zero]
            repeat (any_goals (first | go_big_quiet_step (fail) | quiet_step (fail)))
            refine wpQuiet_nil ?_
            refine wpList_plain rfl fun K hK => ?_
            go_simp
            obtain ⟨w27, hw27⟩ : ∃ z, z = w26.alloc (.cells #[.int .u32 4, .int .u32 5, .int .u32 6] 34) := ⟨_, rfl⟩
            rw [← hw27]
            have hs27 : Same w26 w27 := by rw [hw27]; exact (Frm.refl _ _).alloc _
            have hB27 : Blk w27 w26.heap.size 34 #[.int .u32 4, .int .u32 5, .int .u32 6] := by rw [hw27]; exact Blk.new w26 _ _
            clear hw27
            refine hK _ _ ?_
            clear hK K
            refine wpList_plain rfl fun K hK => ?_
            have hb27 := HB26.out.frm hs27 (fun _ _ => id)
            refine Own.append_many (f := fun x : Int => [Value.int .u32 x]) (.tmp 127) (.tmp 128) _ rfl Try.underlying47 info_ref rfl (by omega) rfl hb27 (fun _ => rfl) [4, 5, 6] (some ⟨w26.heap.size, 0, none⟩) 3 rfl (fun _ => ⟨_, rfl, news_of_blk (l := [Value.int .u32 4, .int .u32 5, .int .u32 6]) hB27⟩) (fun y _ => ref_one y) (by rw [← HM.out]; show _ ≤ 9223372036854775807; have := HXL.out; have := HB.out; simp <;> omega) (by rw [← HM.out]; have := HXL.out; have := HB.out; simp <;> omega) ?_
            intro A5 C5 w28 hO5 hg5 hat5
            refine hK _ _ ?_
            clear hK K
            have hf28 : Frm (fun b => rowOf Ab b) w27 w28 := (Frm.refl (fun b => rowOf Ab b) w27).grown hg5 (fun g hg => .inl (ownBlock_row.1 hg))
            have hK28 := (HK26.out.later hs27).turnRow hb27 hf28 (fun x hx => HNUM.out x (HFB.out x hx))
            have hA28 : RU w28 A3 C3 zs := (show RU w27 A3 C3 zs from HA26.out.frm hs27 (fun _ _ => id)).frm hf28 (fun a ha hr => HFA3.out a.block ⟨a, ha, rfl⟩ hr)
            have hl5 : (xs ++ [4, 5, 6]).length = M + 3 := by rw [List.length_append, ← HM.out]; rfl
            rw [hl5] at hO5 ⊢
            have h5at : (xs ++ [4, 5, 6])[M]? = some 4 := by rw [HM.out, List.getElem?_append_right (Nat.le_refl _), Nat.sub_self]; rfl
            obtain ⟨zt, hzt⟩ : ∃ z, z = xs ++ [4, 5, 6] := ⟨_, rfl⟩
            rw [← hzt] at hO5 h5at
            have HK28 := Lib.hid hK28
            have HA28 := Lib.hid hA28
            have HB28 := Lib.hid hO5
            have HZ4 := Lib.hid h5at
            have hxl3 : (rvL N L2 v).length ≤ n + 1 := Nat.le_trans (rvL_len N L2 v) HL4.out
            have HR3 := Lib.hid (fun w h => urrefs_both N A4 C4 L2 v w h (by have := HL4.out; have := HB.out; omega))
            have HR4 := Lib.hid (fun w h => uqrefs_both U N L2 v w h (by have := HL4.out; have := HB.out; omega))
            unfold dtab at HR3
            obtain ⟨xt, hxt⟩ : ∃ z, z = rvL N L2 v := ⟨_, rfl⟩
            rw [← hxt] at HR3 HR4 hxl3
            rw [← HEV.out] at HR3 HR4
            have HXT := Lib.hid (show xt.length ≤ 1000000000000000000 by have := HB.out; omega)
            clear hO5 h5at hK28 hA28 hf28 hg5 hat5 hb27 hs27 hB27 hl5 hzt hxl3 hxt HK26 HA26 HB26
            have cD0 : w28.cell? ⟨D, 0, none⟩ = some (.int .i64 N) := HK28.out.b.d.cell 0
            have cD1 : w28.cell? ⟨D, 1, none⟩ = some (.slice A4 L2.length C4) := HK28.out.b.d.cell 1
            have lD := HK28.out.b.d.lt
            go_wp2_with (fail)
            refine (HR3.out w28 (OE.el HK28.out.b.o)).mono ?_
            rintro e w29 ⟨An, Cn, rfl, hnn, _, hs29⟩
            have HK29 := Lib.hid (HK28.out.later hs29)
            have HN29 := Lib.hid hnn
            have HA29 := Lib.hid (show RU w29 A3 C3 zs from HA28.out.frm hs29 (fun _ _ => id))
            have HB29 := Lib.hid (show Row1 w29 34 (Value.int .u32) A5 (M + 3) C5 zt from HB28.out.frm hs29 (fun _ _ => id))
            clear hnn hs29 HK28 HA28 HB28 HR3 cD0 cD1 lD
            go_wp2_with (fail)
            refine (HR4.out w29 HK29.out.b.u).mono ?_
            rintro e w30 ⟨Ac, Cc, rfl, hc, _, hs30⟩
            have HK30 := Lib.hid (HK29.out.later hs30)
            have HN30 := Lib.hid (show RU w30 An Cn xt from HN29.out.frm hs30 (fun _ _ => id))
            have HC30 := Lib.hid hc
            have HA30 := Lib.hid (show RU w30 A3 C3 zs from HA29.out.frm hs30 (fun _ _ => id))
            have HB30 := Lib.hid (show Row1 w30 34 (Value.int .u32) A5 (M + 3) C5 zt from HB29.out.frm hs30 (fun _ _ => id))
            clear hc hs30 HK29 HA29 HB29 HN29 HR4
            go_wp2_with (fail)
            refine (usame_any Ac An Cc Cn xt xt w30 (RU.ul HC30.out) (RU.ul HN30.out) HXT.out HXT.out).mono ?_
            rw [decide_eq_true (rfl : xt = xt)]
            rintro e w31 ⟨rfl, hs31⟩
            have HK31 := Lib.hid (HK30.out.later hs31)
            have hA31 : RU w31 A3 C3 zs := HA30.out.frm hs31 (fun _ _ => id)
            have hB31 : Row1 w31 34 (Value.int .u32) A5 (M + 3) C5 zt := HB30.out.frm hs31 (fun _ _ => id)
            obtain ⟨s3, e3, l3, c3⟩ := hA31.at1 HZ1.out
            obtain ⟨s5, e5, l5, c5⟩ := hB31.at1 HZ4.out
            subst e3 e5
            have hm0 : (0 : Int) ≤ M := by omega
            have hm1 : (M : Int) < M + 3 := by omega
            have hm2 : (M : Int) + 3 - 3 = M := by omega
            have hmb : M + 3 ≤ 9000000000000000000 := by have := HB.out; have := HXL.out; omega
            clear hs31 HK30 HN30 HC30 HA30 HB30 hA31 hB31
            go_wp2
            go_loopw [165] (fun i wr => wr = w31 ∧ ∃ k : Nat, i = .int .i64 k ∧ k ≤ N) (fun i _ => N - (intOf i).toNat)
            case atStart => exact ⟨rfl, 0, rfl, Nat.zero_le _⟩
            case round =>
              obtain ⟨hwr, k, rfl, hk⟩ := hrel
              subst hwr
              clear l3 c3 l5 c5
              by_cases hlt : k < N
              · have hk0 : (0 : Int) ≤ k := by omega
                have hk1 : (k : Int) < N := by omega
                have hcnt := uqcount_both V N [] k wr HK31.out.v
                rw [show (rvL N [] (k : Int)).length = 0 by unfold rvL; rw [if_pos ⟨hk0, hk1⟩]; simp [ofv, rising], show vErr N (k : Int) = 0 from if_pos ⟨hk0, hk1⟩] at hcnt
                have HCN := Lib.hid hcnt
                clear hcnt
                go_wp2_with (fail)
                refine HCN.out.mono ?_
                rintro e u1 ⟨rfl, hv⟩
                subst hv
                clear HCN
                go_wp2
                go_roundw
                case rel => exact ⟨by trivial, k + 1, by go_num, hlt⟩
                case measure => simp [intOf] <;> omega
              · have hkn : N = k := by omega
                subst hkn
                go_wp2
                go_ret
                exact ⟨rfl, HK31.out.b.same⟩
  · have HNEW := Lib.hid (fun w => urnew_any vars w)
    rw [if_neg hv, if_neg hv] at HNEW
    go_wp2_with (fail)
    refine (uqnew_bad vars hv w1).mono ?_
    rintro e w2 ⟨rfl, hw2⟩
    subst hw2
    go_wp2_with (fail)
    refine (uqnew_bad vars hv w2).mono ?_
    rintro e w3 ⟨rfl, hw3⟩
    subst hw3
    clear hv
    go_wp2_with (fail)
    refine (HNEW.out w3).mono ?_
    rintro e w4 ⟨A0, C0, rfl, ho, hs4⟩
    unfold dtab
    have HS4 := Lib.hid (HS1.out.trans hs4 (fun _ _ h => h))
    clear ho hs4 HNEW
    go_upto_region 6 with fail
    refine wp_world fun w5 hw5 => ?_
    have HS5 := Lib.hid (show Same w w5 by rw [hw5]; exact HS4.out.alloc _)
    clear hw5
    go_wp2
    go_ret
    exact ⟨rfl, HS5.out⟩
end Go.Proofs.Ytkelbbalffijbaa


/- The walk of UqKeeps beside the given rows. -/
