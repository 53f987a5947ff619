/- Truth tables: TruthJoins: the walk. -/
import Derived.Test.YtlggmoghgoeiiaaTrDoc3
namespace Go.Proofs.Ytlggmoghgoeiiaa
open Go.RowKit Go.Tk

abbrev TIn (w : World) := {t : Tb // TbIn w t}
theorem tabs_at {w : World} {A : Option Addr} {n : Nat} {xs : List (TIn w)} (h : Sl w 2 (fun x : TIn w => x.1.cells) A n xs) {i : Nat} (hi : i < n) : ∃ (bl o : Nat) (t : Tb), A = some ⟨bl, o, none⟩ ∧ bl < w.heap.size ∧ TbIn w t ∧
    w.cell? ⟨bl, o + i * 2 + 0, none⟩ = some (.int .i64 t.N) ∧ w.cell? ⟨bl, o + i * 2 + 1, none⟩ = some (.slice t.A t.ws.length t.C) := by
  obtain ⟨x, hx⟩ : ∃ x, xs[i]? = some x := ⟨_, List.getElem?_eq_getElem (by rw [← h.len]; exact hi)⟩
  obtain ⟨b, o, hA, hb, hc⟩ := h.get i x hx
  exact ⟨b, o, x.1, hA, hb, x.2, hc 0 (by omega), hc 1 (by omega)⟩
theorem fmE_len {N : Int} {F : Nat → Bool} {b : Bool} (h : b = true → N.toNat ≤ 16) : (ansL (tab N.toNat F) (fmE b)).length ≤ 1000000000000000000 := by
  cases b with
  | false => simp [fmE, ansL]
  | true =>
    rw [show ansL (tab N.toNat F) (fmE true) = tab N.toNat F from rfl]
    exact tab_len_le (h rfl)
theorem binE_len {N : Int} {F : Nat → Bool} {b : Bool} {op : Nat} (h : b = true → N.toNat ≤ 16) : (ansL (tab N.toNat F) (binE op b)).length ≤ 1000000000000000000 := by
  unfold binE
  split
  · simp [ansL]
  · exact fmE_len h
theorem frm_16 {N : Int} {ws : List Nat} (h : frm N ws = true) : N.toNat ≤ 16 := by
  obtain ⟨n, rfl, hf⟩ := frm_true h
  have := hf.n16
  omega
theorem fm_16 {N : Int} {A : Option Addr} {C : Nat} {ws : List Nat} {r : List Tb} (h : fm (⟨N, A, C, ws⟩ :: r) = true) : N.toNat ≤ 16 := by
  have : frm N ws = true := by
    simp [fm, Tb.frm] at h
    exact h.1
  exact frm_16 this
set_option maxRecDepth 100000 in
set_option maxHeartbeats 16000000 in
theorem joins_walk3 (op bl off Ln Cl : Nat) (Na : Int) (Aa : Option Addr) (Ca : Nat) (wsa : List Nat) (Nb : Int) (Ab : Option Addr) (Cb : Nat) (wsb : List Nat) (Nc : Int) (Ac : Option Addr) (Cc : Nat) (wsc : List Nat) (w : World) (hopl : op < 256) (hLn : 3 ≤ Ln) (hbl : bl < w.heap.size) (ha : TbIn w ⟨Na, Aa, Ca, wsa⟩) (hb : TbIn w ⟨Nb, Ab, Cb, wsb⟩) (hc : TbIn w ⟨Nc, Ac, Cc, wsc⟩) (la0 : w.cell? ⟨bl, off, none⟩ = some (.int .i64 Na)) (la1 : w.cell? ⟨bl, off + 1, none⟩ = some (.slice Aa wsa.length Ca)) (lb0 : w.cell? ⟨bl, off + 2, none⟩ = some (.int .i64 Nb)) (lb1 : w.cell? ⟨bl, off + 3, none⟩ = some (.slice Ab wsb.length Cb)) (lc0 : w.cell? ⟨bl, off + 4, none⟩ = some (.int .i64 Nc)) (lc1 : w.cell? ⟨bl, off + 5, none⟩ = some (.slice Ac wsc.length Cc)) :
    Calls Try.prog 6 #[.int .u8 op, .slice (some ⟨bl, off, none⟩) Ln Cl] w fun e w' => e = .returned (.bool true) ∧ Below w.heap.size w w' := by
  have Ha := Lib.hid ha
  have hrooma : wsa.length * 8 ≤ 140737488351232 := ha.room
  have HLa0 := Lib.hid la0
  have HLa1 := Lib.hid la1
  have Hb := Lib.hid hb
  have hroomb : wsb.length * 8 ≤ 140737488351232 := hb.room
  have HLb0 := Lib.hid lb0
  have HLb1 := Lib.hid lb1
  have Hc := Lib.hid hc
  have hroomc : wsc.length * 8 ≤ 140737488351232 := hc.room
  have HLc0 := Lib.hid lc0
  have HLc1 := Lib.hid lc1
  clear ha hb hc la0 la1 lb0 lb1 lc0 lc1
  have hL0 : (0 : Int) < Ln := by omega
  have hL1 : (1 : Int) < Ln := by omega
  have hL2 : (2 : Int) < Ln := by omega
  have hL3 : ¬ (Ln : Int) < 3 := by omega
  go_enter Try.func6, Try.ntmps6
  go_wp2_with (fail)
  refine (awake_any w).mono ?_
  rintro e w2 ⟨rfl, hs12⟩
  have HS := Lib.hid hs12
  clear hs12
  have hP := fun Aa' Ca' w ha => Not_any Na Aa' Ca' wsa w ha
  have hD := fun w ha => docNot_any Na Aa Ca wsa w ha
  have hrl := fmE_len (N := Na) (F := notF wsa) (fun h => frm_16 (ws := wsa) h)
  unfold RetA at hP hD
  generalize ansN Na (fmE (frm Na wsa)) = rn at hP hD
  generalize ansL (tab Na.toNat (notF wsa)) (fmE (frm Na wsa)) = rws at hP hD hrl
  generalize fmE (frm Na wsa) = re at hP hD
  have HP := Lib.hid hP
  have HD := Lib.hid hD
  clear hP hD
  have la0 : w2.cell? ⟨bl, off, none⟩ = some (.int .i64 Na) := ((HS.out).cell (p := ⟨bl, off, none⟩) hbl id).trans HLa0.out
  have la1 : w2.cell? ⟨bl, off + 1, none⟩ = some (.slice Aa wsa.length Ca) := ((HS.out).cell (p := ⟨bl, off + 1, none⟩) hbl id).trans HLa1.out
  have lb0 : w2.cell? ⟨bl, off + 2, none⟩ = some (.int .i64 Nb) := ((HS.out).cell (p := ⟨bl, off + 2, none⟩) hbl id).trans HLb0.out
  have lb1 : w2.cell? ⟨bl, off + 3, none⟩ = some (.slice Ab wsb.length Cb) := ((HS.out).cell (p := ⟨bl, off + 3, none⟩) hbl id).trans HLb1.out
  have lc0 : w2.cell? ⟨bl, off + 4, none⟩ = some (.int .i64 Nc) := ((HS.out).cell (p := ⟨bl, off + 4, none⟩) hbl id).trans HLc0.out
  have lc1 : w2.cell? ⟨bl, off + 5, none⟩ = some (.slice Ac wsc.length Cc) := ((HS.out).cell (p := ⟨bl, off + 5, none⟩) hbl id).trans HLc1.out
  have lbl := Nat.lt_of_lt_of_le hbl (HS.out).size
  go_wp2_with (fail)
  refine (rtwin_any Na Aa Ca wsa w2 (Sl.same Ha.out.ok.wl HS.out) hrooma).mono ?_
  rintro e wb ⟨At, Ct, rfl, hNT⟩
  have hs := hNT.2.2
  have hot := hNT.1
  clear hNT
  clear la0 la1 lb0 lb1 lc0 lc1 lbl
  go_wp2_with (fail)
  refine (HP.out At Ct wb ⟨hot.sl ucell_len, Ha.out.ok.small⟩).mono ?_
  rintro e wc ⟨Ap, Cp, rfl, hNT⟩
  have hs := hs.trans hNT.2.2 (fun _ _ h => h)
  have hop := hNT.1
  clear hNT hot
  have la0 : wc.cell? ⟨bl, off, none⟩ = some (.int .i64 Na) := ((HS.out.trans hs (fun _ _ h => h)).cell (p := ⟨bl, off, none⟩) hbl id).trans HLa0.out
  have la1 : wc.cell? ⟨bl, off + 1, none⟩ = some (.slice Aa wsa.length Ca) := ((HS.out.trans hs (fun _ _ h => h)).cell (p := ⟨bl, off + 1, none⟩) hbl id).trans HLa1.out
  have lb0 : wc.cell? ⟨bl, off + 2, none⟩ = some (.int .i64 Nb) := ((HS.out.trans hs (fun _ _ h => h)).cell (p := ⟨bl, off + 2, none⟩) hbl id).trans HLb0.out
  have lb1 : wc.cell? ⟨bl, off + 3, none⟩ = some (.slice Ab wsb.length Cb) := ((HS.out.trans hs (fun _ _ h => h)).cell (p := ⟨bl, off + 3, none⟩) hbl id).trans HLb1.out
  have lc0 : wc.cell? ⟨bl, off + 4, none⟩ = some (.int .i64 Nc) := ((HS.out.trans hs (fun _ _ h => h)).cell (p := ⟨bl, off + 4, none⟩) hbl id).trans HLc0.out
  have lc1 : wc.cell? ⟨bl, off + 5, none⟩ = some (.slice Ac wsc.length Cc) := ((HS.out.trans hs (fun _ _ h => h)).cell (p := ⟨bl, off + 5, none⟩) hbl id).trans HLc1.out
  have lbl := Nat.lt_of_lt_of_le hbl (HS.out.trans hs (fun _ _ h => h)).size
  go_wp2_with (fail)
  refine call_world fun wd hwd => ?_
  have hsv : Same wc wd := by rw [hwd]; exact (Frm.refl _ _).alloc _
  have hop := Own.frm hop hsv (fun _ _ => id)
  have hBp : Blk wd wc.heap.size 24 #[.int .i64 rn, .slice Ap rws.length Cp] := by rw [hwd]; exact Blk.new _ _ _
  have hTp : w.heap.size ≤ wc.heap.size := (HS.out.trans hs (fun _ _ h => h)).size
  have hs := hs.trans hsv (fun _ _ h => h)
  clear la0 la1 lb0 lb1 lc0 lc1 lbl
  clear hwd hsv
  obtain ⟨Tp, hTpe⟩ : ∃ b, wc.heap.size = b := ⟨_, rfl⟩
  rw [hTpe] at hBp hTp ⊢
  clear hTpe
  refine (HD.out wd ((Ha.out.ok).same (HS.out.trans hs (fun _ _ h => h)))).mono ?_
  rintro e we ⟨Aq, Cq, rfl, hNT⟩
  have hs := hs.trans hNT.2.2 (fun _ _ h => h)
  have hop := Own.frm hop hNT.2.2 (fun _ _ => id)
  have hBp := hBp.frm hNT.2.2 id
  have hoq := hNT.1
  clear hNT
  have hcp0 : we.cell? ⟨Tp, 0, none⟩ = some (.int .i64 rn) := hBp.cell 0
  have hcp1 : we.cell? ⟨Tp, 1, none⟩ = some (.slice Ap rws.length Cp) := hBp.cell 1
  have hlp := hBp.lt
  go_wp2_with (fail)
  refine call_world fun wf hwf => ?_
  have hsv : Same we wf := by rw [hwf]; exact (Frm.refl _ _).alloc _
  have hBq : Blk wf we.heap.size 24 #[.int .i64 rn, .slice Aq rws.length Cq] := by rw [hwf]; exact Blk.new _ _ _
  have hTq : w.heap.size ≤ we.heap.size := (HS.out.trans hs (fun _ _ h => h)).size
  have hpq : Tp ≠ we.heap.size := by omega
  have hop := Own.frm hop hsv (fun _ _ => id)
  have hoq := Own.frm hoq hsv (fun _ _ => id)
  have hBp := hBp.frm hsv id
  have hs := hs.trans hsv (fun _ _ h => h)
  clear hwf hsv hcp0 hcp1 hlp
  obtain ⟨Tq, hTqe⟩ : ∃ b, we.heap.size = b := ⟨_, rfl⟩
  rw [hTqe] at hBq hTq hpq ⊢
  clear hTqe
  refine (alike_any rn Ap rws.length Cp rws re rn Aq rws.length Cq rws re wf (hop.sl ucell_len) (hoq.sl ucell_len) hrl).mono ?_
  rintro e wg ⟨rfl, hsv⟩
  rw [sm_self, beq_self_eq_true, Bool.and_true]
  replace HS := Lib.hid (HS.out.trans (hs.trans hsv (fun _ _ h => h)) (fun _ _ h => h))
  have HBp := Lib.hid (hBp.frm hsv id)
  have HBq := Lib.hid (hBq.frm hsv id)
  clear hop hoq hsv hBp hBq hs HP HD hrl
  have hP := fun Aa' Ca' Ab' Cb' w ha hb => Binary_any op Na Aa' Ca' wsa Nb Ab' Cb' wsb w hopl ha hb
  have hD := fun w ha hb => docBinary_any op Na Aa Ca wsa Nb Ab Cb wsb w ha hb
  have hfe : ∀ (Aa' : Option Addr) (Ca' : Nat) (Ab' : Option Addr) (Cb' : Nat), fm [⟨Na, Aa', Ca', wsa⟩, ⟨Nb, Ab', Cb', wsb⟩] = fm [⟨Na, Aa, Ca, wsa⟩, ⟨Nb, Ab, Cb, wsb⟩] := fun _ _ _ _ => rfl
  simp only [hfe] at hP
  clear hfe
  have hrl := binE_len (N := Na) (F := binF op wsa wsb) (op := op) (fun h => fm_16 (A := Aa) (C := Ca) (ws := wsa) (r := [⟨Nb, Ab, Cb, wsb⟩]) h)
  unfold RetA at hP hD
  generalize ansN Na (binE op (fm [⟨Na, Aa, Ca, wsa⟩, ⟨Nb, Ab, Cb, wsb⟩])) = rn at hP hD
  generalize ansL (tab Na.toNat (binF op wsa wsb)) (binE op (fm [⟨Na, Aa, Ca, wsa⟩, ⟨Nb, Ab, Cb, wsb⟩])) = rws at hP hD hrl
  generalize binE op (fm [⟨Na, Aa, Ca, wsa⟩, ⟨Nb, Ab, Cb, wsb⟩]) = re at hP hD
  have HP := Lib.hid hP
  have HD := Lib.hid hD
  clear hP hD
  have la0 : wg.cell? ⟨bl, off, none⟩ = some (.int .i64 Na) := ((HS.out).cell (p := ⟨bl, off, none⟩) hbl id).trans HLa0.out
  have la1 : wg.cell? ⟨bl, off + 1, none⟩ = some (.slice Aa wsa.length Ca) := ((HS.out).cell (p := ⟨bl, off + 1, none⟩) hbl id).trans HLa1.out
  have lb0 : wg.cell? ⟨bl, off + 2, none⟩ = some (.int .i64 Nb) := ((HS.out).cell (p := ⟨bl, off + 2, none⟩) hbl id).trans HLb0.out
  have lb1 : wg.cell? ⟨bl, off + 3, none⟩ = some (.slice Ab wsb.length Cb) := ((HS.out).cell (p := ⟨bl, off + 3, none⟩) hbl id).trans HLb1.out
  have lc0 : wg.cell? ⟨bl, off + 4, none⟩ = some (.int .i64 Nc) := ((HS.out).cell (p := ⟨bl, off + 4, none⟩) hbl id).trans HLc0.out
  have lc1 : wg.cell? ⟨bl, off + 5, none⟩ = some (.slice Ac wsc.length Cc) := ((HS.out).cell (p := ⟨bl, off + 5, none⟩) hbl id).trans HLc1.out
  have lbl := Nat.lt_of_lt_of_le hbl (HS.out).size
  have cT0 : wg.cell? ⟨Tp, 0, none⟩ = _ := HBp.out.cell 0
  have lT := HBp.out.lt
  obtain ⟨S, hS⟩ : ∃ S : Nat → Prop, (fun b => b = Tp) = S := ⟨_, rfl⟩
  have hSX : ¬ S bl := by rw [← hS]; exact fun h => by have h : bl = Tp := h; omega
  have HSS := Lib.hid hS
  clear hS cT0 lT
  go_upto_region 9 with fail
  refine wp_phS S [([0, 1, 2, 3, 5, 6, 7], 4), ([], 8), ([], 9), ([10, 11, 12], 13), ([], 14)] (by kernel_rfl) (by kernel_rfl) ?_
  simp only [wpPh, pick, List.map_cons, List.map_nil, List.getD_cons_zero, List.getD_cons_succ]
  have hs : Same wg wg.drew := (Frm.refl _ _).drew
  repeat (any_goals (first | go_big_quiet_step (fail) | quiet_step (fail)))
  refine wpQuiet_nil ?_
  refine effStep_plain rfl fun K hK => ?_
  go_simp
  refine (rtwin_any Na Aa Ca wsa _ (Sl.same Ha.out.ok.wl (HS.out.trans hs (fun _ _ h => h))) hrooma).mono ?_
  rintro e u ⟨Ata, Cta, rfl, hNT⟩
  have hota := hNT.1
  have hs := hs.trans hNT.2.2 (fun _ _ h => h)
  clear hNT
  refine hK _ _ (Lat.mk_ (Frm.mono hs (fun _ _ h => h.elim))) ?_
  clear hK K
  repeat (any_goals (first | go_big_quiet_step (fail) | quiet_step (fail)))
  refine wpQuiet_nil ?_
  refine effStep_plain rfl fun K hK => ?_
  go_simp
  refine (rtwin_any Nb Ab Cb wsb _ (Sl.same Hb.out.ok.wl (HS.out.trans hs (fun _ _ h => h))) hroomb).mono ?_
  rintro e u ⟨Atb, Ctb, rfl, hNT⟩
  have hota := Own.frm hota hNT.2.2 (fun _ _ => id)
  have hotb := hNT.1
  have hs := hs.trans hNT.2.2 (fun _ _ h => h)
  clear hNT
  refine hK _ _ (Lat.mk_ (Frm.mono hs (fun _ _ h => h.elim))) ?_
  clear hK K
  repeat (any_goals (first | go_big_quiet_step (fail) | quiet_step (fail)))
  refine wpQuiet_nil ?_
  refine effStep_plain rfl fun K hK => ?_
  go_simp
  refine (HP.out Ata Cta Atb Ctb _ ⟨hota.sl ucell_len, Ha.out.ok.small⟩ ⟨hotb.sl ucell_len, Hb.out.ok.small⟩).mono ?_
  rintro e u ⟨Ap, Cp, rfl, hNT⟩
  have hRp : ∀ a, Ap = some a → a.block ≠ Tp := fun a ha h => by
    have h1 := hNT.2.1 a.block ⟨a, ha, rfl⟩
    have h2 := HBp.out.lt
    have h3 := hs.size
    omega
  have hQp : ∀ a, Ap = some a → a.block ≠ Tq := fun a ha h => by
    have h1 := hNT.2.1 a.block ⟨a, ha, rfl⟩
    have h2 := HBq.out.lt
    have h3 := hs.size
    omega
  have hop := hNT.1
  have hs := hs.trans hNT.2.2 (fun _ _ h => h)
  clear hNT hota hotb
  refine hK _ _ (Lat.mk_ (Frm.mono hs (fun _ _ h => h.elim))) ?_
  clear hK K
  have hBp := HBp.out.frm hs id
  have hcR0 : u.cell? ⟨Tp, 0, none⟩ = _ := hBp.cell 0
  have hcR1 : u.cell? ⟨Tp, 1, none⟩ = _ := hBp.cell 1
  have hfR0 := hBp.free 0
  have hfR1 := hBp.free 1
  have hlR := hBp.lt
  repeat (any_goals (first | go_big_quiet_step (fail) | quiet_step (fail)))
  refine wpQuiet_nil ?_
  refine effStep_plain rfl fun K hK => ?_
  go_simp
  refine hK _ _ (Lat.mk_ ?_) ?_
  · have hSR : S Tp := cast (congrFun HSS.out Tp) rfl
    have hF6 : Frm S wg u := Frm.mono hs (fun _ _ h => h.elim)
    exact (hF6.setCell (p := ⟨Tp, 0, none⟩) (.inl hSR) _).setCell (p := ⟨Tp, 1, none⟩) (.inl hSR) _
  clear hK K hcR0 hcR1 hfR0 hfR1 hlR
  clear la0 la1 lb0 lb1 lc0 lc1 lbl
  repeat (any_goals (first | go_big_quiet_step (fail) | quiet_step (fail)))
  refine wpQuiet_nil ?_
  refine list_world fun wh hwh => ?_
  replace HBp := Lib.hid (show Blk wh Tp 24 #[.int .i64 rn, .slice Ap rws.length Cp] by
    rw [hwh]
    have := (hBp.set 0 (.int .i64 rn)).set 1 (.slice Ap rws.length Cp)
    simpa using this)
  replace HBq := Lib.hid (show Blk wh _ _ _ by rw [hwh]; exact ((HBq.out.frm hs id).far (p := ⟨Tp, 0, none⟩) (Ne.symm hpq) (.int .i64 rn)).far (p := ⟨Tp, 1, none⟩) (Ne.symm hpq) (.slice Ap rws.length Cp))
  have HOp := Lib.hid (show OwnW wh _ _ _ _ by rw [hwh]; exact (Own.far (p := ⟨Tp, 0, none⟩) hop hRp (.int .i64 rn)).far (p := ⟨Tp, 1, none⟩) hRp (.slice Ap rws.length Cp))
  replace HS := Lib.hid (show Same w wh by rw [hwh]; exact ((HS.out.trans hs (fun _ _ h => h)).setNew 0 (.int .i64 rn) hTp).setNew 1 (.slice Ap rws.length Cp) hTp)
  clear hwh hs hBp hop hRp hSX HSS
  have la0 : wh.cell? ⟨bl, off, none⟩ = some (.int .i64 Na) := ((HS.out).cell (p := ⟨bl, off, none⟩) hbl id).trans HLa0.out
  have la1 : wh.cell? ⟨bl, off + 1, none⟩ = some (.slice Aa wsa.length Ca) := ((HS.out).cell (p := ⟨bl, off + 1, none⟩) hbl id).trans HLa1.out
  have lb0 : wh.cell? ⟨bl, off + 2, none⟩ = some (.int .i64 Nb) := ((HS.out).cell (p := ⟨bl, off + 2, none⟩) hbl id).trans HLb0.out
  have lb1 : wh.cell? ⟨bl, off + 3, none⟩ = some (.slice Ab wsb.length Cb) := ((HS.out).cell (p := ⟨bl, off + 3, none⟩) hbl id).trans HLb1.out
  have lc0 : wh.cell? ⟨bl, off + 4, none⟩ = some (.int .i64 Nc) := ((HS.out).cell (p := ⟨bl, off + 4, none⟩) hbl id).trans HLc0.out
  have lc1 : wh.cell? ⟨bl, off + 5, none⟩ = some (.slice Ac wsc.length Cc) := ((HS.out).cell (p := ⟨bl, off + 5, none⟩) hbl id).trans HLc1.out
  have lbl := Nat.lt_of_lt_of_le hbl (HS.out).size
  have cT0 : wh.cell? ⟨Tq, 0, none⟩ = _ := HBq.out.cell 0
  have lT := HBq.out.lt
  obtain ⟨S, hS⟩ : ∃ S : Nat → Prop, (fun b => b = Tq) = S := ⟨_, rfl⟩
  have hSX : ¬ S bl := by rw [← hS]; exact fun h => by have h : bl = Tq := h; omega
  have HSS := Lib.hid hS
  clear hS cT0 lT
  go_upto_region 10 with fail
  refine wp_phS S [([0, 1, 2, 3, 4, 5, 6], 7), ([8, 9, 10], 11), ([], 12)] (by kernel_rfl) (by kernel_rfl) ?_
  simp only [wpPh, pick, List.map_cons, List.map_nil, List.getD_cons_zero, List.getD_cons_succ]
  have hs : Same wh wh.drew := (Frm.refl _ _).drew
  repeat (any_goals (first | go_big_quiet_step (fail) | quiet_step (fail)))
  refine wpQuiet_nil ?_
  refine effStep_plain rfl fun K hK => ?_
  go_simp
  refine (HD.out  _ (Ha.out.ok.same (HS.out.trans hs (fun _ _ h => h))) (Hb.out.ok.same (HS.out.trans hs (fun _ _ h => h)))).mono ?_
  rintro e u ⟨Aq, Cq, rfl, hNT⟩
  have hRq : ∀ a, Aq = some a → a.block ≠ Tq := fun a ha h => by
    have h1 := hNT.2.1 a.block ⟨a, ha, rfl⟩
    have h2 := HBq.out.lt
    have h3 := hs.size
    omega
  have hQq : ∀ a, Aq = some a → a.block ≠ Tp := fun a ha h => by
    have h1 := hNT.2.1 a.block ⟨a, ha, rfl⟩
    have h2 := HBp.out.lt
    have h3 := hs.size
    omega
  have hoq := hNT.1
  have hs := hs.trans hNT.2.2 (fun _ _ h => h)
  clear hNT 
  refine hK _ _ (Lat.mk_ (Frm.mono hs (fun _ _ h => h.elim))) ?_
  clear hK K
  have hBq := HBq.out.frm hs id
  have hcR0 : u.cell? ⟨Tq, 0, none⟩ = _ := hBq.cell 0
  have hcR1 : u.cell? ⟨Tq, 1, none⟩ = _ := hBq.cell 1
  have hfR0 := hBq.free 0
  have hfR1 := hBq.free 1
  have hlR := hBq.lt
  repeat (any_goals (first | go_big_quiet_step (fail) | quiet_step (fail)))
  refine wpQuiet_nil ?_
  refine effStep_plain rfl fun K hK => ?_
  go_simp
  refine hK _ _ (Lat.mk_ ?_) ?_
  · have hSR : S Tq := cast (congrFun HSS.out Tq) rfl
    have hF6 : Frm S wh u := Frm.mono hs (fun _ _ h => h.elim)
    exact (hF6.setCell (p := ⟨Tq, 0, none⟩) (.inl hSR) _).setCell (p := ⟨Tq, 1, none⟩) (.inl hSR) _
  clear hK K hcR0 hcR1 hfR0 hfR1 hlR
  clear la0 la1 lb0 lb1 lc0 lc1 lbl
  repeat (any_goals (first | go_big_quiet_step (fail) | quiet_step (fail)))
  refine wpQuiet_nil ?_
  refine list_world fun wi hwi => ?_
  replace HBq := Lib.hid (show Blk wi Tq 24 #[.int .i64 rn, .slice Aq rws.length Cq] by
    rw [hwi]
    have := (hBq.set 0 (.int .i64 rn)).set 1 (.slice Aq rws.length Cq)
    simpa using this)
  replace HBp := Lib.hid (show Blk wi _ _ _ by rw [hwi]; exact ((HBp.out.frm hs id).far (p := ⟨Tq, 0, none⟩) hpq (.int .i64 rn)).far (p := ⟨Tq, 1, none⟩) hpq (.slice Aq rws.length Cq))
  have HOq := Lib.hid (show OwnW wi _ _ _ _ by rw [hwi]; exact (Own.far (p := ⟨Tq, 0, none⟩) hoq hRq (.int .i64 rn)).far (p := ⟨Tq, 1, none⟩) hRq (.slice Aq rws.length Cq))
  replace HOp := Lib.hid (show OwnW wi _ _ _ _ by rw [hwi]; exact (Own.far (p := ⟨Tq, 0, none⟩) (Own.frm HOp.out hs (fun _ _ => id)) hQp (.int .i64 rn)).far (p := ⟨Tq, 1, none⟩) hQp (.slice Aq rws.length Cq))
  replace HS := Lib.hid (show Same w wi by rw [hwi]; exact ((HS.out.trans hs (fun _ _ h => h)).setNew 0 (.int .i64 rn) hTq).setNew 1 (.slice Aq rws.length Cq) hTq)
  clear hwi hs hBq hoq hRq hSX HSS
  have hcp0 : wi.cell? ⟨Tp, 0, none⟩ = some (.int .i64 rn) := HBp.out.cell 0
  have hcp1 : wi.cell? ⟨Tp, 1, none⟩ = some (.slice Ap rws.length Cp) := HBp.out.cell 1
  have hlp := HBp.out.lt
  have hcq0 : wi.cell? ⟨Tq, 0, none⟩ = some (.int .i64 rn) := HBq.out.cell 0
  have hcq1 : wi.cell? ⟨Tq, 1, none⟩ = some (.slice Aq rws.length Cq) := HBq.out.cell 1
  have hlq := HBq.out.lt
  go_wp2_with (fail)
  refine (alike_any rn Ap rws.length Cp rws re rn Aq rws.length Cq rws re wi (HOp.out.sl ucell_len) (HOq.out.sl ucell_len) hrl).mono ?_
  rintro e wj ⟨rfl, hsv⟩
  rw [sm_self, beq_self_eq_true, Bool.and_true]
  replace HS := Lib.hid (HS.out.trans hsv (fun _ _ h => h))
  replace HBp := Lib.hid (HBp.out.frm hsv id)
  replace HBq := Lib.hid (HBq.out.frm hsv id)
  clear hsv hcp0 hcp1 hlp hcq0 hcq1 hlq HOp HOq HP HD hrl hQp hQq
  have hP := fun Aa' Ca' Ab' Cb' Ac' Cc' w ha hb hc => Ite_any Na Aa' Ca' wsa Nb Ab' Cb' wsb Nc Ac' Cc' wsc w ha hb hc
  have hD := fun w ha hb hc => docIte_any Na Aa Ca wsa Nb Ab Cb wsb Nc Ac Cc wsc w ha hb hc
  have hfe : ∀ (Aa' : Option Addr) (Ca' : Nat) (Ab' : Option Addr) (Cb' : Nat) (Ac' : Option Addr) (Cc' : Nat), fm [⟨Na, Aa', Ca', wsa⟩, ⟨Nb, Ab', Cb', wsb⟩, ⟨Nc, Ac', Cc', wsc⟩] = fm [⟨Na, Aa, Ca, wsa⟩, ⟨Nb, Ab, Cb, wsb⟩, ⟨Nc, Ac, Cc, wsc⟩] := fun _ _ _ _ _ _ => rfl
  simp only [hfe] at hP
  clear hfe
  have hrl := fmE_len (N := Na) (F := iteF wsa wsb wsc) (fun h => fm_16 (A := Aa) (C := Ca) (ws := wsa) (r := [⟨Nb, Ab, Cb, wsb⟩, ⟨Nc, Ac, Cc, wsc⟩]) h)
  unfold RetA at hP hD
  generalize ansN Na (fmE (fm [⟨Na, Aa, Ca, wsa⟩, ⟨Nb, Ab, Cb, wsb⟩, ⟨Nc, Ac, Cc, wsc⟩])) = rn at hP hD
  generalize ansL (tab Na.toNat (iteF wsa wsb wsc)) (fmE (fm [⟨Na, Aa, Ca, wsa⟩, ⟨Nb, Ab, Cb, wsb⟩, ⟨Nc, Ac, Cc, wsc⟩])) = rws at hP hD hrl
  generalize fmE (fm [⟨Na, Aa, Ca, wsa⟩, ⟨Nb, Ab, Cb, wsb⟩, ⟨Nc, Ac, Cc, wsc⟩]) = re at hP hD
  have HP := Lib.hid hP
  have HD := Lib.hid hD
  clear hP hD
  have la0 : wj.cell? ⟨bl, off, none⟩ = some (.int .i64 Na) := ((HS.out).cell (p := ⟨bl, off, none⟩) hbl id).trans HLa0.out
  have la1 : wj.cell? ⟨bl, off + 1, none⟩ = some (.slice Aa wsa.length Ca) := ((HS.out).cell (p := ⟨bl, off + 1, none⟩) hbl id).trans HLa1.out
  have lb0 : wj.cell? ⟨bl, off + 2, none⟩ = some (.int .i64 Nb) := ((HS.out).cell (p := ⟨bl, off + 2, none⟩) hbl id).trans HLb0.out
  have lb1 : wj.cell? ⟨bl, off + 3, none⟩ = some (.slice Ab wsb.length Cb) := ((HS.out).cell (p := ⟨bl, off + 3, none⟩) hbl id).trans HLb1.out
  have lc0 : wj.cell? ⟨bl, off + 4, none⟩ = some (.int .i64 Nc) := ((HS.out).cell (p := ⟨bl, off + 4, none⟩) hbl id).trans HLc0.out
  have lc1 : wj.cell? ⟨bl, off + 5, none⟩ = some (.slice Ac wsc.length Cc) := ((HS.out).cell (p := ⟨bl, off + 5, none⟩) hbl id).trans HLc1.out
  have lbl := Nat.lt_of_lt_of_le hbl (HS.out).size
  have cT0 : wj.cell? ⟨Tp, 0, none⟩ = _ := HBp.out.cell 0
  have lT := HBp.out.lt
  obtain ⟨S, hS⟩ : ∃ S : Nat → Prop, (fun b => b = Tp) = S := ⟨_, rfl⟩
  have hSX : ¬ S bl := by rw [← hS]; exact fun h => by have h : bl = Tp := h; omega
  have HSS := Lib.hid hS
  clear hS cT0 lT
  go_upto_region 13 with fail
  refine wp_phS S [([0, 1, 2, 4, 5, 6, 8, 9, 10], 3), ([], 7), ([], 11), ([], 12), ([13, 14, 15], 16), ([], 17)] (by kernel_rfl) (by kernel_rfl) ?_
  simp only [wpPh, pick, List.map_cons, List.map_nil, List.getD_cons_zero, List.getD_cons_succ]
  have hs : Same wj wj.drew := (Frm.refl _ _).drew
  repeat (any_goals (first | go_big_quiet_step (fail) | quiet_step (fail)))
  refine wpQuiet_nil ?_
  refine effStep_plain rfl fun K hK => ?_
  go_simp
  refine (rtwin_any Na Aa Ca wsa _ (Sl.same Ha.out.ok.wl (HS.out.trans hs (fun _ _ h => h))) hrooma).mono ?_
  rintro e u ⟨Ata, Cta, rfl, hNT⟩
  have hota := hNT.1
  have hs := hs.trans hNT.2.2 (fun _ _ h => h)
  clear hNT
  refine hK _ _ (Lat.mk_ (Frm.mono hs (fun _ _ h => h.elim))) ?_
  clear hK K
  repeat (any_goals (first | go_big_quiet_step (fail) | quiet_step (fail)))
  refine wpQuiet_nil ?_
  refine effStep_plain rfl fun K hK => ?_
  go_simp
  refine (rtwin_any Nb Ab Cb wsb _ (Sl.same Hb.out.ok.wl (HS.out.trans hs (fun _ _ h => h))) hroomb).mono ?_
  rintro e u ⟨Atb, Ctb, rfl, hNT⟩
  have hota := Own.frm hota hNT.2.2 (fun _ _ => id)
  have hotb := hNT.1
  have hs := hs.trans hNT.2.2 (fun _ _ h => h)
  clear hNT
  refine hK _ _ (Lat.mk_ (Frm.mono hs (fun _ _ h => h.elim))) ?_
  clear hK K
  repeat (any_goals (first | go_big_quiet_step (fail) | quiet_step (fail)))
  refine wpQuiet_nil ?_
  refine effStep_plain rfl fun K hK => ?_
  go_simp
  refine (rtwin_any Nc Ac Cc wsc _ (Sl.same Hc.out.ok.wl (HS.out.trans hs (fun _ _ h => h))) hroomc).mono ?_
  rintro e u ⟨Atc, Ctc, rfl, hNT⟩
  have hota := Own.frm hota hNT.2.2 (fun _ _ => id)
  have hotb := Own.frm hotb hNT.2.2 (fun _ _ => id)
  have hotc := hNT.1
  have hs := hs.trans hNT.2.2 (fun _ _ h => h)
  clear hNT
  refine hK _ _ (Lat.mk_ (Frm.mono hs (fun _ _ h => h.elim))) ?_
  clear hK K
  repeat (any_goals (first | go_big_quiet_step (fail) | quiet_step (fail)))
  refine wpQuiet_nil ?_
  refine effStep_plain rfl fun K hK => ?_
  go_simp
  refine (HP.out Ata Cta Atb Ctb Atc Ctc _ ⟨hota.sl ucell_len, Ha.out.ok.small⟩ ⟨hotb.sl ucell_len, Hb.out.ok.small⟩ ⟨hotc.sl ucell_len, Hc.out.ok.small⟩).mono ?_
  rintro e u ⟨Ap, Cp, rfl, hNT⟩
  have hRp : ∀ a, Ap = some a → a.block ≠ Tp := fun a ha h => by
    have h1 := hNT.2.1 a.block ⟨a, ha, rfl⟩
    have h2 := HBp.out.lt
    have h3 := hs.size
    omega
  have hQp : ∀ a, Ap = some a → a.block ≠ Tq := fun a ha h => by
    have h1 := hNT.2.1 a.block ⟨a, ha, rfl⟩
    have h2 := HBq.out.lt
    have h3 := hs.size
    omega
  have hop := hNT.1
  have hs := hs.trans hNT.2.2 (fun _ _ h => h)
  clear hNT hota hotb hotc
  refine hK _ _ (Lat.mk_ (Frm.mono hs (fun _ _ h => h.elim))) ?_
  clear hK K
  have hBp := HBp.out.frm hs id
  have hcR0 : u.cell? ⟨Tp, 0, none⟩ = _ := hBp.cell 0
  have hcR1 : u.cell? ⟨Tp, 1, none⟩ = _ := hBp.cell 1
  have hfR0 := hBp.free 0
  have hfR1 := hBp.free 1
  have hlR := hBp.lt
  repeat (any_goals (first | go_big_quiet_step (fail) | quiet_step (fail)))
  refine wpQuiet_nil ?_
  refine effStep_plain rfl fun K hK => ?_
  go_simp
  refine hK _ _ (Lat.mk_ ?_) ?_
  · have hSR : S Tp := cast (congrFun HSS.out Tp) rfl
    have hF6 : Frm S wj u := Frm.mono hs (fun _ _ h => h.elim)
    exact (hF6.setCell (p := ⟨Tp, 0, none⟩) (.inl hSR) _).setCell (p := ⟨Tp, 1, none⟩) (.inl hSR) _
  clear hK K hcR0 hcR1 hfR0 hfR1 hlR
  clear la0 la1 lb0 lb1 lc0 lc1 lbl
  repeat (any_goals (first | go_big_quiet_step (fail) | quiet_step (fail)))
  refine wpQuiet_nil ?_
  refine list_world fun wk hwk => ?_
  replace HBp := Lib.hid (show Blk wk Tp 24 #[.int .i64 rn, .slice Ap rws.length Cp] by
    rw [hwk]
    have := (hBp.set 0 (.int .i64 rn)).set 1 (.slice Ap rws.length Cp)
    simpa using this)
  replace HBq := Lib.hid (show Blk wk _ _ _ by rw [hwk]; exact ((HBq.out.frm hs id).far (p := ⟨Tp, 0, none⟩) (Ne.symm hpq) (.int .i64 rn)).far (p := ⟨Tp, 1, none⟩) (Ne.symm hpq) (.slice Ap rws.length Cp))
  have HOp := Lib.hid (show OwnW wk _ _ _ _ by rw [hwk]; exact (Own.far (p := ⟨Tp, 0, none⟩) hop hRp (.int .i64 rn)).far (p := ⟨Tp, 1, none⟩) hRp (.slice Ap rws.length Cp))
  replace HS := Lib.hid (show Same w wk by rw [hwk]; exact ((HS.out.trans hs (fun _ _ h => h)).setNew 0 (.int .i64 rn) hTp).setNew 1 (.slice Ap rws.length Cp) hTp)
  clear hwk hs hBp hop hRp hSX HSS
  have la0 : wk.cell? ⟨bl, off, none⟩ = some (.int .i64 Na) := ((HS.out).cell (p := ⟨bl, off, none⟩) hbl id).trans HLa0.out
  have la1 : wk.cell? ⟨bl, off + 1, none⟩ = some (.slice Aa wsa.length Ca) := ((HS.out).cell (p := ⟨bl, off + 1, none⟩) hbl id).trans HLa1.out
  have lb0 : wk.cell? ⟨bl, off + 2, none⟩ = some (.int .i64 Nb) := ((HS.out).cell (p := ⟨bl, off + 2, none⟩) hbl id).trans HLb0.out
  have lb1 : wk.cell? ⟨bl, off + 3, none⟩ = some (.slice Ab wsb.length Cb) := ((HS.out).cell (p := ⟨bl, off + 3, none⟩) hbl id).trans HLb1.out
  have lc0 : wk.cell? ⟨bl, off + 4, none⟩ = some (.int .i64 Nc) := ((HS.out).cell (p := ⟨bl, off + 4, none⟩) hbl id).trans HLc0.out
  have lc1 : wk.cell? ⟨bl, off + 5, none⟩ = some (.slice Ac wsc.length Cc) := ((HS.out).cell (p := ⟨bl, off + 5, none⟩) hbl id).trans HLc1.out
  have lbl := Nat.lt_of_lt_of_le hbl (HS.out).size
  have cT0 : wk.cell? ⟨Tq, 0, none⟩ = _ := HBq.out.cell 0
  have lT := HBq.out.lt
  obtain ⟨S, hS⟩ : ∃ S : Nat → Prop, (fun b => b = Tq) = S := ⟨_, rfl⟩
  have hSX : ¬ S bl := by rw [← hS]; exact fun h => by have h : bl = Tq := h; omega
  have HSS := Lib.hid hS
  clear hS cT0 lT
  go_upto_region 14 with fail
  refine wp_phS S [([0, 1, 2, 3, 4, 5, 6, 7, 8], 9), ([10, 11, 12], 13), ([], 14)] (by kernel_rfl) (by kernel_rfl) ?_
  simp only [wpPh, pick, List.map_cons, List.map_nil, List.getD_cons_zero, List.getD_cons_succ]
  have hs : Same wk wk.drew := (Frm.refl _ _).drew
  repeat (any_goals (first | go_big_quiet_step (fail) | quiet_step (fail)))
  refine wpQuiet_nil ?_
  refine effStep_plain rfl fun K hK => ?_
  go_simp
  refine (HD.out  _ (Ha.out.ok.same (HS.out.trans hs (fun _ _ h => h))) (Hb.out.ok.same (HS.out.trans hs (fun _ _ h => h))) (Hc.out.ok.same (HS.out.trans hs (fun _ _ h => h)))).mono ?_
  rintro e u ⟨Aq, Cq, rfl, hNT⟩
  have hRq : ∀ a, Aq = some a → a.block ≠ Tq := fun a ha h => by
    have h1 := hNT.2.1 a.block ⟨a, ha, rfl⟩
    have h2 := HBq.out.lt
    have h3 := hs.size
    omega
  have hQq : ∀ a, Aq = some a → a.block ≠ Tp := fun a ha h => by
    have h1 := hNT.2.1 a.block ⟨a, ha, rfl⟩
    have h2 := HBp.out.lt
    have h3 := hs.size
    omega
  have hoq := hNT.1
  have hs := hs.trans hNT.2.2 (fun _ _ h => h)
  clear hNT 
  refine hK _ _ (Lat.mk_ (Frm.mono hs (fun _ _ h => h.elim))) ?_
  clear hK K
  have hBq := HBq.out.frm hs id
  have hcR0 : u.cell? ⟨Tq, 0, none⟩ = _ := hBq.cell 0
  have hcR1 : u.cell? ⟨Tq, 1, none⟩ = _ := hBq.cell 1
  have hfR0 := hBq.free 0
  have hfR1 := hBq.free 1
  have hlR := hBq.lt
  repeat (any_goals (first | go_big_quiet_step (fail) | quiet_step (fail)))
  refine wpQuiet_nil ?_
  refine effStep_plain rfl fun K hK => ?_
  go_simp
  refine hK _ _ (Lat.mk_ ?_) ?_
  · have hSR : S Tq := cast (congrFun HSS.out Tq) rfl
    have hF6 : Frm S wk u := Frm.mono hs (fun _ _ h => h.elim)
    exact (hF6.setCell (p := ⟨Tq, 0, none⟩) (.inl hSR) _).setCell (p := ⟨Tq, 1, none⟩) (.inl hSR) _
  clear hK K hcR0 hcR1 hfR0 hfR1 hlR
  clear la0 la1 lb0 lb1 lc0 lc1 lbl
  repeat (any_goals (first | go_big_quiet_step (fail) | quiet_step (fail)))
  refine wpQuiet_nil ?_
  refine list_world fun wl hwl => ?_
  replace HBq := Lib.hid (show Blk wl Tq 24 #[.int .i64 rn, .slice Aq rws.length Cq] by
    rw [hwl]
    have := (hBq.set 0 (.int .i64 rn)).set 1 (.slice Aq rws.length Cq)
    simpa using this)
  replace HBp := Lib.hid (show Blk wl _ _ _ by rw [hwl]; exact ((HBp.out.frm hs id).far (p := ⟨Tq, 0, none⟩) hpq (.int .i64 rn)).far (p := ⟨Tq, 1, none⟩) hpq (.slice Aq rws.length Cq))
  have HOq := Lib.hid (show OwnW wl _ _ _ _ by rw [hwl]; exact (Own.far (p := ⟨Tq, 0, none⟩) hoq hRq (.int .i64 rn)).far (p := ⟨Tq, 1, none⟩) hRq (.slice Aq rws.length Cq))
  replace HOp := Lib.hid (show OwnW wl _ _ _ _ by rw [hwl]; exact (Own.far (p := ⟨Tq, 0, none⟩) (Own.frm HOp.out hs (fun _ _ => id)) hQp (.int .i64 rn)).far (p := ⟨Tq, 1, none⟩) hQp (.slice Aq rws.length Cq))
  replace HS := Lib.hid (show Same w wl by rw [hwl]; exact ((HS.out.trans hs (fun _ _ h => h)).setNew 0 (.int .i64 rn) hTq).setNew 1 (.slice Aq rws.length Cq) hTq)
  clear hwl hs hBq hoq hRq hSX HSS
  have hcp0 : wl.cell? ⟨Tp, 0, none⟩ = some (.int .i64 rn) := HBp.out.cell 0
  have hcp1 : wl.cell? ⟨Tp, 1, none⟩ = some (.slice Ap rws.length Cp) := HBp.out.cell 1
  have hlp := HBp.out.lt
  have hcq0 : wl.cell? ⟨Tq, 0, none⟩ = some (.int .i64 rn) := HBq.out.cell 0
  have hcq1 : wl.cell? ⟨Tq, 1, none⟩ = some (.slice Aq rws.length Cq) := HBq.out.cell 1
  have hlq := HBq.out.lt
  go_wp2_with (fail)
  refine (alike_any rn Ap rws.length Cp rws re rn Aq rws.length Cq rws re wl (HOp.out.sl ucell_len) (HOq.out.sl ucell_len) hrl).mono ?_
  rintro e wm ⟨rfl, hsv⟩
  rw [sm_self, beq_self_eq_true, Bool.and_true]
  replace HS := Lib.hid (HS.out.trans hsv (fun _ _ h => h))
  replace HBp := Lib.hid (HBp.out.frm hsv id)
  replace HBq := Lib.hid (HBq.out.frm hsv id)
  clear hsv hcp0 hcp1 hlp hcq0 hcq1 hlq HOp HOq HP HD hrl hQp hQq
  go_wp2
  go_ret
  exact ⟨rfl, HS.out.to_below (Nat.le_refl _) (fun _ _ => id)⟩
theorem joins_walk (op : Nat) (Al : Option Addr) (Ln Cl : Nat) (w : World) (xs : List (TIn w)) (hop : op < 256) (h : Sl w 2 (fun x : TIn w => x.1.cells) Al Ln xs) :
    Calls Try.prog 6 #[.int .u8 op, .slice Al Ln Cl] w fun e w' => e = .returned (.bool true) ∧ Below w.heap.size w w' := by
  by_cases h3 : Ln < 3
  · have h3' : (Ln : Int) < 3 := by omega
    clear h
    go_enter Try.func6, Try.ntmps6
    go_wp2_with (fail)
    refine (awake_any w).mono ?_
    rintro e w2 ⟨rfl, hs⟩
    go_wp2
    go_ret
    exact ⟨rfl, hs.to_below (Nat.le_refl _) (fun _ _ => id)⟩
  · obtain ⟨bl, o, ⟨Na, Aa, Ca, wsa⟩, rfl, hbl, ha, la0, la1⟩ := tabs_at h (i := 0) (by omega)
    obtain ⟨_, _, ⟨Nb, Ab, Cb, wsb⟩, hA, _, hb, lb0, lb1⟩ := tabs_at h (i := 1) (by omega)
    injection hA with hA
    injection hA with h1 h2
    subst h1 h2
    obtain ⟨_, _, ⟨Nc, Ac, Cc, wsc⟩, hA, _, hc, lc0, lc1⟩ := tabs_at h (i := 2) (by omega)
    injection hA with hA
    injection hA with h1 h2
    subst h1 h2
    exact joins_walk3 op bl o Ln Cl Na Aa Ca wsa Nb Ab Cb wsb Nc Ac Cc wsc w hop (by omega) hbl ha hb hc (by simpa using la0) (by simpa using la1) lb0 lb1 lc0 lc1
end Go.Proofs.Ytlggmoghgoeiiaa
