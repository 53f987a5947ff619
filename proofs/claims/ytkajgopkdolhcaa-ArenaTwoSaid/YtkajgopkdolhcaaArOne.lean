/- One call of the book. -/
import Derived.Test.YtkajgopkdolhcaaArLooks
namespace Go.Proofs.Ytkajgopkdolhcaa
open Go.RowKit Go.Tk

structure AOp where
  kind : Int
  r : Int
  lo : Int
  hi : Int
  v : Int
  times : Int
  raw : Bool
def AOp.cells (o : AOp) : List Value := [.int .i64 o.kind, .int .i64 o.r, .int .i64 o.lo, .int .i64 o.hi, .int .i64 o.v, .int .i64 o.times, .bool o.raw]
def AOp.val (o : AOp) : Value := .agg #[.int .i64 o.kind, .int .i64 o.r, .int .i64 o.lo, .int .i64 o.hi, .int .i64 o.v, .int .i64 o.times, .bool o.raw]

theorem Stp.away {S S' : Nat → Prop} {w w' : World} (h : Stp S w w' S') {b : Nat} (hb : b < w.heap.size) (hs : ¬ S b) : ¬ S' b := fun h' => by
  rcases h.new b h' with h | h
  · exact hs h
  · omega
section
variable {w : World} {bb g d : Nat} {pl us : Int} {ls : List Pl} {fr : List Int} {es : List Pe} {S : Nat → Prop} {ks : List Int} {KA : Option Addr} {KC : Nat}
theorem Du.d0 (h : Du w g d pl us ls fr es S) : w.cell? ⟨d, 0, none⟩ = some (.int .i64 pl) := by
  obtain ⟨A, C, A', C', B, D, ha, hr, hS⟩ := h
  have := hr.blk.cell 0
  simpa using this
theorem Du.usedA (h : Du w g d pl us ls fr es S) : Calls Try.prog 10 #[.pointer (some ⟨g, 0, none⟩)] w fun e w' => e = .returned (.int .i64 us) ∧ Same w w' := by
  obtain ⟨A, C, A', C', B, D, ha, hr, hS⟩ := h
  exact ha.used.mono fun _ _ ⟨h1, h2⟩ => ⟨h1, h2 ▸ Frm.refl _ _⟩
theorem Du.placesA (h : Du w g d pl us ls fr es S) : Calls Try.prog 20 #[.pointer (some ⟨g, 0, none⟩)] w fun e w' => e = .returned (.int .i64 pl) ∧ Same w w' := by
  obtain ⟨A, C, A', C', B, D, ha, hr, hS⟩ := h
  exact ha.places.mono fun _ _ ⟨h1, h2⟩ => ⟨h1, h2 ▸ Frm.refl _ _⟩
theorem Du.usedR (h : Du w g d pl us ls fr es S) (l : ALnk pl us ls fr es) : Calls Try.prog 33 #[.pointer (some ⟨d, 0, none⟩)] w fun e w' => e = .returned (.int .i64 us) ∧ Same w w' := by
  obtain ⟨A, C, A', C', B, D, ha, hr, hS⟩ := h
  rw [l.us]
  exact hr.used.mono fun _ _ ⟨h1, h2⟩ => ⟨h1, h2 ▸ Frm.refl _ _⟩
/-- what the whole of a call leaves -/
def OnePost (T : Nat → Prop) (bb : Nat) (pl : Int) (K : Nat) (w w' : World) : Prop := ∃ T', Bk w' bb pl K T' ∧ Stp T w w' T'
theorem OnePost.same {T : Nat → Prop} {K : Nat} {w w' w'' : World} (h : OnePost T bb pl K w w') (hs : Same w' w'') : OnePost T bb pl K w w'' := by
  obtain ⟨T', h1, h2⟩ := h
  exact ⟨T', h1.frm hs (fun _ _ => id), h2.same hs⟩
theorem BkC.close {w0 wE : World} {T : Nat → Prop} {us' : Int} {ls' : List Pl} {fr' : List Int} {es' : List Pe} {S' : Nat → Prop} {ks' : List Int} {KA' : Option Addr} {KC' K : Nat} (hT : ∀ b, T b ↔ BFp bb S KA b)
    (hc : BkC wE bb g d pl us' ls' fr' es' S' ks' KA' KC') (hl : ALnk pl us' ls' fr' es') (hks : ks'.length ≤ K + 2) (hf : Frm T w0 wE) (hn : ∀ b, S' b → S b ∨ w0.heap.size ≤ b) (hk : ∀ b, rowOf KA' b → rowOf KA b ∨ w0.heap.size ≤ b) : OnePost T bb pl K w0 wE := by
  refine ⟨BFp bb S' KA', ⟨g, d, us', ls', fr', es', S', ks', KA', KC', hc, hl, hks, fun _ => Iff.rfl⟩, hf, fun b hb => ?_⟩
  rcases hb with h | h | h
  · exact .inl ((hT b).2 (.inl h))
  · rcases hk b h with h | h
    · exact .inl ((hT b).2 (.inr (.inl h)))
    · exact .inr h
  · rcases hn b h with h | h
    · exact .inl ((hT b).2 (.inr (.inr h)))
    · exact .inr h
/-- a turn of both states alone -/
theorem BkC.close1 {w0 w1 wE : World} {T : Nat → Prop} {us' : Int} {ls' : List Pl} {fr' : List Int} {es' : List Pe} {S' : Nat → Prop} {K : Nat} (hT : ∀ b, T b ↔ BFp bb S KA b) (h0 : Same w0 w1)
    (hc : BkC wE bb g d pl us' ls' fr' es' S' ks KA KC) (hl : ALnk pl us' ls' fr' es') (hks : ks.length ≤ K + 2) (hs : Stp S w1 wE S') : OnePost T bb pl K w0 wE := by
  refine hc.close hT hl hks ((h0.mono (S' := T) (fun _ _ h => h.elim)).trans hs.frm (fun i _ h => (hT i).2 (.inr (.inr h)))) (fun b hb => ?_) (fun b hb => .inl hb)
  have := h0.size
  rcases hs.new b hb with h | h
  · exact .inl h
  · right; omega

set_option maxRecDepth 100000 in
set_option maxHeartbeats 4000000 in
theorem one_any (o : AOp) {T : Nat → Prop} {K : Nat} (h : Bk w bb pl K T) (hK : K ≤ 1000) :
    Calls Try.prog 14 #[.pointer (some ⟨bb, 0, none⟩), o.val] w fun e w' => e = .returned (.bool true) ∧ OnePost T bb pl (K + 1) w w' := by
  obtain ⟨g, d, us, ls, fr, es, S, ks, KA, KC, hb, l, hks, hT⟩ := h
  have H := Lib.hid hb
  have HT := Lib.hid hT
  have hbb := hb.blk.lt
  have hgb : ¬ S w.heap.size := fun hs => by have := hb.du.lt _ hs; omega
  have hgb2 : ¬ rowOf KA w.heap.size := fun hs => by have := (hb.rowne _ hs).2; omega
  clear hb hT
  unfold AOp.val
  go_enter Try.func14, Try.ntmps14
  go_wp2_with (fail)
  refine call_world fun w1 hw1 => ?_
  have hs1 : Same w w1 := by rw [hw1]; exact (Frm.refl _ _).alloc _
  have hX := Blk.new w 45 #[.int .i64 o.kind, .int .i64 o.r, .int .i64 o.lo, .int .i64 o.hi, .int .i64 o.v, .int .i64 o.times, .bool o.raw]
  rw [← hw1] at hX
  clear hw1
  have h1 := H.out.same hs1
  obtain ⟨rr, hrr⟩ : ∃ rr, pkR ks o.r o.raw = rr := ⟨_, rfl⟩
  obtain ⟨rl, hrl⟩ : ∃ rr, pkR ks o.lo o.raw = rr := ⟨_, rfl⟩
  obtain ⟨rh, hrh⟩ : ∃ rr, pkR ks o.hi o.raw = rr := ⟨_, rfl⟩
  have hR0 := pkR_range h1 o.r o.raw
  have hL0 := pkR_range h1 o.lo o.raw
  have hH0 := pkR_range h1 o.hi o.raw
  rw [hrr] at hR0
  rw [hrl] at hL0
  rw [hrh] at hH0
  refine (h1.place (by omega) o.r o.raw).mono ?_
  rintro e w2 ⟨rfl, hs2⟩
  rw [hrr]
  have h2 := h1.same hs2
  have PL := fun w' (hw : Same w2 w') => (h2.same hw).place (by omega) o.lo o.raw
  have PH := fun w' (hw : Same w2 w') => (h2.same hw).place (by omega) o.hi o.raw
  rw [hrl] at PL
  rw [hrh] at PH
  have hX2 := hX.frm hs2 id
  have x0 := hX2.cell 0
  have x2 := hX2.cell 2
  have x3 := hX2.cell 3
  have x4 := hX2.cell 4
  have x6 := hX2.cell 6
  have hxl := hX2.lt
  simp at x0 x2 x3 x4 x6
  have hsw : Same w w2 := hs1.trans hs2 (fun _ _ h => h)
  generalize w.heap.size = gb at *
  have HX := Lib.hid hX2
  have H2 := Lib.hid h2
  have HSW := Lib.hid hsw
  have HPL := Lib.hid PL
  have HPH := Lib.hid PH
  have HRR := Lib.hid hrr
  clear h1 h2 hX hX2 hs1 hs2 hsw PL PH hrr hrl hrh
  go_upto_region 2 with fail
  go_cut [6] (fun s6 wx => ∃ g6 : Nat, s6 = .pointer (some ⟨g6, 0, none⟩) ∧ Blk wx g6 34 #[.int .i64 o.v, .int .u32 rl, .int .u32 rh] ∧ Same w2 wx ∧ w2.heap.size ≤ g6)
  case first =>
    refine wp_tS (fun _ => False) (.q [0, 1, 2, 3, 4, 5, 6, 8, 9, 10, 11, 12] (.fork 7 (.fork 13 (.q [14] (.step 15 (.last 16))) 15 (.step 13 (.q [14] (.last 16)))) 15 (.step 7 (.step 13 (.q [14] (.last 16)))))) (by kernel_rfl) (by kernel_rfl) ?_
    simp only [wpT, pick, List.map_cons, List.map_nil, List.getD_cons_zero, List.getD_cons_succ]
    repeat (any_goals (first | go_big_quiet_step (fail) | quiet_step (fail)))
    refine wpQuiet_nil ?_
    have hqd : Same w2 w2.drew := (Frm.refl _ _).drew
    refine ⟨?_, ?_⟩
    · refine effStep_plain rfl fun K hK => ?_
      go_simp
      refine (HPL.out _ hqd).mono ?_
      rintro x v1 ⟨rfl, hv1⟩
      have q1 : Same w2 v1 := Frm.trans hqd hv1 (fun _ _ h => h)
      refine hK _ _ (Lat.mk_ q1) ?_
      clear hK K
      refine ⟨?_, ?_⟩
      · refine effStep_plain rfl fun K hK => ?_
        go_simp
        refine (HPH.out _ q1).mono ?_
        rintro x v2 ⟨rfl, hv2⟩
        have q2 : Same w2 v2 := Frm.trans q1 hv2 (fun _ _ h => h)
        refine hK _ _ (Lat.mk_ q2) ?_
        clear hK K
        repeat (any_goals (first | go_big_quiet_step (fail) | quiet_step (fail)))
        refine wpQuiet_nil ?_
        refine effStep_plain rfl fun K hK => ?_
        go_simp
        refine hK _ _ (Lat.mk_ (Frm.alloc q2 _)) ?_
        clear hK K
        go_wp2_with fail
        go_meet
        exact ⟨v2.heap.size, rfl, Blk.new _ _ _, Frm.alloc q2 _, q2.size⟩
      · refine effStep_plain rfl fun K hK => ?_
        go_simp
        refine hK _ _ (Lat.mk_ (Frm.alloc q1 _)) ?_
        clear hK K
        have hg6 : w2.heap.size ≤ v1.heap.size := q1.size
        refine effStep_plain rfl fun K hK => ?_
        go_simp
        refine (HPH.out _ (Frm.alloc q1 _)).mono ?_
        rintro x v2 ⟨rfl, hv2⟩
        have q2 : Same w2 v2 := Frm.trans (Frm.alloc q1 _) hv2 (fun _ _ h => h)
        have hz := (Blk.new v1 34 #[.int .i64 0, .int .u32 0, .int .u32 0]).frm hv2 id
        refine hK _ _ (Lat.mk_ q2) ?_
        clear hK K
        repeat (any_goals (first | go_big_quiet_step (fail) | quiet_step (fail)))
        refine wpQuiet_nil ?_
        have z0 := hz.free 0
        have z1 := hz.free 1
        have z2 := hz.free 2
        have zc0 := hz.cell 0
        have zc1 := hz.cell 1
        have zc2 := hz.cell 2
        have zl := hz.lt
        simp at zc0 zc1 zc2
        generalize v1.heap.size = g6 at *
        go_wp2_with fail
        go_meet
        exact ⟨g6, rfl, by simpa using ((hz.set 0 (.int .i64 o.v)).set 1 (.int .u32 rl)).set 2 (.int .u32 rh), ((q2.setNew 0 _ hg6).setNew 1 _ hg6).setNew 2 _ hg6, hg6⟩
    · refine effStep_plain rfl fun K hK => ?_
      go_simp
      refine hK _ _ (Lat.mk_ (Frm.alloc hqd _)) ?_
      clear hK K
      refine effStep_plain rfl fun K hK => ?_
      go_simp
      refine (HPL.out _ (Frm.alloc hqd _)).mono ?_
      rintro x v1 ⟨rfl, hv1⟩
      have q1 : Same w2 v1 := Frm.trans (Frm.alloc hqd _) hv1 (fun _ _ h => h)
      refine hK _ _ (Lat.mk_ q1) ?_
      clear hK K
      have hz1 : Blk v1 w2.heap.size 34 #[.int .i64 0, .int .u32 0, .int .u32 0] := (Blk.new w2.drew _ _).frm hv1 id
      refine effStep_plain rfl fun K hK => ?_
      go_simp
      refine (HPH.out _ q1).mono ?_
      rintro x v2 ⟨rfl, hv2⟩
      have q2 : Same w2 v2 := Frm.trans q1 hv2 (fun _ _ h => h)
      have hz := hz1.frm hv2 id
      refine hK _ _ (Lat.mk_ q2) ?_
      clear hK K
      repeat (any_goals (first | go_big_quiet_step (fail) | quiet_step (fail)))
      refine wpQuiet_nil ?_
      have z0 := hz.free 0
      have z1 := hz.free 1
      have z2 := hz.free 2
      have zc0 := hz.cell 0
      have zc1 := hz.cell 1
      have zc2 := hz.cell 2
      have zl := hz.lt
      simp at zc0 zc1 zc2
      generalize hge : w2.heap.size = g6 at hz z0 z1 z2 zc0 zc1 zc2 zl ⊢
      have hg6 : w2.heap.size ≤ g6 := Nat.le_of_eq hge
      clear hge
      go_wp2_with fail
      go_meet
      exact ⟨g6, rfl, by simpa using ((hz.set 0 (.int .i64 o.v)).set 1 (.int .u32 rl)).set 2 (.int .u32 rh), ((q2.setNew 0 _ hg6).setNew 1 _ hg6).setNew 2 _ hg6, hg6⟩
  case rest =>
    obtain ⟨g6, rfl, hn6, hs6, hg6⟩ := hcut
    have h6 := H2.out.same hs6
    have hsw := HSW.out.trans hs6 (fun _ _ h => h)
    have hX6 := HX.out.frm hs6 id
    have b0 := h6.blk.cell 0
    have b1 := h6.blk.cell 1
    have hb6 := h6.blk.lt
    have n0 := hn6.cell 0
    have n1 := hn6.cell 1
    have n2 := hn6.cell 2
    have hnl := hn6.lt
    have y0 := hX6.cell 0
    have y5 := hX6.cell 5
    have hxl6 := hX6.lt
    have hbS : ¬ S bb := h6.bap
    have hgS6 : ¬ S g6 := fun hs => by have := H2.out.du.lt _ hs; omega
    simp at b0 b1 n0 n1 n2 y0 y5
    have H6 := Lib.hid h6
    have HN6 := Lib.hid hn6
    have HSW6 := Lib.hid hsw
    have HX6 := Lib.hid hX6
    clear h6 hn6 hsw hX6 HX H2 HSW HPL HPH HRR x0 x2 x3 x4 x6 hxl hs6 H
    generalize o.kind = kd at *
    by_cases hk1 : kd = 1
    · subst hk1
      obtain ⟨q, e, us', ls', fr', hall, hq0, hq1, hcall, hres⟩ := alloc_duo (g := g) (d := d) l ⟨o.v, rl, rh⟩ hL0.1 hL0.2 hH0.1 hH0.2
      have HALL := Lib.hid hall
      have HCALL := Lib.hid hcall
      have HRES := Lib.hid hres
      clear hall hcall hres
      go_upto_region 5 with fail
      refine wp_phS S [([0, 1, 2, 3, 4], 5), ([6, 7, 8, 9], 10)] (by kernel_rfl) (by kernel_rfl) ?_
      simp only [wpPh, pick, List.map_cons, List.map_nil, List.getD_cons_zero, List.getD_cons_succ]
      repeat (any_goals (first | go_big_quiet_step (fail) | quiet_step (fail)))
      refine wpQuiet_nil ?_
      refine effStep_plain rfl fun K hK => ?_
      go_simp
      refine (HCALL.out _ S (H6.out.du.same ((Frm.refl _ _).drew))).mono ?_
      rintro x w7 ⟨rfl, S1, hd1, hs1⟩
      have hs1' : Stp S wc w7 S1 := (Stp.of_same ((Frm.refl _ _).drew)).trans hs1
      refine hK _ _ (Lat.mk_ hs1'.frm) ?_
      clear hK K hs1
      repeat (any_goals (first | go_big_quiet_step (fail) | quiet_step (fail)))
      refine wpQuiet_nil ?_
      have h7 := H6.out.step hd1 hs1'
      have hn7 := HN6.out.frm hs1'.frm hgS6
      have c0 := h7.blk.cell 0
      have c1 := h7.blk.cell 1
      have cbb := h7.blk.lt
      have m0 := hn7.cell 0
      have m1 := hn7.cell 1
      have m2 := hn7.cell 2
      have ml := hn7.lt
      simp at c0 c1 m0 m1 m2
      have H7 := Lib.hid h7
      have HN7 := Lib.hid hn7
      have HS1 := Lib.hid hs1'
      have da := fun w' (hw : Same w7 w') => docAlloc_duo ⟨o.v, rl, rh⟩ (hd1.same hw)
      rw [HALL.out] at da
      have DA := Lib.hid da
      clear h7 hn7 hs1' hd1 da
      go_upto_region 6 with fail
      refine wp_quiet (by kernel_rfl) (by kernel_rfl) ?_
      repeat (any_goals (first | go_big_quiet_step ((go_at_call 26; exact quiet_call (DA.out _ (more_same _ _)))) | quiet_step ((go_at_call 26; exact quiet_call (DA.out _ (more_same _ _))))))
      refine wpQuiet_nil ?_
      rintro _ ⟨qz, rfl⟩
      have hm8 : Same w7 (more w7 qz) := more_same _ _
      have h8 := H7.out.same hm8
      have hn8 := HN7.out.frm hm8 id
      generalize more w7 qz = w8 at *
      have f0 := h8.blk.cell 0
      have f1 := h8.blk.cell 1
      have f2 := h8.blk.cell 2
      have ff2 := h8.blk.free 2
      have fbb := h8.blk.lt
      have k0 := hn8.cell 0
      have k1 := hn8.cell 1
      have k2 := hn8.cell 2
      have kl := hn8.lt
      simp at f0 f1 f2 k0 k1 k2
      have hbS1 : ¬ S1 bb := h8.bap
      have hgS1 : ¬ S1 g6 := HS1.out.away hnl hgS6
      have HS8 := Lib.hid (HS1.out.same hm8)
      have H8 := Lib.hid h8
      clear h8 hm8 hn8 c0 c1 cbb m0 m1 m2 ml DA HCALL
      obtain ⟨he, hq00, l8⟩ | ⟨he, hq2, hq3, hf, l8⟩ := HRES.out
      · have he' : (e != 0) = true := by simpa using he
        have he2 : (e == 0) = false := by simpa using he
        subst hq00
        have hE := H8.out
        have lE := l8
        have hone := H8.out.close1 (K := K + 1) HT.out HSW6.out l8 (by omega) HS8.out
        clear he
        have HEE := Lib.hid hE
        have LEE := Lib.hid lE
        have HONE := Lib.hid hone
        clear hE lE hone
        go_upto_region 36 with fail
        generalize w8 = wE at HEE HONE ⊢
        have hE := HEE.out
        have e0 := hE.blk.cell 0
        have e1 := hE.blk.cell 1
        have ebb := hE.blk.lt
        have ed0 := hE.du.d0
        have edl := hE.du.dlt
        simp at e0 e1
        have ua := fun w' (hw : Same wE w') => (hE.du.same hw).usedA
        have ur := fun w' (hw : Same wE w') => (hE.du.same hw).usedR LEE.out
        have pa := fun w' (hw : Same wE w') => (hE.du.same hw).placesA
        have UA := Lib.hid ua
        have UR := Lib.hid ur
        have PA := Lib.hid pa
        clear hE ua ur pa
        refine wp_quiet (by kernel_rfl) (by kernel_rfl) ?_
        repeat (any_goals (first | go_big_quiet_step ((first | (go_at_call 10; exact quiet_call (UA.out _ (more_same _ _))) | (go_at_call 33; exact quiet_call (UR.out _ (more_same _ _))) | (go_at_call 20; exact quiet_call (PA.out _ (more_same _ _))))) | quiet_step ((first | (go_at_call 10; exact quiet_call (UA.out _ (more_same _ _))) | (go_at_call 33; exact quiet_call (UR.out _ (more_same _ _))) | (go_at_call 20; exact quiet_call (PA.out _ (more_same _ _)))))))
        refine wpQuiet_nil ?_
        rintro _ ⟨qz, rfl⟩
        go_wp2
        go_ret
        exact ⟨by simp, HONE.out.same (more_same _ _)⟩
      · subst he
        have hlen8 := l8.len
        have hroom8 := l8.room
        have hpl8 := l8.pl1
        simp at hlen8
        have L8 := Lib.hid l8
        have HF := Lib.hid hf
        clear l8 hf
        go_upto_region 10 with fail
        refine wp_phS S1 [([0, 1, 2, 3, 4, 5], 6), ([], 7)] (by kernel_rfl) (by kernel_rfl) ?_
        simp only [wpPh, pick, List.map_cons, List.map_nil, List.getD_cons_zero, List.getD_cons_succ]
        repeat (any_goals (first | go_big_quiet_step (fail) | quiet_step (fail)))
        refine wpQuiet_nil ?_
        refine effStep_plain rfl fun K hK => ?_
        go_simp
        have ht := take_duo (w := w8.drew) (g := g) (d := d) (us := us') (ls := ls') (fr := fr') (S := S1) ⟨o.v, rl, rh⟩ q hq2 hq3 hq1 HF.out (by omega) (H8.out.du.same ((Frm.refl _ _).drew))
        refine ht.mono ?_
        rintro x w9 ⟨rfl, S2, hd2, hs2⟩
        clear ht
        have hs2' : Stp S1 w8 w9 S2 := (Stp.of_same ((Frm.refl _ _).drew)).trans hs2
        refine hK _ _ (Lat.mk_ hs2'.frm) ?_
        clear hK K hs2
        refine wpQuiet_nil ?_
        have h9 := H8.out.step hd2 hs2'
        have c0 := h9.blk.cell 0
        have c2 := h9.blk.cell 2
        have cf2 := h9.blk.free 2
        have cbb := h9.blk.lt
        simp at c0 c2
        have HS9 := Lib.hid (HS8.out.trans hs2')
        have H9 := Lib.hid h9
        clear h9 hd2 hs2' f0 f1 f2 ff2 fbb k0 k1 k2 kl
        go_upto_region 12 with fail
        refine wp_read 6 ?_
        simp only [List.take_succ_cons, List.take_zero, List.drop_succ_cons, List.drop_zero]
        repeat (any_goals (first | go_big_quiet_step (fail) | quiet_step (fail)))
        refine wpQuiet_nil ?_
        refine wpList_plain rfl fun K hK => ?_
        go_simp
        refine hK _ _ ?_
        clear hK K
        refine list_world fun w10 hw10 => ?_
        have hN := Blk.new w9 30 #[.int .u32 q]
        have hs10 : Same w9 w10 := by rw [hw10]; exact (Frm.refl _ _).alloc _
        rw [← hw10] at hN
        clear hw10
        have h10 := H9.out.same hs10
        refine Own.append_list (f := fun x => [rc x]) rfl (.tmp 84) (.tmp 86) _ rfl Try.underlying28 info_ref rfl (by omega) rfl h10.own (fun _ => rfl) q w9.heap.size 1 rfl hN (by simp [Value.oneCell', rc]) (by unfold maxLen; omega) (by omega) ?_
        intro gg cap w11 hK11 hg11 hat
        have hf11 : Frm (fun b => rowOf KA b) w10 w11 := (Frm.refl _ _).grown hg11 (fun g hg => .inl (ownBlock_row.1 hg))
        have hb11 := h10.blk.frm hf11 (fun hr => (h10.rowne _ hr).1 rfl)
        have hd11 := h10.du.frm hf11 (fun b hb hr => h10.kap b hr hb)
        have y2 := hb11.cell 2
        have yf2 := hb11.free 2
        have yl := hb11.lt
        simp at y2
        have hgg : gg ≠ bb := hK11.ne_blk hb11 (by decide) _ rfl
        have hggS : ¬ S2 gg := fun hS => by
          rcases hat with h | h
          · exact h10.kap _ (ownBlock_row.1 h) hS
          · have := h10.du.lt _ hS
            omega
        have hnew : rowOf KA gg ∨ w9.heap.size ≤ gg := by
          have := hs10.size
          rcases hat with h | h
          · exact .inl (ownBlock_row.1 h)
          · right; omega
        have hrne := fun b hb => (h10.rowne b hb).1
        have hbapS := h10.bap
        have hkb := h10.kb
        have hfw : Frm (BFp bb S2 KA) w9 ((w11.setCell ⟨bb, 2, none⟩ (.slice (some ⟨gg, 0, none⟩) (ks.length + 1) cap))) :=
          ((hs10.mono (S' := BFp bb S2 KA) (fun _ _ h => h.elim)).trans hf11 (fun i _ h => .inr (.inl h))).setCell (.inl (.inl rfl)) _
        have hE : BkC (w11.setCell ⟨bb, 2, none⟩ (.slice (some ⟨gg, 0, none⟩) (ks.length + 1) cap)) bb g d pl us' ls' fr' (es ++ [⟨q, ⟨o.v, rl, rh⟩, 0⟩]) S2 (ks ++ [q]) (some ⟨gg, 0, none⟩) cap := by
          refine ⟨?_, ?_, ?_, ?_, hbapS, ?_, by simp⟩
          · have := hb11.set 2 (.slice (some ⟨gg, 0, none⟩) (ks.length + 1) cap)
            simpa using this
          · exact hd11.frm (T := fun b => b = bb) ((Frm.refl _ _).set 2 _ rfl) (fun b hb h => hbapS (h ▸ hb))
          · have := hK11.far (p := ⟨bb, 2, none⟩) (fun a ha => by injection ha with ha; subst ha; exact hgg) (.slice (some ⟨gg, 0, none⟩) (ks.length + 1) cap)
            simpa using this
          · rintro b ⟨a, ha, rfl⟩ hS
            injection ha with ha
            subst ha
            exact hggS hS
          · intro r hr
            rcases List.mem_append.1 hr with hr | hr
            · exact hkb r hr
            · simp at hr; subst hr; exact ⟨by omega, by omega⟩
        have lE := L8.out
        have hone : OnePost T bb pl (K + 1) w (w11.setCell ⟨bb, 2, none⟩ (.slice (some ⟨gg, 0, none⟩) (ks.length + 1) cap)) := by
          have z0 := HSW6.out.size
          have z1 := HS9.out.frm.size
          refine hE.close (K := K + 1) HT.out L8.out (by simp; omega) (((HSW6.out.mono (S' := T) (fun _ _ h => h.elim)).trans HS9.out.frm (fun i _ h => (HT.out i).2 (.inr (.inr h)))).trans hfw (fun i hi h => ?_)) (fun b hb => ?_) (fun b hb => ?_)
          · rcases h with h | h | h
            · exact (HT.out i).2 (.inl h)
            · exact (HT.out i).2 (.inr (.inl h))
            · rcases HS9.out.new i h with h | h
              · exact (HT.out i).2 (.inr (.inr h))
              · omega
          · rcases HS9.out.new b hb with h | h
            · exact .inl h
            · right; omega
          · obtain ⟨a, ha, rfl⟩ := hb
            injection ha with ha
            subst ha
            rcases hnew with h | h
            · exact .inl h
            · right; simp only; omega
        clear hfw hnew hggS hgg hrne hbapS hkb hd11 hb11 hf11 hat hg11 hK11 h10 hs10 hN HS9 H9 c0 c2 cf2 cbb
        have HEE := Lib.hid hE
        have LEE := Lib.hid lE
        have HONE := Lib.hid hone
        clear hE lE hone
        go_upto_region 36 with fail
        generalize (w11.setCell ⟨bb, 2, none⟩ (.slice (some ⟨gg, 0, none⟩) (ks.length + 1) cap)) = wE at HEE HONE ⊢
        have hE := HEE.out
        have e0 := hE.blk.cell 0
        have e1 := hE.blk.cell 1
        have ebb := hE.blk.lt
        have ed0 := hE.du.d0
        have edl := hE.du.dlt
        simp at e0 e1
        have ua := fun w' (hw : Same wE w') => (hE.du.same hw).usedA
        have ur := fun w' (hw : Same wE w') => (hE.du.same hw).usedR LEE.out
        have pa := fun w' (hw : Same wE w') => (hE.du.same hw).placesA
        have UA := Lib.hid ua
        have UR := Lib.hid ur
        have PA := Lib.hid pa
        clear hE ua ur pa
        refine wp_quiet (by kernel_rfl) (by kernel_rfl) ?_
        repeat (any_goals (first | go_big_quiet_step ((first | (go_at_call 10; exact quiet_call (UA.out _ (more_same _ _))) | (go_at_call 33; exact quiet_call (UR.out _ (more_same _ _))) | (go_at_call 20; exact quiet_call (PA.out _ (more_same _ _))))) | quiet_step ((first | (go_at_call 10; exact quiet_call (UA.out _ (more_same _ _))) | (go_at_call 33; exact quiet_call (UR.out _ (more_same _ _))) | (go_at_call 20; exact quiet_call (PA.out _ (more_same _ _)))))))
        refine wpQuiet_nil ?_
        rintro _ ⟨qz, rfl⟩
        go_wp2
        go_ret
        exact ⟨by simp, HONE.out.same (more_same _ _)⟩
    · have hk1' : (kd == 1) = false := by simpa using hk1
      clear hk1
      by_cases hk2 : kd = 2
      · subst hk2
        obtain ⟨e, us', ls', fr', es', l', hu, hv⟩ := free_duo (g := g) (d := d) l rr hR0.1 hR0.2
        have HU := Lib.hid hu
        have HV := Lib.hid hv
        clear hu hv
        go_upto_region 14 with fail
        refine wp_phS S [([0, 1, 2, 3, 4, 6, 7, 8, 9, 10], 5), ([], 11), ([], 12)] (by kernel_rfl) (by kernel_rfl) ?_
        simp only [wpPh, pick, List.map_cons, List.map_nil, List.getD_cons_zero, List.getD_cons_succ]
        repeat (any_goals (first | go_big_quiet_step (fail) | quiet_step (fail)))
        refine wpQuiet_nil ?_
        refine effStep_plain rfl fun K hK => ?_
        go_simp
        refine (HU.out _ S (H6.out.du.same ((Frm.refl _ _).drew))).mono ?_
        rintro x w7 ⟨rfl, S1, hd1, hs1⟩
        have hs1' : Stp S wc w7 S1 := (Stp.of_same ((Frm.refl _ _).drew)).trans hs1
        have HD1 := Lib.hid hd1
        have HS1 := Lib.hid hs1'
        refine hK _ _ (Lat.mk_ hs1'.frm) ?_
        clear hK K hd1 hs1 hs1'
        refine wpQuiet_nil ?_
        refine effStep_plain rfl fun K hK => ?_
        go_simp
        refine (HV.out _ S1 HD1.out).mono ?_
        rintro x w8 ⟨rfl, S2, hd2, hs2⟩
        have hs2' : Stp S wc w8 S2 := HS1.out.trans hs2
        have HD2 := Lib.hid hd2
        have HS2 := Lib.hid hs2'
        refine hK _ _ (Lat.mk_ hs2'.frm) ?_
        clear hK K hd2 hs2 hs2'
        refine wpQuiet_nil ?_
        have hE := H6.out.step HD2.out HS2.out
        have lE := l'
        have hone := hE.close1 (K := K + 1) HT.out HSW6.out l' (by omega) HS2.out
        have HEE := Lib.hid hE
        have LEE := Lib.hid lE
        have HONE := Lib.hid hone
        clear hE lE hone
        go_upto_region 36 with fail
        generalize w8 = wE at HEE HONE ⊢
        have hE := HEE.out
        have e0 := hE.blk.cell 0
        have e1 := hE.blk.cell 1
        have ebb := hE.blk.lt
        have ed0 := hE.du.d0
        have edl := hE.du.dlt
        simp at e0 e1
        have ua := fun w' (hw : Same wE w') => (hE.du.same hw).usedA
        have ur := fun w' (hw : Same wE w') => (hE.du.same hw).usedR LEE.out
        have pa := fun w' (hw : Same wE w') => (hE.du.same hw).placesA
        have UA := Lib.hid ua
        have UR := Lib.hid ur
        have PA := Lib.hid pa
        clear hE ua ur pa
        refine wp_quiet (by kernel_rfl) (by kernel_rfl) ?_
        repeat (any_goals (first | go_big_quiet_step ((first | (go_at_call 10; exact quiet_call (UA.out _ (more_same _ _))) | (go_at_call 33; exact quiet_call (UR.out _ (more_same _ _))) | (go_at_call 20; exact quiet_call (PA.out _ (more_same _ _))))) | quiet_step ((first | (go_at_call 10; exact quiet_call (UA.out _ (more_same _ _))) | (go_at_call 33; exact quiet_call (UR.out _ (more_same _ _))) | (go_at_call 20; exact quiet_call (PA.out _ (more_same _ _)))))))
        refine wpQuiet_nil ?_
        rintro _ ⟨qz, rfl⟩
        go_wp2
        go_ret
        exact ⟨by simp, HONE.out.same (more_same _ _)⟩
      · have hk2' : (kd == 2) = false := by simpa using hk2
        clear hk2
        by_cases hk3 : kd = 3
        · subst hk3
          obtain ⟨n, e, hg1, hg2⟩ := get_duo (g := g) (d := d) l rr hR0.1 hR0.2
          have G1 := Lib.hid hg1
          have G2 := Lib.hid hg2
          clear hg1 hg2
          go_wp2_with (fail)
          refine (G1.out _ S H6.out.du).mono ?_
          rintro x v1 ⟨rfl, hs1⟩
          have h1 := H6.out.same hs1
          have d1 := h1.blk.cell 1
          have hb1 := h1.blk.lt
          simp at d1
          have H1 := Lib.hid h1
          have HS1 := Lib.hid hs1
          clear h1 hs1 b0 b1 hb6
          unfold Nd.val
          go_wp2_with (fail)
          refine call_world fun v2 hv2 => ?_
          have hX : Blk v2 v1.heap.size 34 #[.int .i64 n.v, .int .u32 n.lo, .int .u32 n.hi] := by rw [hv2]; exact Blk.new _ _ _
          have hs2 : Same wc v2 := by rw [hv2]; exact HS1.out.alloc _
          clear hv2
          refine (G2.out _ S (H6.out.du.same hs2)).mono ?_
          rintro x v3 ⟨rfl, hs3⟩
          have hX3 := hX.frm hs3 id
          have hs3' : Same wc v3 := hs2.trans hs3 (fun _ _ h => h)
          generalize v1.heap.size = g5 at *
          have HX3 := Lib.hid hX3
          have HS3 := Lib.hid hs3'
          clear hX hX3 hs2 hs3 hs3' d1 hb1 H1 HS1
          have x0 := HX3.out.cell 0
          have x1 := HX3.out.cell 1
          have x2 := HX3.out.cell 2
          have xl3 := HX3.out.lt
          simp at x0 x1 x2
          unfold Nd.val
          have hnn : ∀ wq, (binOp .neq 34 (.agg #[.int .i64 n.v, .int .u32 n.lo, .int .u32 n.hi]) (.agg #[.int .i64 n.v, .int .u32 n.lo, .int .u32 n.hi])).run Try.prog wq = .ok (.bool false) wq := fun wq => by
            have := neq_nd n n wq
            simpa [Nd.val] using this
          have hE := H6.out.same (HS3.out.alloc (.cells #[.int .i64 n.v, .int .u32 n.lo, .int .u32 n.hi] 34))
          have lE := l
          have hone := hE.close1 (K := K + 1) HT.out HSW6.out l (by omega) (.of_same (HS3.out.alloc _))
          have HEE := Lib.hid hE
          have LEE := Lib.hid lE
          have HONE := Lib.hid hone
          clear hE lE hone
          go_upto_region 36 with fail
          generalize (v3.alloc (.cells #[.int .i64 n.v, .int .u32 n.lo, .int .u32 n.hi] 34)) = wE at HEE HONE ⊢
          have hE := HEE.out
          have e0 := hE.blk.cell 0
          have e1 := hE.blk.cell 1
          have ebb := hE.blk.lt
          have ed0 := hE.du.d0
          have edl := hE.du.dlt
          simp at e0 e1
          have ua := fun w' (hw : Same wE w') => (hE.du.same hw).usedA
          have ur := fun w' (hw : Same wE w') => (hE.du.same hw).usedR LEE.out
          have pa := fun w' (hw : Same wE w') => (hE.du.same hw).placesA
          have UA := Lib.hid ua
          have UR := Lib.hid ur
          have PA := Lib.hid pa
          clear hE ua ur pa
          refine wp_quiet (by kernel_rfl) (by kernel_rfl) ?_
          repeat (any_goals (first | go_big_quiet_step ((first | (go_at_call 10; exact quiet_call (UA.out _ (more_same _ _))) | (go_at_call 33; exact quiet_call (UR.out _ (more_same _ _))) | (go_at_call 20; exact quiet_call (PA.out _ (more_same _ _))))) | quiet_step ((first | (go_at_call 10; exact quiet_call (UA.out _ (more_same _ _))) | (go_at_call 33; exact quiet_call (UR.out _ (more_same _ _))) | (go_at_call 20; exact quiet_call (PA.out _ (more_same _ _)))))))
          refine wpQuiet_nil ?_
          rintro _ ⟨qz, rfl⟩
          go_wp2
          go_ret
          exact ⟨by simp, HONE.out.same (more_same _ _)⟩
        · have hk3' : (kd == 3) = false := by simpa using hk3
          clear hk3
          by_cases hk4 : kd = 4
          · subst hk4
            obtain ⟨e, us', ls', fr', es', l', hu, hv⟩ := set_duo (g := g) (d := d) l rr ⟨o.v, rl, rh⟩ hR0.1 hR0.2 hL0.1 hL0.2 hH0.1 hH0.2
            have HU := Lib.hid hu
            have HV := Lib.hid hv
            clear hu hv
            go_upto_region 22 with fail
            refine wp_phS S [([0, 1, 2, 3, 4, 5, 7, 8, 9, 10, 11, 12], 6), ([], 13), ([], 14)] (by kernel_rfl) (by kernel_rfl) ?_
            simp only [wpPh, pick, List.map_cons, List.map_nil, List.getD_cons_zero, List.getD_cons_succ]
            repeat (any_goals (first | go_big_quiet_step (fail) | quiet_step (fail)))
            refine wpQuiet_nil ?_
            refine effStep_plain rfl fun K hK => ?_
            go_simp
            refine (HU.out _ S (H6.out.du.same ((Frm.refl _ _).drew))).mono ?_
            rintro x w7 ⟨rfl, S1, hd1, hs1⟩
            have hs1' : Stp S wc w7 S1 := (Stp.of_same ((Frm.refl _ _).drew)).trans hs1
            have HD1 := Lib.hid hd1
            have HS1 := Lib.hid hs1'
            refine hK _ _ (Lat.mk_ hs1'.frm) ?_
            clear hK K hd1 hs1 hs1'
            refine wpQuiet_nil ?_
            refine effStep_plain rfl fun K hK => ?_
            go_simp
            refine (HV.out _ S1 HD1.out).mono ?_
            rintro x w8 ⟨rfl, S2, hd2, hs2⟩
            have hs2' : Stp S wc w8 S2 := HS1.out.trans hs2
            have HD2 := Lib.hid hd2
            have HS2 := Lib.hid hs2'
            refine hK _ _ (Lat.mk_ hs2'.frm) ?_
            clear hK K hd2 hs2 hs2'
            refine wpQuiet_nil ?_
            have hE := H6.out.step HD2.out HS2.out
            have lE := l'
            have hone := hE.close1 (K := K + 1) HT.out HSW6.out l' (by omega) HS2.out
            have HEE := Lib.hid hE
            have LEE := Lib.hid lE
            have HONE := Lib.hid hone
            clear hE lE hone
            go_upto_region 36 with fail
            generalize w8 = wE at HEE HONE ⊢
            have hE := HEE.out
            have e0 := hE.blk.cell 0
            have e1 := hE.blk.cell 1
            have ebb := hE.blk.lt
            have ed0 := hE.du.d0
            have edl := hE.du.dlt
            simp at e0 e1
            have ua := fun w' (hw : Same wE w') => (hE.du.same hw).usedA
            have ur := fun w' (hw : Same wE w') => (hE.du.same hw).usedR LEE.out
            have pa := fun w' (hw : Same wE w') => (hE.du.same hw).placesA
            have UA := Lib.hid ua
            have UR := Lib.hid ur
            have PA := Lib.hid pa
            clear hE ua ur pa
            refine wp_quiet (by kernel_rfl) (by kernel_rfl) ?_
            repeat (any_goals (first | go_big_quiet_step ((first | (go_at_call 10; exact quiet_call (UA.out _ (more_same _ _))) | (go_at_call 33; exact quiet_call (UR.out _ (more_same _ _))) | (go_at_call 20; exact quiet_call (PA.out _ (more_same _ _))))) | quiet_step ((first | (go_at_call 10; exact quiet_call (UA.out _ (more_same _ _))) | (go_at_call 33; exact quiet_call (UR.out _ (more_same _ _))) | (go_at_call 20; exact quiet_call (PA.out _ (more_same _ _)))))))
            refine wpQuiet_nil ?_
            rintro _ ⟨qz, rfl⟩
            go_wp2
            go_ret
            exact ⟨by simp, HONE.out.same (more_same _ _)⟩
          · have hk4' : (kd == 4) = false := by simpa using hk4
            clear hk4
            by_cases hk5 : kd = 5
            · subst hk5
              go_wp2_with (fail)
              have hgbS : ¬ S gb := hgb
              go_loopw [14] (fun i wr => ∃ m : Nat, m ≤ 300 ∧ i = .int .i64 m ∧ ∃ (us' : Int) (ls' : List Pl) (fr' : List Int) (es' : List Pe) (S' : Nat → Prop), BkC wr bb g d pl us' ls' fr' es' S' ks KA KC ∧ ALnk pl us' ls' fr' es' ∧ Stp S wc wr S') (fun i _ => 301 - (intOf i).toNat)
              case atStart => exact ⟨0, by omega, rfl, us, ls, fr, es, S, H6.out, l, .refl _ _⟩
              case round =>
                obtain ⟨m, hm, rfl, us', ls', fr', es', S', hc, l', hst⟩ := hrel
                have hXr := HX6.out.frm hst.frm hgbS
                have y0 := hXr.cell 0
                have y5 := hXr.cell 5
                have yl := hXr.lt
                simp at y0 y5
                have HC := Lib.hid hc
                have HST := Lib.hid hst
                clear hXr hc hst
                by_cases hgo : m < 1 ∨ (m : Int) < min o.times 300
                · obtain rfl | hm1 : m = 0 ∨ 0 < m := by omega
                  · go_wp2_with (fail)
                    refine (HC.out.turn l' 5 rr hR0.1 hR0.2).mono ?_
                    rintro x w7 ⟨rfl, us2, ls2, fr2, es2, S2, hc2, l2, hst2⟩
                    have hrel2 := HST.out.trans hst2
                    have HC2 := Lib.hid hc2
                    have HR2 := Lib.hid hrel2
                    clear hc2 hrel2 hst2 y0 y5 yl
                    go_wp2
                    go_roundw
                    case rel => exact ⟨1, by omega, by go_num, us2, ls2, fr2, es2, S2, HC2.out, l2, HR2.out⟩
                    case measure => simp [intOf]
                  · have hm2 : ¬ (m : Int) < 1 := by omega
                    have hm3 : (m : Int) < o.times := by omega
                    have hm4 : (m : Int) < 300 := by omega
                    clear hgo
                    obtain ht | ht : o.times ≤ 300 ∨ 300 < o.times := by omega
                    · go_wp2_with (fail)
                      refine (HC.out.turn l' 5 rr hR0.1 hR0.2).mono ?_
                      rintro x w7 ⟨rfl, us2, ls2, fr2, es2, S2, hc2, l2, hst2⟩
                      have hrel2 := HST.out.trans hst2
                      have HC2 := Lib.hid hc2
                      have HR2 := Lib.hid hrel2
                      clear hc2 hrel2 hst2 y0 y5 yl
                      go_wp2
                      go_roundw
                      case rel => exact ⟨m + 1, by omega, by go_num, us2, ls2, fr2, es2, S2, HC2.out, l2, HR2.out⟩
                      case measure => simp [intOf]; omega
                    · go_wp2_with (fail)
                      refine (HC.out.turn l' 5 rr hR0.1 hR0.2).mono ?_
                      rintro x w7 ⟨rfl, us2, ls2, fr2, es2, S2, hc2, l2, hst2⟩
                      have hrel2 := HST.out.trans hst2
                      have HC2 := Lib.hid hc2
                      have HR2 := Lib.hid hrel2
                      clear hc2 hrel2 hst2 y0 y5 yl
                      go_wp2
                      go_roundw
                      case rel => exact ⟨m + 1, by omega, by go_num, us2, ls2, fr2, es2, S2, HC2.out, l2, HR2.out⟩
                      case measure => simp [intOf]; omega
                · have hm2 : ¬ (m : Int) < 1 := by omega
                  obtain ht | ht : o.times ≤ 300 ∨ 300 < o.times := by omega
                  · have hm3 : ¬ (m : Int) < o.times := by omega
                    clear hgo
                    have hE := HC.out
                    have lE := l'
                    have hone := hE.close1 (K := K + 1) HT.out HSW6.out l' (by omega) HST.out
                    have HEE := Lib.hid hE
                    have LEE := Lib.hid lE
                    have HONE := Lib.hid hone
                    clear hE lE hone
                    go_upto_region 36 with fail
                    generalize wr = wE at HEE HONE ⊢
                    have hE := HEE.out
                    have e0 := hE.blk.cell 0
                    have e1 := hE.blk.cell 1
                    have ebb := hE.blk.lt
                    have ed0 := hE.du.d0
                    have edl := hE.du.dlt
                    simp at e0 e1
                    have ua := fun w' (hw : Same wE w') => (hE.du.same hw).usedA
                    have ur := fun w' (hw : Same wE w') => (hE.du.same hw).usedR LEE.out
                    have pa := fun w' (hw : Same wE w') => (hE.du.same hw).placesA
                    have UA := Lib.hid ua
                    have UR := Lib.hid ur
                    have PA := Lib.hid pa
                    clear hE ua ur pa
                    refine wp_quiet (by kernel_rfl) (by kernel_rfl) ?_
                    repeat (any_goals (first | go_big_quiet_step ((first | (go_at_call 10; exact quiet_call (UA.out _ (more_same _ _))) | (go_at_call 33; exact quiet_call (UR.out _ (more_same _ _))) | (go_at_call 20; exact quiet_call (PA.out _ (more_same _ _))))) | quiet_step ((first | (go_at_call 10; exact quiet_call (UA.out _ (more_same _ _))) | (go_at_call 33; exact quiet_call (UR.out _ (more_same _ _))) | (go_at_call 20; exact quiet_call (PA.out _ (more_same _ _)))))))
                    refine wpQuiet_nil ?_
                    rintro _ ⟨qz, rfl⟩
                    go_wp2
                    go_ret
                    exact ⟨by simp, HONE.out.same (more_same _ _)⟩
                  · have hm3 : ¬ (m : Int) < 300 := by omega
                    clear hgo
                    have hE := HC.out
                    have lE := l'
                    have hone := hE.close1 (K := K + 1) HT.out HSW6.out l' (by omega) HST.out
                    have HEE := Lib.hid hE
                    have LEE := Lib.hid lE
                    have HONE := Lib.hid hone
                    clear hE lE hone
                    go_upto_region 36 with fail
                    generalize wr = wE at HEE HONE ⊢
                    have hE := HEE.out
                    have e0 := hE.blk.cell 0
                    have e1 := hE.blk.cell 1
                    have ebb := hE.blk.lt
                    have ed0 := hE.du.d0
                    have edl := hE.du.dlt
                    simp at e0 e1
                    have ua := fun w' (hw : Same wE w') => (hE.du.same hw).usedA
                    have ur := fun w' (hw : Same wE w') => (hE.du.same hw).usedR LEE.out
                    have pa := fun w' (hw : Same wE w') => (hE.du.same hw).placesA
                    have UA := Lib.hid ua
                    have UR := Lib.hid ur
                    have PA := Lib.hid pa
                    clear hE ua ur pa
                    refine wp_quiet (by kernel_rfl) (by kernel_rfl) ?_
                    repeat (any_goals (first | go_big_quiet_step ((first | (go_at_call 10; exact quiet_call (UA.out _ (more_same _ _))) | (go_at_call 33; exact quiet_call (UR.out _ (more_same _ _))) | (go_at_call 20; exact quiet_call (PA.out _ (more_same _ _))))) | quiet_step ((first | (go_at_call 10; exact quiet_call (UA.out _ (more_same _ _))) | (go_at_call 33; exact quiet_call (UR.out _ (more_same _ _))) | (go_at_call 20; exact quiet_call (PA.out _ (more_same _ _)))))))
                    refine wpQuiet_nil ?_
                    rintro _ ⟨qz, rfl⟩
                    go_wp2
                    go_ret
                    exact ⟨by simp, HONE.out.same (more_same _ _)⟩
            · have hk5' : (kd == 5) = false := by simpa using hk5
              clear hk5
              by_cases hk6 : kd = 6
              · subst hk6
                go_wp2_with (fail)
                have hgbS : ¬ S gb := hgb
                go_loopw [14] (fun i wr => ∃ m : Nat, m ≤ 300 ∧ i = .int .i64 m ∧ ∃ (us' : Int) (ls' : List Pl) (fr' : List Int) (es' : List Pe) (S' : Nat → Prop), BkC wr bb g d pl us' ls' fr' es' S' ks KA KC ∧ ALnk pl us' ls' fr' es' ∧ Stp S wc wr S') (fun i _ => 301 - (intOf i).toNat)
                case atStart => exact ⟨0, by omega, rfl, us, ls, fr, es, S, H6.out, l, .refl _ _⟩
                case round =>
                  obtain ⟨m, hm, rfl, us', ls', fr', es', S', hc, l', hst⟩ := hrel
                  have hXr := HX6.out.frm hst.frm hgbS
                  have y0 := hXr.cell 0
                  have y5 := hXr.cell 5
                  have yl := hXr.lt
                  simp at y0 y5
                  have HC := Lib.hid hc
                  have HST := Lib.hid hst
                  clear hXr hc hst
                  by_cases hgo : m < 1 ∨ (m : Int) < min o.times 300
                  · obtain rfl | hm1 : m = 0 ∨ 0 < m := by omega
                    · go_wp2_with (fail)
                      refine (HC.out.turn l' 6 rr hR0.1 hR0.2).mono ?_
                      rintro x w7 ⟨rfl, us2, ls2, fr2, es2, S2, hc2, l2, hst2⟩
                      have hrel2 := HST.out.trans hst2
                      have HC2 := Lib.hid hc2
                      have HR2 := Lib.hid hrel2
                      clear hc2 hrel2 hst2 y0 y5 yl
                      go_wp2
                      go_roundw
                      case rel => exact ⟨1, by omega, by go_num, us2, ls2, fr2, es2, S2, HC2.out, l2, HR2.out⟩
                      case measure => simp [intOf]
                    · have hm2 : ¬ (m : Int) < 1 := by omega
                      have hm3 : (m : Int) < o.times := by omega
                      have hm4 : (m : Int) < 300 := by omega
                      clear hgo
                      obtain ht | ht : o.times ≤ 300 ∨ 300 < o.times := by omega
                      · go_wp2_with (fail)
                        refine (HC.out.turn l' 6 rr hR0.1 hR0.2).mono ?_
                        rintro x w7 ⟨rfl, us2, ls2, fr2, es2, S2, hc2, l2, hst2⟩
                        have hrel2 := HST.out.trans hst2
                        have HC2 := Lib.hid hc2
                        have HR2 := Lib.hid hrel2
                        clear hc2 hrel2 hst2 y0 y5 yl
                        go_wp2
                        go_roundw
                        case rel => exact ⟨m + 1, by omega, by go_num, us2, ls2, fr2, es2, S2, HC2.out, l2, HR2.out⟩
                        case measure => simp [intOf]; omega
                      · go_wp2_with (fail)
                        refine (HC.out.turn l' 6 rr hR0.1 hR0.2).mono ?_
                        rintro x w7 ⟨rfl, us2, ls2, fr2, es2, S2, hc2, l2, hst2⟩
                        have hrel2 := HST.out.trans hst2
                        have HC2 := Lib.hid hc2
                        have HR2 := Lib.hid hrel2
                        clear hc2 hrel2 hst2 y0 y5 yl
                        go_wp2
                        go_roundw
                        case rel => exact ⟨m + 1, by omega, by go_num, us2, ls2, fr2, es2, S2, HC2.out, l2, HR2.out⟩
                        case measure => simp [intOf]; omega
                  · have hm2 : ¬ (m : Int) < 1 := by omega
                    obtain ht | ht : o.times ≤ 300 ∨ 300 < o.times := by omega
                    · have hm3 : ¬ (m : Int) < o.times := by omega
                      clear hgo
                      have hE := HC.out
                      have lE := l'
                      have hone := hE.close1 (K := K + 1) HT.out HSW6.out l' (by omega) HST.out
                      have HEE := Lib.hid hE
                      have LEE := Lib.hid lE
                      have HONE := Lib.hid hone
                      clear hE lE hone
                      go_upto_region 36 with fail
                      generalize wr = wE at HEE HONE ⊢
                      have hE := HEE.out
                      have e0 := hE.blk.cell 0
                      have e1 := hE.blk.cell 1
                      have ebb := hE.blk.lt
                      have ed0 := hE.du.d0
                      have edl := hE.du.dlt
                      simp at e0 e1
                      have ua := fun w' (hw : Same wE w') => (hE.du.same hw).usedA
                      have ur := fun w' (hw : Same wE w') => (hE.du.same hw).usedR LEE.out
                      have pa := fun w' (hw : Same wE w') => (hE.du.same hw).placesA
                      have UA := Lib.hid ua
                      have UR := Lib.hid ur
                      have PA := Lib.hid pa
                      clear hE ua ur pa
                      refine wp_quiet (by kernel_rfl) (by kernel_rfl) ?_
                      repeat (any_goals (first | go_big_quiet_step ((first | (go_at_call 10; exact quiet_call (UA.out _ (more_same _ _))) | (go_at_call 33; exact quiet_call (UR.out _ (more_same _ _))) | (go_at_call 20; exact quiet_call (PA.out _ (more_same _ _))))) | quiet_step ((first | (go_at_call 10; exact quiet_call (UA.out _ (more_same _ _))) | (go_at_call 33; exact quiet_call (UR.out _ (more_same _ _))) | (go_at_call 20; exact quiet_call (PA.out _ (more_same _ _)))))))
                      refine wpQuiet_nil ?_
                      rintro _ ⟨qz, rfl⟩
                      go_wp2
                      go_ret
                      exact ⟨by simp, HONE.out.same (more_same _ _)⟩
                    · have hm3 : ¬ (m : Int) < 300 := by omega
                      clear hgo
                      have hE := HC.out
                      have lE := l'
                      have hone := hE.close1 (K := K + 1) HT.out HSW6.out l' (by omega) HST.out
                      have HEE := Lib.hid hE
                      have LEE := Lib.hid lE
                      have HONE := Lib.hid hone
                      clear hE lE hone
                      go_upto_region 36 with fail
                      generalize wr = wE at HEE HONE ⊢
                      have hE := HEE.out
                      have e0 := hE.blk.cell 0
                      have e1 := hE.blk.cell 1
                      have ebb := hE.blk.lt
                      have ed0 := hE.du.d0
                      have edl := hE.du.dlt
                      simp at e0 e1
                      have ua := fun w' (hw : Same wE w') => (hE.du.same hw).usedA
                      have ur := fun w' (hw : Same wE w') => (hE.du.same hw).usedR LEE.out
                      have pa := fun w' (hw : Same wE w') => (hE.du.same hw).placesA
                      have UA := Lib.hid ua
                      have UR := Lib.hid ur
                      have PA := Lib.hid pa
                      clear hE ua ur pa
                      refine wp_quiet (by kernel_rfl) (by kernel_rfl) ?_
                      repeat (any_goals (first | go_big_quiet_step ((first | (go_at_call 10; exact quiet_call (UA.out _ (more_same _ _))) | (go_at_call 33; exact quiet_call (UR.out _ (more_same _ _))) | (go_at_call 20; exact quiet_call (PA.out _ (more_same _ _))))) | quiet_step ((first | (go_at_call 10; exact quiet_call (UA.out _ (more_same _ _))) | (go_at_call 33; exact quiet_call (UR.out _ (more_same _ _))) | (go_at_call 20; exact quiet_call (PA.out _ (more_same _ _)))))))
                      refine wpQuiet_nil ?_
                      rintro _ ⟨qz, rfl⟩
                      go_wp2
                      go_ret
                      exact ⟨by simp, HONE.out.same (more_same _ _)⟩
              · have hk6' : (kd == 6) = false := by simpa using hk6
                clear hk6
                by_cases hk7 : kd = 7
                · subst hk7
                  obtain ⟨n, e, hg1, hg2⟩ := count_duo (g := g) (d := d) l rr hR0.1 hR0.2
                  have G1 := Lib.hid hg1
                  have G2 := Lib.hid hg2
                  clear hg1 hg2
                  go_wp2_with (fail)
                  refine (G1.out _ S H6.out.du).mono ?_
                  rintro x v1 ⟨rfl, rfl⟩
                  go_wp2_with (fail)
                  refine (G2.out _ S H6.out.du).mono ?_
                  rintro x v1 ⟨rfl, rfl⟩
                  have hE := H6.out
                  have lE := l
                  have hone := hE.close1 (K := K + 1) HT.out HSW6.out l (by omega) (.refl _ _)
                  have HEE := Lib.hid hE
                  have LEE := Lib.hid lE
                  have HONE := Lib.hid hone
                  clear hE lE hone
                  go_upto_region 36 with fail
                  generalize wc = wE at HEE HONE ⊢
                  have hE := HEE.out
                  have e0 := hE.blk.cell 0
                  have e1 := hE.blk.cell 1
                  have ebb := hE.blk.lt
                  have ed0 := hE.du.d0
                  have edl := hE.du.dlt
                  simp at e0 e1
                  have ua := fun w' (hw : Same wE w') => (hE.du.same hw).usedA
                  have ur := fun w' (hw : Same wE w') => (hE.du.same hw).usedR LEE.out
                  have pa := fun w' (hw : Same wE w') => (hE.du.same hw).placesA
                  have UA := Lib.hid ua
                  have UR := Lib.hid ur
                  have PA := Lib.hid pa
                  clear hE ua ur pa
                  refine wp_quiet (by kernel_rfl) (by kernel_rfl) ?_
                  repeat (any_goals (first | go_big_quiet_step ((first | (go_at_call 10; exact quiet_call (UA.out _ (more_same _ _))) | (go_at_call 33; exact quiet_call (UR.out _ (more_same _ _))) | (go_at_call 20; exact quiet_call (PA.out _ (more_same _ _))))) | quiet_step ((first | (go_at_call 10; exact quiet_call (UA.out _ (more_same _ _))) | (go_at_call 33; exact quiet_call (UR.out _ (more_same _ _))) | (go_at_call 20; exact quiet_call (PA.out _ (more_same _ _)))))))
                  refine wpQuiet_nil ?_
                  rintro _ ⟨qz, rfl⟩
                  go_wp2
                  go_ret
                  exact ⟨by simp, HONE.out.same (more_same _ _)⟩
                · have hk7' : (kd == 7) = false := by simpa using hk7
                  clear hk7
                  have hE := H6.out
                  have lE := l
                  have hone := hE.close1 (K := K + 1) HT.out HSW6.out l (by omega) (.refl _ _)
                  have HEE := Lib.hid hE
                  have LEE := Lib.hid lE
                  have HONE := Lib.hid hone
                  clear hE lE hone
                  go_upto_region 36 with fail
                  generalize wc = wE at HEE HONE ⊢
                  have hE := HEE.out
                  have e0 := hE.blk.cell 0
                  have e1 := hE.blk.cell 1
                  have ebb := hE.blk.lt
                  have ed0 := hE.du.d0
                  have edl := hE.du.dlt
                  simp at e0 e1
                  have ua := fun w' (hw : Same wE w') => (hE.du.same hw).usedA
                  have ur := fun w' (hw : Same wE w') => (hE.du.same hw).usedR LEE.out
                  have pa := fun w' (hw : Same wE w') => (hE.du.same hw).placesA
                  have UA := Lib.hid ua
                  have UR := Lib.hid ur
                  have PA := Lib.hid pa
                  clear hE ua ur pa
                  refine wp_quiet (by kernel_rfl) (by kernel_rfl) ?_
                  repeat (any_goals (first | go_big_quiet_step ((first | (go_at_call 10; exact quiet_call (UA.out _ (more_same _ _))) | (go_at_call 33; exact quiet_call (UR.out _ (more_same _ _))) | (go_at_call 20; exact quiet_call (PA.out _ (more_same _ _))))) | quiet_step ((first | (go_at_call 10; exact quiet_call (UA.out _ (more_same _ _))) | (go_at_call 33; exact quiet_call (UR.out _ (more_same _ _))) | (go_at_call 20; exact quiet_call (PA.out _ (more_same _ _)))))))
                  refine wpQuiet_nil ?_
                  rintro _ ⟨qz, rfl⟩
                  go_wp2
                  go_ret
                  exact ⟨by simp, HONE.out.same (more_same _ _)⟩
end
end Go.Proofs.Ytkajgopkdolhcaa
