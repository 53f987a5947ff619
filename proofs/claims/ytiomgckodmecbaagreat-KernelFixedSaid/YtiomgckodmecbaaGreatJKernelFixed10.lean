/- Contracts and plain laws, put together in one file. No condition. -/
import Derived.Test.YtiomgckodmecbaaGreatJKernelFixed9
import Derived.Test.YtiomgckodmecbaaGreatRows

namespace Go.Proofs.YtiomgckodmecbaaGreat
open Go.RowKit Go.Tk
def deadK (p : PS) (k : Nat) : List Bool := ((List.range k).map fun i : Nat => !livesB (countP p) i) ++ p.dead.drop k
theorem deadK_len {p : PS} {k : Nat} (h : k ≤ p.dead.length) : (deadK p k).length = p.dead.length := by
 unfold deadK
 simp
 omega
theorem deadK_get {p : PS} {k : Nat} : (deadK p k).getD k true = p.dead.getD k true := by
 unfold deadK
 rw [List.getD_eq_getElem?_getD, List.getD_eq_getElem?_getD, List.getElem?_append_right (by simp)]
 simp
theorem deadK_set {p : PS} {k : Nat} (h : k < p.dead.length) : (deadK p k).set k (!livesB (countP p) k) = deadK p (k + 1) := by
 unfold deadK
 rw [List.set_append_right _ _ (by simp), List.length_map, List.length_range, Nat.sub_self, List.range_succ, List.map_append]
 rw [List.drop_eq_getElem_cons h, List.set_cons_zero, List.append_assoc]
 rfl
theorem deadK_all {p : PS} (h : p.dead.length = p.ts.length) : { countP p with dead := deadK p p.ts.length } = lookP p := by
 unfold deadK lookP
 rw [List.drop_of_length_le (by omega)]
 simp
theorem livesB_dead {p : PS} {k : Nat} : livesB { countP p with dead := deadK p k } k = livesB (countP p) k := by
 unfold livesB
 simp only [Int.toNat_natCast]
 rw [deadK_get]
 rfl
section
variable {w w' : World} {B : Nat → Prop} {pp : Nat} {p : PS} {q : PA} {n : Nat} {t : Tb} {kp : Nat} {k : KS} {a : KA}
set_option maxRecDepth 100000 in
set_option maxHeartbeats 16000000 in
theorem looks_law (hP : PW B w pp p q) (hB : ∀ b, B b → b < w.heap.size) (K : KI p.k) (hg : RngK p.k) (ho : OrdOk p.m) (hd : p.dead.length = p.ts.length) (hr : p.refs.length = p.ts.length) (hrg : ∀ x ∈ p.refs, 0 ≤ x ∧ x < 4294967296)
  (htl : p.ts.length ≤ 4000000000000) (hol : p.k.ord.length ≤ 64) (hac : p.k.ac ≤ 4000000) (L : LookOk p) :
  Calls Tryz.prog 28 #[.pointer (some ⟨pp, 0, none⟩)] w fun e w' => e = .returned (.bool true) ∧ (∃ q', PW B w' pp (lookP p) q') ∧ Up B w w' := by
 have hcl := count_law hP ho hB
 have hn16 := hP.m.n16
 have hl3 := live_len p.m (by have := hP.m.hl; omega) hP.m.ol p.m.ord.length hP.m.ol
 rw [List.take_of_length_le (by unfold levelsL; rw [levels_len]; simp)] at hl3
 have HCL := Lib.hid hcl
 have HLL := Lib.hid (show (liveM p.m).length ≤ 2097152000000 from hl3)
 have HD := Lib.hid hd
 have HR := Lib.hid hr
 have HRG := Lib.hid hrg
 have HTLB := Lib.hid htl
 have HL := Lib.hid L
 have HK := Lib.hid K
 have HG := Lib.hid hg
 have HO := Lib.hid ho
 have HOL := Lib.hid hol
 have HAC := Lib.hid hac
 have HN16 := Lib.hid hn16
 clear hP hcl hl3 hd hr hrg L K hg ho hol hac hn16
 go_enter Tryz.func28, Tryz.ntmps28
 go_wp2_with (fail)
 refine HCL.out.mono ?_
 rintro e w1 ⟨rfl, ⟨q1, hP1⟩, hU1⟩
 have hB1 : ∀ b, B b → b < w1.heap.size := fun b hb => by have := hB b hb; have := hU1.size; omega
 have hpl := hP1.blk.lt
 have c3 := hP1.c3
 rw [hP1.tl] at c3
 replace c3 : w1.cell? ⟨pp, 3, none⟩ = some (.slice q1.tA p.ts.length q1.tC) := c3
 have HP1 := Lib.hid hP1
 have HU1 := Lib.hid hU1
 clear hP1 hU1
 go_upto_region 3 with fail
 clear c3 hpl
 go_loopw [25] (fun i wr => ∃ k : Nat, k ≤ p.ts.length ∧ i = .int .i64 k ∧ (∃ q', PW B wr pp { countP p with dead := deadK p k } q') ∧ Up B w wr ∧ w.heap.size ≤ wr.heap.size) (fun i _ => p.ts.length - (intOf i).toNat)
 case atStart => exact ⟨0, Nat.zero_le _, rfl, ⟨q1, by have := HP1.out; exact this⟩, HU1.out, HU1.out.size⟩
 case round =>
  as_aux_lemma =>
  obtain ⟨k, hk, rfl, ⟨q', hPr⟩, hU, hsz⟩ := hrel
  by_cases hlt : k < p.ts.length
  ·have hI : (k : Int) < (p.ts.length : Int) := by omega
   have hlv := fun w' (hs : Same wr w') => lives_law (hPr.same hs) (by rw [deadK_len (by rw [HD.out]; exact hk)]; exact HD.out) HLL.out k
   rw [livesB_dead] at hlv
   obtain ⟨lb, hlb⟩ : ∃ z, livesB (countP p) k = z := ⟨_, rfl⟩
   rw [hlb] at hlv
   have hdl : (deadK p k).length = p.ts.length := by rw [deadK_len (by rw [HD.out]; exact hk), HD.out]
   obtain ⟨d, hdd⟩ : ∃ d, (deadK p k)[k]? = some d := ⟨_, List.getElem?_eq_getElem (by rw [hdl]; exact hlt)⟩
   obtain ⟨db, hdb, hdbl, d0⟩ := hPr.ds.at1 (c := fun b : Bool => .bool b) hdd
   have hpl := hPr.blk.lt
   have c5 := hPr.c5
   simp only at c5 hdb
   rw [hdl, hdb] at c5
   have f5 := hPr.ds
   have hst : deadK p (k + 1) = (deadK p k).set k (!lb) := by rw [← hlb, deadK_set (by rw [HD.out]; exact hlt)]
   have HLV := Lib.hid hlv
   have HPR := Lib.hid hPr
   have HU := Lib.hid hU
   have HST := Lib.hid hst
   have HDB := Lib.hid hdb
   have HDL := Lib.hid hdl
   have HDD := Lib.hid hdd
   clear hlv hPr hU hst hdb hdl hlb hdd f5
   go_upto_region 5 with fail
   refine wp_phS (fun _ => False) [([0, 1, 2, 3, 4, 5, 6], 7), ([8, 9], 10)] (by kernel_rfl) (by kernel_rfl) ?_
   simp only [wpPh, pick, List.map_cons, List.map_nil, List.getD_cons_zero, List.getD_cons_succ]
   have hs : Same wr wr.drew := (Frm.refl _ _).drew
   repeat (any_goals (first | go_big_quiet_step (fail) | quiet_step (fail)))
   refine wpQuiet_nil ?_
   refine effStep_plain rfl fun K hK => ?_
   go_simp
   refine (HLV.out _ hs).mono ?_
   rintro e w2 ⟨rfl, hs2⟩
   have hs2' := hs.trans hs2 (fun _ _ h => h)
   refine hK _ _ (Lat.mk_ hs2') ?_
   clear hK K
   have hP2 := HPR.out.same hs2'
   have hdb2 := HDB.out
   have hds := hP2.ds
   have hB2 : ∀ b, B b → b < w2.heap.size := fun b hb => by have := hB b hb; have := hs2'.size; omega
   have hsz2 := hs2'.size
   clear d0 hdbl
   have hne : pp ≠ db := fun h => hP2.ds.ne_blk hP2.blk (by decide) _ hdb2 h.symm
   have hdl' : (deadK p (k + 1)).length = p.ts.length := by rw [deadK_len (by rw [HD.out]; exact hlt), HD.out]
   simp only at hds
   rw [hdb2] at hds
   have fk := Own.free hds k
   obtain ⟨db', hdb', hdbl, d0⟩ := hds.at1 (c := fun b : Bool => .bool b) HDD.out
   injection hdb' with hdb'
   injection hdb' with hdb'
   subst hdb'
   have hpt := Own.put1 (c := fun b : Bool => .bool b) hds (i := k) (by rw [HDL.out]; exact hlt) (!lb)
   rw [← HST.out, HDL.out, ← hdl', ← hdb2] at hpt
   have hto := hP2.ds_to (w' := w2.setCell ⟨db, k, none⟩ (.bool (!lb))) (ds := deadK p (k + 1)) (A2 := q'.dA) (C2 := q'.dC) ((Frm.refl _ _).set k _ (.inr ⟨_, hdb2, rfl⟩)) (by
    have hb := hP2.blk.far (p := ⟨db, k, none⟩) hne (.bool (!lb))
    simpa [pcells, HDL.out, hdl'] using hb) hpt (fun b hb => .inl hb) hB2
   have HTO := Lib.hid hto
   have HS2 := Lib.hid hs2'
   clear hto hpt hds hP2 hne hdb2 hB2 hs hs2 hs2' hdl' c5 hpl
   repeat (any_goals (first | go_big_quiet_step (fail) | quiet_step (fail)))
   refine wpQuiet_nil ?_
   go_wp2
   go_roundw
   case rel => exact ⟨k + 1, by omega, by go_num, ⟨_, HTO.out.1⟩, (HU.out.trans (Up.ofSame HS2.out)).trans HTO.out.2, by rw [size_setCell]; omega⟩
   case measure => simp [intOf] <;> omega
  ·obtain rfl : k = p.ts.length := by omega
   have hI : ¬ ((p.ts.length : Nat) : Int) < (p.ts.length : Int) := by omega
   rw [deadK_all HD.out] at hPr
   obtain ⟨w5, rfl⟩ : ∃ z, z = wr := ⟨_, rfl⟩
   have hcells : ∀ w', Same w5 w' → pp < w'.heap.size ∧ q'.mp < w'.heap.size ∧ w'.cell? ⟨pp, 0, none⟩ = some (.pointer (some ⟨q'.kp, 0, none⟩)) ∧ w'.cell? ⟨pp, 1, none⟩ = some (.pointer (some ⟨q'.mp, 0, none⟩)) ∧ w'.cell? ⟨pp, 2, none⟩ = some (.slice q'.rA p.ts.length q'.rC) ∧ w'.cell? ⟨pp, 3, none⟩ = some (.slice q'.tA p.ts.length q'.tC) ∧ w'.cell? ⟨pp, 4, none⟩ = some (.slice q'.vA (liveM p.m).length q'.vC) ∧
     w'.cell? ⟨q'.mp, 0, none⟩ = some (.int .i64 p.m.n) ∧ w'.cell? ⟨q'.mp, 2, none⟩ = some (.slice q'.b.oA p.k.ord.length q'.b.oC) ∧ w'.cell? ⟨q'.mp, 3, none⟩ = some (.slice q'.b.hA (rootsK p.k).length q'.b.hC) ∧ w'.cell? ⟨q'.mp, 4, none⟩ = some (.slice q'.b.tA p.k.tr.length q'.b.tC) := by
    intro w' hs
    have h := hPr.same hs
    refine ⟨h.blk.lt, h.m.blk.lt, h.c0, h.c1, ?_, ?_, ?_, h.m.c0, ?_, ?_, ?_⟩
    ·have := h.c2
     rw [show (lookP p).refs.length = p.ts.length from HR.out] at this
     exact this
    ·have := h.c3
     rw [h.tl] at this
     exact this
    ·have := h.c4
     rw [h.vl] at this
     exact this
    ·have := h.m.c2
     rw [HL.out.ord]
     exact this
    ·have := h.m.c3
     rw [h.m.hsl] at this
     rw [HL.out.rl]
     exact this
    ·have := h.m.c4
     rw [HL.out.tr]
     exact this
   have HC := Lib.hid hcells
   have hord : ∀ w', Same w5 w' → Calls Tryz.prog 25 #[.pointer (some ⟨q'.kp, 0, none⟩)] w' (RetL w' p.k.ord) := fun w' hs => korder_any (hPr.same hs).k HOL.out
   have hsm := fun w' (hs : Same w5 w') (A : Option Addr) (C : Nat) (ho : OwnI w' 3 A p.k.ord.length C p.k.ord) => psame_any A q'.b.oA p.k.ord.length p.k.ord.length C q'.b.oC p.k.ord p.k.ord w' ho.il (by have := (hPr.same hs).m.ord.il; rw [HL.out.ord]; exact this) (by have := HOL.out; omega) (by have := HOL.out; omega)
   simp only [decide_true] at hsm
   have htr : ∀ w', Same w5 w' → Calls Tryz.prog 35 #[.pointer (some ⟨q'.kp, 0, none⟩)] w' fun e w'' => e = .returned (.int .i64 p.k.tr.length) ∧ w' = w'' := fun w' hs => ktrail_any (hPr.same hs).k
   have hlv : ∀ w', Same w5 w' → Calls Tryz.prog 18 #[.pointer (some ⟨q'.kp, 0, none⟩)] w' fun e w'' => e = .returned (.int .i64 ((liveM p.m).length : Nat)) ∧ w' = w'' := fun w' hs => by
    have h := klive2_any (hPr.same hs).k HAC.out
    rw [show (((lookP p).k.ac : Nat) : Int) - 2 = ((liveM p.m).length : Nat) from HL.out.live] at h
    exact h
   have hwd : ∀ (v : Nat), v < p.m.n → ∀ w', Same w5 w' → Calls Tryz.prog 32 #[.pointer (some ⟨q'.kp, 0, none⟩), .int .i64 v] w' fun e w'' => e = .returned (.tuple #[.int .i64 (widthM p.m v), .int .i64 0]) ∧ w' = w'' := fun v hv w' hs => by
    have h := kwidth_any (hPr.same hs).k v
    rw [show wdR (lookP p).k v = widthM p.m v from (HL.out.wd v hv).1, show lvlE (lookP p).k v = 0 from (HL.out.wd v hv).2.2] at h
    exact h
   have hle : ∀ (v : Nat), v < p.m.n → ∀ w', Same w5 w' → Calls Tryz.prog 33 #[.pointer (some ⟨q'.kp, 0, none⟩), .int .i64 v] w' fun e w'' => e = .returned (.tuple #[.int .i64 (levelL p.m.ord v), .int .i64 0]) ∧ w' = w'' := fun v hv w' hs => by
    have h := klevel_any (hPr.same hs).k HK.out.lv v
    rw [show lvlR (lookP p).k v = levelL p.m.ord v from (HL.out.wd v hv).2.1, show lvlE (lookP p).k v = 0 from (HL.out.wd v hv).2.2] at h
    exact h
   have hwm : ∀ (v : Nat) w', Same w5 w' → Calls Tryz.prog 67 #[.pointer (some ⟨q'.mp, 0, none⟩), .int .i64 v] w' fun e w'' => e = .returned (.int .i64 (widthM p.m v)) ∧ Same w' w'' := fun v w' hs => width9_any (hPr.same hs).m HO.out v
   have hlm : ∀ (v : Nat) w', Same w5 w' → Calls Tryz.prog 68 #[.pointer (some ⟨q'.mp, 0, none⟩), .int .i64 v] w' fun e w'' => e = .returned (.int .i64 (levelL p.m.ord v)) ∧ Same w' w'' := fun v w' hs => levelOf_any (hPr.same hs).m v
   have hrt : ∀ w', Same w5 w' → Calls Tryz.prog 22 #[.pointer (some ⟨q'.kp, 0, none⟩)] w' fun e w'' => ∃ A C, e = .returned (.slice A (rootsK p.k).length C) ∧ Row1 w'' 28 rc A (rootsK p.k).length C (rootsK p.k) ∧ Fresh w'.heap.size A ∧ Same w' w'' := fun w' hs => kroots_any (hPr.same hs).k HK.out.bk
   have hhd : ∀ (r : Int), 0 ≤ r → r < 4294967296 → ∀ w', Same w5 w' → Calls Tryz.prog 17 #[.pointer (some ⟨q'.kp, 0, none⟩), .int .u32 r] w' fun e w'' => e = .returned (.int .i64 (p.k.hs.getD r.toNat 0)) ∧ w' = w'' := fun r h0 h1 w' hs => kheld_any (hPr.same hs).k r h0 h1 (fun x hx => ⟨(HK.out.bk.hol _ x hx).1, (HK.out.bk.hol _ x hx).2.1⟩)
   have htb : ∀ (r : Int) (t : List Nat), 0 ≤ r → r < 4294967296 → tabK p.k p.m.n (p.m.n + 1) r = some t → ∀ w', Same w5 w' → Calls Tryz.prog 69 #[.pointer (some ⟨q'.kp, 0, none⟩), .int .u32 r, .int .i64 p.m.n, .int .i64 0] w' fun e w'' => ∃ A C, e = .returned (.tuple #[.agg #[.int .i64 p.m.n, .slice A t.length C], .bool true]) ∧ NewT w' t A C w'' := fun r t h0 h1 ht w' hs => by
    have h := table_law (hPr.same hs).k HG.out HN16.out (p.m.n + 1) r h0 h1 (Nat.le_refl _) w' (Frm.refl _ _)
    rw [show tabK (lookP p).k p.m.n (p.m.n + 1) r = some t from ht, Nat.sub_self] at h
    exact h
   have hho : ∀ (A : Option Addr) (C : Nat) (t : List Nat), FormN p.m.n t → Small t → ∀ w', Same w5 w' → OwnW w' A t.length C t → Calls Tryz.prog 70 #[.pointer (some ⟨q'.mp, 0, none⟩), .agg #[.int .i64 p.m.n, .slice A t.length C]] w' fun e w'' => e = .returned (.int .i64 (holdsL p.m.held t)) ∧ Same w' w'' := fun A C t h1 h2 w' hs hO => by
    have h := holds_any (t := ⟨p.m.n, A, C, t⟩) (hPr.same hs).m ⟨rfl, hO, h1, h2⟩
    exact h
   have hls := fun (i : Int) w' (hs : Same w5 w') => lives_law (hPr.same hs) (by unfold lookP; simp [countP]) (show (liveM p.m).length ≤ 2097152000000 from HLL.out) i
   have htw := fun w' (hs : Same w5 w') => (hPr.same hs).tt
   have hrows : ∀ w', Same w5 w' → Row1 w' 28 rc q'.rA p.refs.length q'.rC p.refs := fun w' hs => (hPr.same hs).refs
   have htab : ∀ w', Same w5 w' → Go.Tk.Own w' 108 2 Tb.cells q'.tA q'.tt.length q'.tC q'.tt ∧ ∀ t ∈ q'.tt, TW w' p.m.n t := fun w' hs => ⟨(hPr.same hs).ts, (hPr.same hs).tt⟩
   have htte : q'.tt.map Tb.ws = p.ts := hPr.te
   have HORD := Lib.hid hord
   have HSM := Lib.hid hsm
   have HTR := Lib.hid htr
   have HLV := Lib.hid hlv
   have HWD := Lib.hid hwd
   have HLE := Lib.hid hle
   have HWM := Lib.hid hwm
   have HLM := Lib.hid hlm
   have HRT := Lib.hid hrt
   have HHD := Lib.hid hhd
   have HTB := Lib.hid htb
   have HHO := Lib.hid hho
   have HLS := Lib.hid hls
   have HROW := Lib.hid hrows
   have HTAB := Lib.hid htab
   have HTTE := Lib.hid htte
   have HFIN := Lib.hid (⟨_, hPr⟩ : ∃ q', PW B w5 pp (lookP p) q')
   have HUF := Lib.hid hU
   have HS := Lib.hid (Frm.refl (fun _ => False) w5 : Same w5 w5)
   clear hord hsm htr hlv hwd hle hwm hlm hrt hhd htb hho hls htw hrows htab htte hPr hU hcells
   go_upto_region 7 with fail
   obtain ⟨hpl, hml, c0, c1, c2, c3, c4, m0, m2, m3, m4⟩ := HC.out _ HS.out
   refine wp_phS (fun _ => False) [([0, 1, 2, 3, 5, 6, 7, 8, 9, 10, 11], 4), ([], 12), ([13, 14, 15, 16, 17, 18, 20, 21, 22, 23, 24, 25, 26, 27], 19), ([28, 29, 30, 31, 32, 33, 34, 36, 37, 38, 39, 40], 35), ([41], 42)] (by kernel_rfl) (by kernel_rfl) ?_
   have hs : Same w5 w5.drew := (Frm.refl _ _).drew
   rw [wpPh_go_eq]
   simp only [pick, List.map_cons, List.map_nil, List.getD_cons_zero, List.getD_cons_succ]
   repeat go_big_quiet_step (fail)
   refine wpQuiet_nil ?_
   refine effStep_plain rfl fun K hK => ?_
   go_simp
   refine (HORD.out _ hs).mono ?_
   rintro e w6 ⟨Ao, Co, rfl, hO6, hF6, hs6⟩
   have HS6 := Lib.hid (hs.trans hs6 (fun _ _ h => h))
   refine hK _ _ (Lat.mk_ HS6.out) ?_
   clear hK K
   have HO6 := Lib.hid hO6
   clear hO6 hF6 hs6 hs
   rw [wpPh_go_eq]
   simp only [pick, List.map_nil, List.getD_cons_zero, List.getD_cons_succ]
   repeat go_big_quiet_step (fail)
   refine wpQuiet_nil ?_
   refine effStep_plain rfl fun K hK => ?_
   go_simp
   refine (HSM.out _ HS6.out Ao Co HO6.out).mono ?_
   rintro e w7 ⟨rfl, hs7⟩
   have HS7 := Lib.hid (HS6.out.trans hs7 (fun _ _ h => h))
   refine hK _ _ (Lat.mk_ HS7.out) ?_
   clear hK K hs7
   rw [wpPh_go_eq]
   simp only [pick, List.map_cons, List.map_nil, List.getD_cons_zero, List.getD_cons_succ]
   repeat go_big_quiet_step (fail)
   refine wpQuiet_nil ?_
   refine effStep_on (by rfl) fun K hK => ?_
   go_simp
   refine (HTR.out _ HS7.out).mono ?_
   rintro e w8 ⟨rfl, rfl⟩
   refine hK _ _ (Lat.mk_ HS7.out) ?_
   clear hK K
   rw [wpPh_go_eq]
   simp only [pick, List.map_cons, List.map_nil, List.getD_cons_zero, List.getD_cons_succ]
   repeat go_big_quiet_step (fail)
   refine wpQuiet_nil ?_
   refine effStep_on (by rfl) fun K hK => ?_
   go_simp
   refine (HLV.out _ HS7.out).mono ?_
   rintro e w8 ⟨rfl, rfl⟩
   refine hK _ _ (Lat.mk_ HS7.out) ?_
   clear hK K
   rw [wpPh_end_eq]
   simp only [pick, List.map_cons, List.map_nil, List.getD_cons_zero, List.getD_cons_succ]
   repeat go_big_quiet_step (fail)
   rw [wpQuiet_nil_eq]
   clear hpl hml c0 c1 c2 c3 c4 m0 m2 m3 m4 HO6 HS6
   go_wp2_with (fail)
   go_loopw [4] (fun i wx => ∃ v : Nat, v ≤ p.m.n ∧ i = .int .i64 v ∧ Same w5 wx) (fun i _ => p.m.n - (intOf i).toNat)
   case atStart => exact ⟨0, Nat.zero_le _, rfl, HS7.out⟩
   case round =>
    as_aux_lemma =>
    obtain ⟨v, hv, rfl, hsx⟩ := hrel
    by_cases hlt : v < p.m.n
    ·have hJ : (v : Int) < (p.m.n : Int) := by omega
     have hn16 := HN16.out
     have HSX := Lib.hid hsx
     clear hsx
     obtain ⟨hpl, hml, c0, c1, c2, c3, c4, m0, m2, m3, m4⟩ := HC.out _ HSX.out
     have h1 := HWD.out v hlt
     have h2 := HLE.out v hlt
     have h3 := HWM.out v
     have h4 := HLM.out v
     obtain ⟨a1, ha1⟩ : ∃ z, widthM p.m v = z := ⟨_, rfl⟩
     obtain ⟨a2, ha2⟩ : ∃ z, levelL p.m.ord v = z := ⟨_, rfl⟩
     replace h3 : ∀ w', Same w5 w' → Calls Tryz.prog 67 #[.pointer (some ⟨q'.mp, 0, none⟩), .int .i64 v] w' fun e w'' => e = .returned (.int .i64 a1) ∧ Same w' w'' := by rw [← ha1]; exact h3
     replace h4 : ∀ w', Same w5 w' → Calls Tryz.prog 68 #[.pointer (some ⟨q'.mp, 0, none⟩), .int .i64 v] w' fun e w'' => e = .returned (.int .i64 a2) ∧ Same w' w'' := by rw [← ha2]; exact h4
     rw [ha1] at h1
     rw [ha2] at h2
     have H1 := Lib.hid h1
     have H2 := Lib.hid h2
     have H3 := Lib.hid h3
     have H4 := Lib.hid h4
     clear h1 h2 h3 h4 ha1 ha2
     go_wp2_with (fail)
     refine (H1.out _ HSX.out).mono ?_
     rintro e wy ⟨rfl, rfl⟩
     go_wp2_with (fail)
     refine (H2.out _ HSX.out).mono ?_
     rintro e wy ⟨rfl, rfl⟩
     go_wp2_with (fail)
     refine (H3.out _ HSX.out).mono ?_
     rintro e wy ⟨rfl, hsy⟩
     have HSY := Lib.hid (HSX.out.trans hsy (fun _ _ h => h))
     clear hsy hpl hml c0 c1 c2 c3 c4 m0 m2 m3 m4
     obtain ⟨hpl, hml, c0, c1, c2, c3, c4, m0, m2, m3, m4⟩ := HC.out _ HSY.out
     go_wp2_with (fail)
     refine (H4.out _ HSY.out).mono ?_
     rintro e wz ⟨rfl, hsz⟩
     have HSZ := Lib.hid (HSY.out.trans hsz (fun _ _ h => h))
     clear hsz hpl hml c0 c1 c2 c3 c4 m0 m2 m3 m4
     go_wp2
     go_roundw
     case rel => exact ⟨v + 1, by omega, by go_num, HSZ.out⟩
     case measure => simp [intOf] <;> omega
    ·obtain rfl : v = p.m.n := by omega
     have hJ : ¬ ((p.m.n : Nat) : Int) < (p.m.n : Int) := by omega
     have HSX := Lib.hid hsx
     clear hsx
     obtain ⟨hpl, hml, c0, c1, c2, c3, c4, m0, m2, m3, m4⟩ := HC.out _ HSX.out
     go_wp2_with (fail)
     refine (HRT.out _ HSX.out).mono ?_
     rintro e wa ⟨Ar, Cr, rfl, hRr, hFr, hsr⟩
     have HSA := Lib.hid (HSX.out.trans hsr (fun _ _ h => h))
     have HRR := Lib.hid (show Row1 wa 28 rc Ar (rootsK p.k).length Cr (rootsK p.k) from hRr)
     clear hsr hRr hFr hpl hml c0 c1 c2 c3 c4 m0 m2 m3 m4
     obtain ⟨hpl, hml, c0, c1, c2, c3, c4, m0, m2, m3, m4⟩ := HC.out _ HSA.out
     have hrge : ∀ x ∈ rootsK p.k, 0 ≤ x ∧ x < 4294967296 := roots_range HK.out
     have HRGE := Lib.hid hrge
     have HLRT := Lib.hid HL.out.rt
     have hrlb : (rootsK p.k).length ≤ 1048576 := roots_len HK.out
     clear hrge
     obtain ⟨RL, hRL⟩ : ∃ z, rootsK p.k = z := ⟨_, rfl⟩
     rw [hRL] at HRR HRGE HLRT m3 hrlb ⊢
     clear hRL
     have e7 : (RL.length != RL.length) = false := by simp
     go_wp2_with (fail)
     go_loopw [155] (fun i wx => ∃ k : Nat, k ≤ RL.length ∧ i = .int .i64 k ∧ Same wa wx) (fun i _ => RL.length - (intOf i).toNat)
     case atStart => exact ⟨0, Nat.zero_le _, rfl, Frm.refl _ _⟩
     case round =>
      as_aux_lemma =>
      clear hpl hml c0 c1 c2 c3 c4 m0 m2 m3 m4
      obtain ⟨k, hk, rfl, hsk⟩ := hrel
      have HSK := Lib.hid (HSA.out.trans hsk (fun _ _ h => h))
      by_cases hlt : k < RL.length
      ·have hI3 : (k : Int) < (RL.length : Int) := by omega
       obtain ⟨r, hr⟩ : ∃ r, RL[k]? = some r := ⟨_, List.getElem?_eq_getElem hlt⟩
       have hRk := HRR.out.frm hsk (fun _ _ => id)
       obtain ⟨sb, hA1, hsb, d0⟩ := hRk.at1 (c := rc) hr
       obtain ⟨t, ht, hnz, hhs, hup⟩ := HLRT.out k hlt
       have hrd : RL.getD k 0 = r := by rw [List.getD_eq_getElem?_getD, hr]; rfl
       rw [hrd] at ht hhs hup
       obtain ⟨hr0, hr1⟩ := HRGE.out r (List.mem_of_getElem? hr)
       obtain ⟨hf1, hf2⟩ := tabK_form HN16.out _ _ _ ht
       have htb := HTB.out r t hr0 hr1 ht
       have hho := fun A C => HHO.out A C t hf1 hf2
       have hhd := HHD.out r hr0 hr1
       rw [hhs] at hhd
       obtain ⟨hc, hhc⟩ : ∃ z, holdsL p.m.held t = z := ⟨_, rfl⟩
       rw [hhc] at hho hhd hnz
       have e0 : (hc == 0) = false := by simpa using hnz
       have e1 : (hc != hc) = false := by simp
       unfold rc at d0
       have hprev : k = 0 ∨ ∃ k' r', k = k' + 1 ∧ RL[k']? = some r' ∧ ¬ r ≤ r' := by
        rcases hup with h | h
        ·exact .inl h
        ·by_cases h0 : k = 0
         ·exact .inl h0
         ·refine .inr ⟨k - 1, RL.getD (k - 1) 0, by omega, ?_, by rw [List.getD_eq_getElem?_getD] at h ⊢; omega⟩
          rw [List.getD_eq_getElem?_getD, List.getElem?_eq_getElem (by omega)]
          rfl
       have HTBr := Lib.hid htb
       have HHOr := Lib.hid hho
       have HHDr := Lib.hid hhd
       have HPRV := Lib.hid hprev
       have HRK := Lib.hid hRk
       have HSKA := Lib.hid hsk
       have HA1 := Lib.hid hA1
       clear htb hho hhd hprev hRk hsk hhs hhc hup hrd hr ht hf1 hf2
       subst hA1
       obtain ⟨hpl, hml, c0, c1, c2, c3, c4, m0, m2, m3, m4⟩ := HC.out _ HSK.out
       go_upto_region 22 with fail
       go_cut [12, 13] (fun s1 s2 wx => ∃ (T : Nat) (A : Option Addr) (C : Nat), s1 = .pointer (some ⟨T, 0, none⟩) ∧ s2 = .bool true ∧ Blk wx T 108 #[.int .i64 p.m.n, .slice A t.length C] ∧ OwnW wx A t.length C t ∧ Same wr wx)
       case first =>
        as_aux_lemma =>
        refine wp_tS (fun _ => False) (.q [0,1,2,3,4,5,6,7,8,9,10,11] (.fork 12 (.q [13,14,15] (.step 16 (.step 17 (.last 18)))) 16 (.step 12 (.q [13,14,15] (.step 17 (.last 18)))))) (by kernel_rfl) (by kernel_rfl) ?_
        simp only [wpT, pick, List.map_cons, List.map_nil, List.getD_cons_zero, List.getD_cons_succ]
        have hs : Same wr wr.drew := (Frm.refl _ _).drew
        repeat go_big_quiet_step (fail)
        refine wpQuiet_nil ?_
        refine ⟨?_, ?_⟩
        ·refine effStep_plain rfl fun K hK => ?_
         go_simp
         refine (HTBr.out _ (HSK.out.trans hs (fun _ _ h => h))).mono ?_
         rintro e wa ⟨A5, C5, rfl, hO5, hF5, hs5⟩
         have hsa := hs.trans hs5 (fun _ _ h => h)
         refine hK _ _ (Lat.mk_ hsa) ?_
         clear hK K
         have HSA := Lib.hid hsa
         have HO5 := Lib.hid hO5
         clear hsa hO5 hs5 hF5 hs
         repeat go_big_quiet_step (fail)
         refine wpQuiet_nil ?_
         refine effStep_plain rfl fun K hK => ?_
         go_simp
         refine hK _ _ (Lat.mk_ (HSA.out.alloc _)) ?_
         clear hK K
         refine effStep_plain rfl fun K hK => ?_
         go_simp
         refine hK _ _ (Lat.mk_ (HSA.out.alloc _)) ?_
         clear hK K
         go_wp2_with fail
         go_meet
         exact ⟨wa.heap.size, A5, C5, rfl, rfl, Blk.new wa _ _, HO5.out.frm (S := fun _ => False) ((Frm.refl _ _).alloc _) (fun _ _ => id), HSA.out.alloc _⟩
        ·refine effStep_plain rfl fun K hK => ?_
         go_simp
         have hT := (Blk.new wr 108 #[.int .i64 0, .slice none 0 0]).drew
         have hsa : Same wr (wr.alloc (.cells #[.int .i64 0, .slice none 0 0] 108)).drew := ((Frm.refl _ _).alloc _).drew
         refine hK _ _ (Lat.mk_ hsa) ?_
         clear hK K
         generalize (wr.alloc (.cells #[.int .i64 0, .slice none 0 0] 108)).drew = wa at hT hsa ⊢
         refine effStep_plain rfl fun K hK => ?_
         go_simp
         refine (HTBr.out _ (HSK.out.trans hsa (fun _ _ h => h))).mono ?_
         rintro e wb ⟨A5, C5, rfl, hO5, hF5, hs5⟩
         have hsb := hsa.trans hs5 (fun _ _ h => h)
         refine hK _ _ (Lat.mk_ hsb) ?_
         clear hK K
         have hT5 := hT.frm hs5 id
         have hnA : ∀ x, A5 = some x → x.block ≠ wr.heap.size := fun x hx h => hO5.ne_blk hT5 (by decide) x hx h
         have t0 := hT5.cell 0
         have t1 := hT5.cell 1
         have tl := hT5.lt
         have u0 := hT5.free 0
         have u1 := hT5.free 1
         simp at t0 t1
         have HSB := Lib.hid hsb
         have HO5 := Lib.hid hO5
         have HT5 := Lib.hid hT5
         have HNA := Lib.hid hnA
         clear hsb hO5 hs5 hF5 hT hT5 hsa hs hnA
         repeat go_big_quiet_step (fail)
         refine wpQuiet_nil ?_
         refine effStep_plain rfl fun K hK => ?_
         go_simp
         refine hK _ _ (Lat.mk_ ((HSB.out.setNew 0 _ (Nat.le_refl _)).setNew 1 _ (Nat.le_refl _))) ?_
         clear hK K
         go_wp2_with fail
         go_meet
         refine ⟨wr.heap.size, A5, C5, rfl, rfl, ?_, (Own.far (p := ⟨wr.heap.size, 0, none⟩) HO5.out HNA.out _).far (p := ⟨wr.heap.size, 1, none⟩) HNA.out _, (HSB.out.setNew 0 _ (Nat.le_refl _)).setNew 1 _ (Nat.le_refl _)⟩
         have := (HT5.out.set 0 (.int .i64 p.m.n)).set 1 (.slice A5 t.length C5)
         simpa using this
       case rest =>
        as_aux_lemma =>
        obtain ⟨T, A5, C5, rfl, rfl, hT, hO5, hs5⟩ := hcut
        have HS5 := Lib.hid (HSK.out.trans hs5 (fun _ _ h => h))
        have HSK5 := Lib.hid (HSKA.out.trans hs5 (fun _ _ h => h))
        have HT := Lib.hid hT
        have HO5 := Lib.hid hO5
        clear hpl hml c0 c1 c2 c3 c4 m0 m2 m3 m4 d0 hsb hs5 hT hO5
        obtain ⟨hpl, hml, c0, c1, c2, c3, c4, m0, m2, m3, m4⟩ := HC.out _ HS5.out
        have t0 := HT.out.cell 0
        have t1 := HT.out.cell 1
        have tl := HT.out.lt
        simp at t0 t1
        go_upto_region 23 with fail
        have hs : Same wc wc.drew := (Frm.refl _ _).drew
        have key : ∀ (G : Prop), (k = 0 → G) → (∀ k' r', k = k' + 1 → RL[k']? = some r' → ¬ r ≤ r' → G) → G := fun G h1 h2 => by
         rcases HPRV.out with h | ⟨k', r', a, b, c⟩
         ·exact h1 h
         ·exact h2 k' r' a b c
        refine wp_phS (fun _ => False) [([0, 1, 2, 3, 4, 5, 6, 7], 8), ([9, 10, 11, 12, 13, 14, 15, 16, 18, 19, 20, 21, 22], 17), ([], 23), ([24, 25, 26, 27, 28, 29, 30, 31, 32, 33, 34, 35, 36, 37], 38)] (by kernel_rfl) (by kernel_rfl) ?_
        rw [wpPh_go_eq]
        simp only [pick, List.map_cons, List.map_nil, List.getD_cons_zero, List.getD_cons_succ]
        repeat go_big_quiet_step (fail)
        refine wpQuiet_nil ?_
        refine effStep_on (by rfl) fun K hK => ?_
        go_simp
        refine (HHOr.out A5 C5 _ (HS5.out.trans hs (fun _ _ h => h)) (HO5.out.frm hs (fun _ _ => id))).mono ?_
        rintro e wd ⟨rfl, hsd⟩
        have hsd' := hs.trans hsd (fun _ _ h => h)
        refine hK _ _ (Lat.mk_ hsd') ?_
        clear hK K
        have HSD := Lib.hid hsd'
        have HS6 := Lib.hid (HS5.out.trans hsd' (fun _ _ h => h))
        have HT6 := Lib.hid (HT.out.frm hsd' id)
        have HO6 := Lib.hid (HO5.out.frm hsd' (fun _ _ => id))
        clear hsd hsd' hs
        rw [wpPh_go_eq]
        simp only [pick, List.map_cons, List.map_nil, List.getD_cons_zero, List.getD_cons_succ]
        repeat go_big_quiet_step (fail)
        refine wpQuiet_nil ?_
        refine effStep_on (by rfl) fun K hK => ?_
        go_simp
        refine (HHDr.out _ HS6.out).mono ?_
        rintro e we ⟨rfl, rfl⟩
        refine hK _ _ (Lat.mk_ HSD.out) ?_
        clear hK K
        rw [wpPh_go_eq]
        simp only [pick, List.map_nil, List.getD_cons_zero, List.getD_cons_succ]
        repeat go_big_quiet_step (fail)
        refine wpQuiet_nil ?_
        refine effStep_on (by rfl) fun K hK => ?_
        go_simp
        refine (HHOr.out A5 C5 _ HS6.out HO6.out).mono ?_
        rintro e wf ⟨rfl, hsf⟩
        have HSF := Lib.hid (HSD.out.trans hsf (fun _ _ h => h))
        have HS7 := Lib.hid (HS6.out.trans hsf (fun _ _ h => h))
        have HSK7 := Lib.hid (HSK5.out.trans HSF.out (fun _ _ h => h))
        refine hK _ _ (Lat.mk_ HSF.out) ?_
        clear hK K hsf
        rcases HPRV.out with rfl | ⟨k', r', rfl, hr', hrr⟩
        ·clear key
         rw [wpPh_end_eq]
         simp only [pick, List.map_cons, List.map_nil, List.getD_cons_zero, List.getD_cons_succ]
         repeat go_big_quiet_step (fail)
         rw [wpQuiet_nil_eq]
         go_wp2
         go_roundw
         case rel => exact ⟨1, by omega, by go_num, HSK7.out⟩
         case measure => simp [intOf] <;> omega
        ·clear key
         obtain ⟨sb', hA', hsb, d0⟩ := (HRR.out.frm HSK5.out (fun _ _ => id)).at1 (c := rc) hr'
         injection hA' with hA'
         injection hA' with hA'
         subst hA'
         unfold rc at d0
         have hk1 : (0 : Int) < (k' : Int) + 1 := by omega
         have hk2 : (k' : Int) < RL.length := by omega
         rw [wpPh_end_eq]
         simp only [pick, List.map_cons, List.map_nil, List.getD_cons_zero, List.getD_cons_succ]
         repeat go_big_quiet_step (fail)
         rw [wpQuiet_nil_eq]
         go_wp2
         go_roundw
         case rel => exact ⟨k' + 2, by omega, by go_num, HSK7.out⟩
         case measure => simp [intOf] <;> omega
      ·obtain rfl : k = RL.length := by omega
       have hI3 : ¬ ((RL.length : Nat) : Int) < (RL.length : Int) := by omega
       clear hsk
       go_wp2_with (fail)
       go_loopw [14] (fun i wx => ∃ k : Nat, k ≤ p.ts.length ∧ i = .int .i64 k ∧ Same w5 wx) (fun i _ => p.ts.length - (intOf i).toNat)
       case atStart => exact ⟨0, Nat.zero_le _, rfl, HSK.out⟩
       case round =>
        as_aux_lemma =>
        obtain ⟨k, hk, rfl, hsk⟩ := hrel
        have HSK4 := Lib.hid hsk
        obtain ⟨hpl, hml, c0, c1, c2, c3, c4, m0, m2, m3, m4⟩ := HC.out _ hsk
        clear hsk
        by_cases hlt : k < p.ts.length
        ·have hI4 : (k : Int) < (p.ts.length : Int) := by omega
         have hls := HLS.out k
         obtain ⟨lb, hlb⟩ : ∃ z, livesB (lookP p) k = z := ⟨_, rfl⟩
         rw [hlb] at hls
         have HLK := Lib.hid hls
         clear hls
         go_wp2_with (fail)
         refine (HLK.out _ HSK4.out).mono ?_
         rintro e wl ⟨rfl, hsl⟩
         have HSL := Lib.hid (HSK4.out.trans hsl (fun _ _ h => h))
         clear hsl hpl hml c0 c1 c2 c3 c4 m0 m2 m3 m4
         cases lb with
         | false =>
          clear hlb
          go_wp2
          go_roundw
          case rel => exact ⟨k + 1, by omega, by go_num, HSL.out⟩
          case measure => simp [intOf] <;> omega
         | true =>
          obtain ⟨ht, hfn⟩ := HL.out.fn k hlt hlb
          obtain ⟨r, hr⟩ : ∃ r, p.refs[k]? = some r := ⟨_, List.getElem?_eq_getElem (by rw [HR.out]; exact hlt)⟩
          obtain ⟨u, hu⟩ : ∃ u, q'.tt[k]? = some u := ⟨_, List.getElem?_eq_getElem (by have := congrArg List.length HTTE.out; rw [List.length_map] at this; omega)⟩
          have hur : p.ts.getD k [] = u.ws := by rw [List.getD_eq_getElem?_getD, ← HTTE.out, List.getElem?_map, hu]; rfl
          have hrd : p.refs.getD k 0 = r := by rw [List.getD_eq_getElem?_getD, hr]; rfl
          rw [hur] at ht hfn
          rw [hrd] at ht hfn
          obtain ⟨hr0, hr1⟩ := HRG.out r (List.mem_of_getElem? hr)
          have htb := HTB.out r u.ws hr0 hr1 ht
          obtain ⟨hpl, hml, c0, c1, c2, c3, c4, m0, m2, m3, m4⟩ := HC.out _ HSL.out
          obtain ⟨rb, hrb, hrbl, d0⟩ := (HROW.out _ HSL.out).at1 (c := rc) hr
          rw [hrb] at c2
          unfold rc at d0
          have HTBr := Lib.hid htb
          have HHR := Lib.hid hr
          have HHU := Lib.hid hu
          have HFN := Lib.hid hfn
          have HRB := Lib.hid hrb
          clear htb hr hu hfn hrb ht hur hrd hlb
          go_upto_region 30 with fail
          go_cut [15, 16] (fun s1 s2 wx => ∃ (T : Nat) (A : Option Addr) (C : Nat), s1 = .pointer (some ⟨T, 0, none⟩) ∧ s2 = .bool true ∧ Blk wx T 108 #[.int .i64 p.m.n, .slice A u.ws.length C] ∧ OwnW wx A u.ws.length C u.ws ∧ Same wl wx)
          case first =>
           as_aux_lemma =>
           refine wp_tS (fun _ => False) (.q [0,1,2,3,4,5,6,7,8,9,10,11,12,13,14,15,16,17] (.fork 18 (.q [19,20,21] (.step 22 (.step 23 (.last 24)))) 22 (.step 18 (.q [19,20,21] (.step 23 (.last 24)))))) (by kernel_rfl) (by kernel_rfl) ?_
           simp only [wpT, pick, List.map_cons, List.map_nil, List.getD_cons_zero, List.getD_cons_succ]
           have hs : Same wl wl.drew := (Frm.refl _ _).drew
           repeat go_big_quiet_step (fail)
           refine wpQuiet_nil ?_
           refine ⟨?_, ?_⟩
           ·refine effStep_plain rfl fun K hK => ?_
            go_simp
            refine (HTBr.out _ (HSL.out.trans hs (fun _ _ h => h))).mono ?_
            rintro e wa ⟨A5, C5, rfl, hO5, hF5, hs5⟩
            have hsa := hs.trans hs5 (fun _ _ h => h)
            refine hK _ _ (Lat.mk_ hsa) ?_
            clear hK K
            have HSA := Lib.hid hsa
            have HO5 := Lib.hid hO5
            clear hsa hO5 hs5 hF5 hs
            repeat go_big_quiet_step (fail)
            refine wpQuiet_nil ?_
            refine effStep_plain rfl fun K hK => ?_
            go_simp
            refine hK _ _ (Lat.mk_ (HSA.out.alloc _)) ?_
            clear hK K
            refine effStep_plain rfl fun K hK => ?_
            go_simp
            refine hK _ _ (Lat.mk_ (HSA.out.alloc _)) ?_
            clear hK K
            go_wp2_with fail
            go_meet
            exact ⟨wa.heap.size, A5, C5, rfl, rfl, Blk.new wa _ _, HO5.out.frm (S := fun _ => False) ((Frm.refl _ _).alloc _) (fun _ _ => id), HSA.out.alloc _⟩
           ·refine effStep_plain rfl fun K hK => ?_
            go_simp
            have hT := (Blk.new wl 108 #[.int .i64 0, .slice none 0 0]).drew
            have hsa : Same wl (wl.alloc (.cells #[.int .i64 0, .slice none 0 0] 108)).drew := ((Frm.refl _ _).alloc _).drew
            refine hK _ _ (Lat.mk_ hsa) ?_
            clear hK K
            generalize (wl.alloc (.cells #[.int .i64 0, .slice none 0 0] 108)).drew = wa at hT hsa ⊢
            refine effStep_plain rfl fun K hK => ?_
            go_simp
            refine (HTBr.out _ (HSL.out.trans hsa (fun _ _ h => h))).mono ?_
            rintro e wb ⟨A5, C5, rfl, hO5, hF5, hs5⟩
            have hsb := hsa.trans hs5 (fun _ _ h => h)
            refine hK _ _ (Lat.mk_ hsb) ?_
            clear hK K
            have hT5 := hT.frm hs5 id
            have hnA : ∀ x, A5 = some x → x.block ≠ wl.heap.size := fun x hx h => hO5.ne_blk hT5 (by decide) x hx h
            have t0 := hT5.cell 0
            have t1 := hT5.cell 1
            have tl := hT5.lt
            have u0 := hT5.free 0
            have u1 := hT5.free 1
            simp at t0 t1
            have HSB := Lib.hid hsb
            have HO5 := Lib.hid hO5
            have HT5 := Lib.hid hT5
            have HNA := Lib.hid hnA
            clear hsb hO5 hs5 hF5 hT hT5 hsa hs hnA
            repeat go_big_quiet_step (fail)
            refine wpQuiet_nil ?_
            refine effStep_plain rfl fun K hK => ?_
            go_simp
            refine hK _ _ (Lat.mk_ ((HSB.out.setNew 0 _ (Nat.le_refl _)).setNew 1 _ (Nat.le_refl _))) ?_
            clear hK K
            go_wp2_with fail
            go_meet
            refine ⟨wl.heap.size, A5, C5, rfl, rfl, ?_, (Own.far (p := ⟨wl.heap.size, 0, none⟩) HO5.out HNA.out _).far (p := ⟨wl.heap.size, 1, none⟩) HNA.out _, (HSB.out.setNew 0 _ (Nat.le_refl _)).setNew 1 _ (Nat.le_refl _)⟩
            have := (HT5.out.set 0 (.int .i64 p.m.n)).set 1 (.slice A5 u.ws.length C5)
            simpa using this
          case rest =>
           as_aux_lemma =>
           obtain ⟨T, A5, C5, rfl, rfl, hT, hO5, hs5⟩ := hcut
           have HS5 := Lib.hid (HSL.out.trans hs5 (fun _ _ h => h))
           have HT := Lib.hid hT
           have HO5 := Lib.hid hO5
           clear hpl hml c0 c1 c2 c3 c4 m0 m2 m3 m4 d0 hrbl hs5 hT hO5
           obtain ⟨hpl, hml, c0, c1, c2, c3, c4, m0, m2, m3, m4⟩ := HC.out _ HS5.out
           have t0 := HT.out.cell 0
           have t1 := HT.out.cell 1
           have tl := HT.out.lt
           simp at t0 t1
           obtain ⟨tb, htb, htbl, y0, y1⟩ := tab_at (HTAB.out _ HS5.out).1 (HTAB.out _ HS5.out).2 HHU.out
           rw [htb] at c3
           have hwl := ((HTAB.out _ HS5.out).2 u (List.mem_of_getElem? HHU.out)).fm.len
           have hsm := fun w' (hs : Same wc w') => tsame_any p.m.n A5 u.ws.length C5 u.ws p.m.n u.A u.ws.length u.C u.ws w' ((HO5.out.frm hs (fun _ _ => id)).sl ucell_len) (((HTAB.out _ (HS5.out.trans hs (fun _ _ h => h))).2 u (List.mem_of_getElem? HHU.out)).ok.wl) (by rw [hwl]; have := nw_le HN16.out; omega)
           have esm : sm p.m.n p.m.n u.ws u.ws = true := by unfold sm; simp
           rw [esm] at hsm
           have HSMk := Lib.hid hsm
           have HTBK := Lib.hid htb
           clear esm hsm hwl htb
           go_upto_region 31 with fail
           have hs : Same wc wc.drew := (Frm.refl _ _).drew
           refine wp_phS (fun _ => False) [([0, 1, 2, 3, 4, 5, 6, 7, 8, 9, 10], 11), ([12], 13)] (by kernel_rfl) (by kernel_rfl) ?_
           rw [wpPh_go_eq]
           simp only [pick, List.map_cons, List.map_nil, List.getD_cons_zero, List.getD_cons_succ]
           repeat go_big_quiet_step (fail)
           refine wpQuiet_nil ?_
           refine effStep_on (by rfl) fun K hK => ?_
           go_simp
           refine (HSMk.out _ hs).mono ?_
           rintro e wd ⟨rfl, hsd⟩
           have hsd' := hs.trans hsd (fun _ _ h => h)
           refine hK _ _ (Lat.mk_ hsd') ?_
           clear hK K
           have HSD := Lib.hid (HS5.out.trans hsd' (fun _ _ h => h))
           clear hsd hsd' hs HSMk HT HO5 HTBr HLK
           rw [wpPh_end_eq]
           simp only [pick, List.map_cons, List.map_nil, List.getD_cons_zero, List.getD_cons_succ]
           repeat go_big_quiet_step (fail)
           rw [wpQuiet_nil_eq]
           clear hpl hml c0 c1 c2 c3 c4 m0 m2 m3 m4 t0 t1 tl htbl y0 y1
           go_wp2_with (fail)
           go_loopw [17] (fun i wx => ∃ j : Nat, j ≤ k ∧ i = .int .i64 j ∧ Same w5 wx) (fun i _ => k - (intOf i).toNat)
           case atStart => exact ⟨0, Nat.zero_le _, rfl, HSD.out⟩
           case round =>
            as_aux_lemma =>
            obtain ⟨j, hj, rfl, hsj⟩ := hrel
            have HSJ := Lib.hid hsj
            clear hsj
            by_cases hjk : j < k
            ·have hI5 : (j : Int) < (k : Int) := by omega
             have hI6 : (j : Int) < (p.ts.length : Int) := by omega
             have hjt : j < p.ts.length := by omega
             have hls := HLS.out j
             obtain ⟨lj, hlj⟩ : ∃ z, livesB (lookP p) j = z := ⟨_, rfl⟩
             rw [hlj] at hls
             have HLJ := Lib.hid hls
             obtain ⟨rj, hrj⟩ : ∃ r, p.refs[j]? = some r := ⟨_, List.getElem?_eq_getElem (by rw [HR.out]; exact hjt)⟩
             obtain ⟨v, hv⟩ : ∃ u, q'.tt[j]? = some u := ⟨_, List.getElem?_eq_getElem (by have := congrArg List.length HTTE.out; rw [List.length_map] at this; omega)⟩
             have hvr : p.ts.getD j [] = v.ws := by rw [List.getD_eq_getElem?_getD, ← HTTE.out, List.getElem?_map, hv]; rfl
             have hrjd : p.refs.getD j 0 = rj := by rw [List.getD_eq_getElem?_getD, hrj]; rfl
             have hfj := HFN.out j hjk
             rw [hvr, hrjd, hlj] at hfj
             have hwl := ((HTAB.out _ HSJ.out).2 u (List.mem_of_getElem? HHU.out)).fm.len
             have hsm := fun w' (hs : Same w5 w') => tsame_any p.m.n u.A u.ws.length u.C u.ws p.m.n v.A v.ws.length v.C v.ws w' (((HTAB.out _ hs).2 u (List.mem_of_getElem? HHU.out)).ok.wl) (((HTAB.out _ hs).2 v (List.mem_of_getElem? hv)).ok.wl) (by rw [hwl]; have := nw_le HN16.out; omega)
             have esm : sm p.m.n p.m.n u.ws v.ws = decide (u.ws = v.ws) := by unfold sm; simp
             rw [esm] at hsm
             have HVR := Lib.hid hvr
             have HFJ := Lib.hid hfj
             have HSMj := Lib.hid hsm
             have HRJ := Lib.hid hrj
             have HHV := Lib.hid hv
             clear hls hlj hrj hv hvr hrjd hfj hwl hsm esm
             obtain ⟨hpl, hml, c0, c1, c2, c3, c4, m0, m2, m3, m4⟩ := HC.out _ HSJ.out
             go_upto_region 36 with fail
             have hs : Same wr wr.drew := (Frm.refl _ _).drew
             cases lj with
             | false =>
              refine wp_phS (fun _ => False) [([0, 1], 2), ([3, 4, 5, 6, 7, 8, 9, 10, 11, 12, 13, 14, 15, 16, 17, 19, 20, 21, 22, 23, 24, 25, 26, 27, 28, 29, 30, 31, 32, 33], 18), ([34], 35)] (by kernel_rfl) (by kernel_rfl) ?_
              rw [wpPh_go_eq]
              simp only [pick, List.map_cons, List.map_nil, List.getD_cons_zero, List.getD_cons_succ]
              repeat go_big_quiet_step (fail)
              refine wpQuiet_nil ?_
              refine effStep_plain rfl fun K hK => ?_
              go_simp
              refine (HLJ.out _ (HSJ.out.trans hs (fun _ _ h => h))).mono ?_
              rintro e wy ⟨rfl, hsy⟩
              have hsy' := hs.trans hsy (fun _ _ h => h)
              refine hK _ _ (Lat.mk_ hsy') ?_
              clear hK K
              have HSY := Lib.hid (HSJ.out.trans hsy' (fun _ _ h => h))
              clear hsy hsy' hs
              rw [wpPh_go_eq]
              simp only [pick, List.map_cons, List.map_nil, List.getD_cons_zero, List.getD_cons_succ]
              repeat go_big_quiet_step (fail)
              rw [wpQuiet_nil_eq]
              rw [effStep_skip_eq]
              rotate_left
              ·rfl
              rw [wpPh_end_eq]
              simp only [pick, List.map_cons, List.map_nil, List.getD_cons_zero, List.getD_cons_succ, Act.put, List.setIfInBounds_toArray, List.set_cons_succ, List.set_cons_zero]
              repeat go_big_quiet_step (fail)
              rw [wpQuiet_nil_eq]
              go_wp2
              go_roundw
              case rel => exact ⟨j + 1, by omega, by go_num, HSY.out⟩
              case measure => simp [intOf] <;> omega
             | true =>
              have hfj := HFJ.out rfl
              obtain ⟨bj, hbj⟩ : ∃ z, decide (u.ws = v.ws) = z := ⟨_, rfl⟩
              rw [hbj] at HSMj hfj
              have HFJ2 := Lib.hid hfj
              clear hfj hbj
              obtain ⟨tb2, htb2, htbl, y0, y1⟩ := tab_at (HTAB.out _ HSJ.out).1 (HTAB.out _ HSJ.out).2 HHU.out
              obtain ⟨tb3, htb3, _, z0, z1⟩ := tab_at (HTAB.out _ HSJ.out).1 (HTAB.out _ HSJ.out).2 HHV.out
              rw [htb2] at htb3 c3
              injection htb3 with htb3
              injection htb3 with htb3
              subst htb3
              obtain ⟨rb2, hrb2, hrbl, d0⟩ := (HROW.out _ HSJ.out).at1 (c := rc) HHR.out
              obtain ⟨rb3, hrb3, _, d1⟩ := (HROW.out _ HSJ.out).at1 (c := rc) HRJ.out
              rw [hrb2] at hrb3 c2
              injection hrb3 with hrb3
              injection hrb3 with hrb3
              subst hrb3
              unfold rc at d0 d1
              clear htb2 hrb2
              refine wp_phS (fun _ => False) [([0, 1], 2), ([3, 4, 5, 6, 7, 8, 9, 10, 11, 12, 13, 14, 15, 16, 17, 19, 20, 21, 22, 23, 24, 25, 26, 27, 28, 29, 30, 31, 32, 33], 18), ([34], 35)] (by kernel_rfl) (by kernel_rfl) ?_
              rw [wpPh_go_eq]
              simp only [pick, List.map_cons, List.map_nil, List.getD_cons_zero, List.getD_cons_succ]
              repeat go_big_quiet_step (fail)
              refine wpQuiet_nil ?_
              refine effStep_plain rfl fun K hK => ?_
              go_simp
              refine (HLJ.out _ (HSJ.out.trans hs (fun _ _ h => h))).mono ?_
              rintro e wy ⟨rfl, hsy⟩
              have hsy' := hs.trans hsy (fun _ _ h => h)
              refine hK _ _ (Lat.mk_ hsy') ?_
              clear hK K
              have HSYX := Lib.hid hsy'
              have HSY := Lib.hid (HSJ.out.trans hsy' (fun _ _ h => h))
              clear hsy hsy' hs
              rw [wpPh_go_eq]
              simp only [pick, List.map_cons, List.map_nil, List.getD_cons_zero, List.getD_cons_succ]
              repeat go_big_quiet_step (fail)
              refine wpQuiet_nil ?_
              refine effStep_on (by rfl) fun K hK => ?_
              go_simp
              refine (HSMj.out _ HSY.out).mono ?_
              rintro e wz ⟨rfl, hsz⟩
              have HSZ := Lib.hid (HSY.out.trans hsz (fun _ _ h => h))
              refine hK _ _ (Lat.mk_ (HSYX.out.trans hsz (fun _ _ h => h))) ?_
              clear hK K hsz
              by_cases hrr : r = rj
              ·have hb : bj = true := by rw [HFJ2.out]; simpa using hrr
               subst hb
               subst hrr
               rw [wpPh_end_eq]
               simp only [pick, List.map_cons, List.map_nil, List.getD_cons_zero, List.getD_cons_succ]
               repeat go_big_quiet_step (fail)
               rw [wpQuiet_nil_eq]
               go_wp2
               go_roundw
               case rel => exact ⟨j + 1, by omega, by go_num, HSZ.out⟩
               case measure => simp [intOf] <;> omega
              ·have hb : bj = false := by rw [HFJ2.out]; simpa using hrr
               subst hb
               rw [wpPh_end_eq]
               simp only [pick, List.map_cons, List.map_nil, List.getD_cons_zero, List.getD_cons_succ]
               repeat go_big_quiet_step (fail)
               rw [wpQuiet_nil_eq]
               go_wp2
               go_roundw
               case rel => exact ⟨j + 1, by omega, by go_num, HSZ.out⟩
               case measure => simp [intOf] <;> omega
            ·obtain rfl : j = k := by omega
             have hI5 : ¬ (j : Int) < (j : Int) := by omega
             obtain ⟨hpl, hml, c0, c1, c2, c3, c4, m0, m2, m3, m4⟩ := HC.out _ HSJ.out
             go_wp2
             go_roundw
             case rel => exact ⟨j + 1, by omega, by go_num, HSJ.out⟩
             case measure => simp [intOf] <;> omega
        ·obtain rfl : k = p.ts.length := by omega
         have hI4 : ¬ ((p.ts.length : Nat) : Int) < (p.ts.length : Int) := by omega
         go_wp2
         go_ret
         obtain ⟨q9, h9⟩ := HFIN.out
         exact ⟨rfl, ⟨q9, h9.same HSK4.out⟩, HUF.out.trans (Up.ofSame HSK4.out)⟩
end
end Go.Proofs.YtiomgckodmecbaaGreat
namespace Go.Proofs.YtiomgckodmecbaaGreat
open Go.RowKit Go.Tk
set_option maxRecDepth 100000
theorem ki_st0 : KI st0.k := ki_new (n := 2) (c := 5) (by decide) (by decide) (by decide) (by decide)
theorem st1_k : st1.k = (makeK st0.k (mkNd st0 1 0 1)).2.2 := by
 unfold st1 countP makeP
 split <;> rfl
theorem st2_k : st2.k = (makeK st1.k (mkNd st1 0 0 2)).2.2 := by
 unfold st2 countP makeP
 split <;> rfl
theorem ki_st1 : KI st1.k := by
 rw [st1_k]
 exact ki_make ki_st0 (by decide +kernel) (by decide +kernel)
theorem ki_st2 : KI st2.k := by
 rw [st2_k]
 exact ki_make ki_st1 (by decide +kernel) (by decide +kernel)
theorem ki_st3 : KI st3.k := ki_drop ki_st2 (by decide +kernel)
structure PC (p : PS) : Prop where
 ord : OrdOk p.m
 hc : HcOk p.m
 hh : p.m.held.length < 1500000
 hd : p.dead.length = p.ts.length
 hr : p.refs.length = p.ts.length
 hll : p.live.length ≤ 2097152000000
 hrg : ∀ x ∈ p.refs, 0 ≤ x ∧ x < 4294967296
 htl : p.ts.length ≤ 4000000000000
 hon : p.m.ord.length = p.m.n
 htm : p.m.tr.length < 10000000000000
theorem pc_st0 : PC st0 := ⟨by unfold OrdOk; decide +kernel, by unfold HcOk; decide +kernel, by decide +kernel, by decide +kernel, by decide +kernel, by decide +kernel, by decide +kernel, by decide +kernel, by decide +kernel, by decide +kernel⟩
theorem pc_st1 : PC st1 := ⟨by unfold OrdOk; decide +kernel, by unfold HcOk; decide +kernel, by decide +kernel, by decide +kernel, by decide +kernel, by decide +kernel, by decide +kernel, by decide +kernel, by decide +kernel, by decide +kernel⟩
theorem pc_st2 : PC st2 := ⟨by unfold OrdOk; decide +kernel, by unfold HcOk; decide +kernel, by decide +kernel, by decide +kernel, by decide +kernel, by decide +kernel, by decide +kernel, by decide +kernel, by decide +kernel, by decide +kernel⟩
theorem pc_st3 : PC st3 := ⟨by unfold OrdOk; decide +kernel, by unfold HcOk; decide +kernel, by decide +kernel, by decide +kernel, by decide +kernel, by decide +kernel, by decide +kernel, by decide +kernel, by decide +kernel, by decide +kernel⟩
def opsA : List (Int × Int × Int × Int) := [(1, 1, 0, 1), (1, 0, 0, 2), (3, 2, 0, 0), (4, 0, 0, 0)]
def opc (o : Int × Int × Int × Int) : List Value := [.int .i64 o.1, .int .i64 o.2.1, .int .i64 o.2.2.1, .int .i64 o.2.2.2]
theorem opc_len (o : Int × Int × Int × Int) : (opc o).length = 4 := rfl
def preA : Nat → PS
 | 0 => beginP 2 5
 | 1 => makeP st0 1 0 1
 | 2 => makeP st1 0 0 2
 | 3 => dropP st2 2
 | _ => exchP st3 0
theorem ord_pre (k : Nat) : OrdOk (preA k).m := by
 match k with
 | 0 => unfold OrdOk; decide +kernel
 | 1 => unfold OrdOk; decide +kernel
 | 2 => unfold OrdOk; decide +kernel
 | 3 => unfold OrdOk; decide +kernel
 | _ + 4 => unfold OrdOk; show ∀ v ∈ (exchP st3 0).m.ord, 0 ≤ v ∧ v < (exchP st3 0).m.n; decide +kernel
section
variable {w w' : World} {B : Nat → Prop} {pp : Nat} {q : PA}
abbrev DoesTo (B : Nat → Prop) (w : World) (pp : Nat) (p' : PS) (e : Ending) (w' : World) : Prop := e = .returned (.bool true) ∧ (∃ q', PW B w' pp p' q') ∧ Up B w w'
theorem step0 (hP : PW B w pp st0 q) (hB : ∀ b, B b → b < w.heap.size) :
  Calls Tryz.prog 31 #[.pointer (some ⟨pp, 0, none⟩), .agg #[.int .i64 1, .int .i64 1, .int .i64 0, .int .i64 1]] w (DoesTo B w pp (makeP st0 1 0 1)) := by
 refine (does_make pp 1 0 1 (fun w' _ w'' => (∃ q', PW B w'' pp (makeP st0 1 0 1) q') ∧ Up B w' w'') (fun w' hs => ?_)).mono ?_
 ·exact make_law (hP.same hs) (fun b hb => Nat.lt_of_lt_of_le (hB b hb) hs.size) ki_st0 pc_st0.ord pc_st0.hc pc_st0.hh pc_st0.hd pc_st0.hr pc_st0.hll pc_st0.hrg pc_st0.htl 1 1 0 1 run_l0.1 run_l0.2 run_a1 (fun h => absurd run_n1.2.2 h) run_n1.1 run_n1.2.1
 ·rintro e w'' ⟨rfl, w', hs, hq, hu⟩
  exact ⟨rfl, hq, (Up.ofSame hs).trans hu⟩
theorem step1 (hP : PW B w pp st1 q) (hB : ∀ b, B b → b < w.heap.size) :
  Calls Tryz.prog 31 #[.pointer (some ⟨pp, 0, none⟩), .agg #[.int .i64 1, .int .i64 0, .int .i64 0, .int .i64 2]] w (DoesTo B w pp (makeP st1 0 0 2)) := by
 refine (does_make pp 0 0 2 (fun w' _ w'' => (∃ q', PW B w'' pp (makeP st1 0 0 2) q') ∧ Up B w' w'') (fun w' hs => ?_)).mono ?_
 ·exact make_law (hP.same hs) (fun b hb => Nat.lt_of_lt_of_le (hB b hb) hs.size) ki_st1 pc_st1.ord pc_st1.hc pc_st1.hh pc_st1.hd pc_st1.hr pc_st1.hll pc_st1.hrg pc_st1.htl 1 0 0 2 run_l1.1 run_l1.2 run_a2 (fun h => absurd run_n2.2.2 h) run_n2.1 run_n2.2.1
 ·rintro e w'' ⟨rfl, w', hs, hq, hu⟩
  exact ⟨rfl, hq, (Up.ofSame hs).trans hu⟩
theorem step2 (hP : PW B w pp st2 q) (hB : ∀ b, B b → b < w.heap.size) :
  Calls Tryz.prog 31 #[.pointer (some ⟨pp, 0, none⟩), .agg #[.int .i64 3, .int .i64 2, .int .i64 0, .int .i64 0]] w (DoesTo B w pp (dropP st2 2)) :=
 does_drop hP hB ki_st2.bk pc_st2.hc pc_st2.hd pc_st2.hr pc_st2.hll pc_st2.hrg 2 0 0 run_l2 run_a3 run_n3.1 run_n3.2
theorem step3 (hP : PW B w pp st3 q) (hB : ∀ b, B b → b < w.heap.size) :
  Calls Tryz.prog 31 #[.pointer (some ⟨pp, 0, none⟩), .agg #[.int .i64 4, .int .i64 0, .int .i64 0, .int .i64 0]] w (DoesTo B w pp (exchP st3 0)) := by
 refine does_exch hP hB 0 0 0 (by decide +kernel) (fun _ h1 => ?_) (by decide +kernel) pc_st3.ord pc_st3.hon pc_st3.htm run_a4 run_n4.1 run_n4.2
 obtain ⟨x, y, h⟩ := xy_of (l := (0 : Int).toNat) ki_st3 (by decide +kernel)
 exact ⟨x, y, turn_ok h ki_st3⟩
theorem step_law (k : Nat) (o : Int × Int × Int × Int) (ho : opsA[k]? = some o) (hP : PW B w pp (countP (preA k)) q) (hB : ∀ b, B b → b < w.heap.size) :
  Calls Tryz.prog 31 #[.pointer (some ⟨pp, 0, none⟩), .agg #[.int .i64 o.1, .int .i64 o.2.1, .int .i64 o.2.2.1, .int .i64 o.2.2.2]] w (DoesTo B w pp (preA (k + 1))) := by
 match k with
 | 0 => injection ho with ho; subst ho; exact step0 hP hB
 | 1 => injection ho with ho; subst ho; exact step1 hP hB
 | 2 => injection ho with ho; subst ho; exact step2 hP hB
 | 3 => injection ho with ho; subst ho; exact step3 hP hB
 | _ + 4 => cases ho
end
theorem run_look5 : lookB (exchP st3 0) = true := by decide +kernel
end Go.Proofs.YtiomgckodmecbaaGreat
namespace Go.Proofs.YtiomgckodmecbaaGreat
open Go.RowKit Go.Tk
section
variable {w w' : World} {B : Nat → Prop} {pp : Nat} {p : PS} {q : PA}
theorem Up.kept {g : Nat} {ty : TypeId} {cs : Array Value} (h : Up B w w') (hb : Blk w g ty cs) (hg : B g) : Blk w' g ty cs := hb.frm h (fun hn => hn hg)
set_option maxRecDepth 100000
theorem ki_st5 : KI (exchP st3 0).k := ki_exch ki_st3 0
theorem pc_st5 : PC (exchP st3 0) := ⟨by unfold OrdOk; decide +kernel, by unfold HcOk; decide +kernel, by decide +kernel, by decide +kernel, by decide +kernel, by decide +kernel, by decide +kernel, by decide +kernel, by decide +kernel, by decide +kernel⟩
theorem st5_len : (exchP st3 0).refs.length = 4 := by decide +kernel
theorem st5_tr : (exchP st3 0).k.tr.length = 1 := by decide +kernel
theorem st5_ac : (exchP st3 0).k.ac = 4 := by decide +kernel
theorem st5_ord : (exchP st3 0).k.ord.length ≤ 64 := by decide +kernel
set_option maxRecDepth 100000 in
set_option maxHeartbeats 8000000 in
theorem awake9_law (w : World) : Calls Tryz.prog 12 #[] w fun e w' => e = .returned (.bool true) ∧ Same w w' := by
 have hbg := begin_law 2 5 (by decide) (by decide) (by decide) (by decide) w
 have HBG := Lib.hid hbg
 clear hbg
 go_enter Tryz.func12, Tryz.ntmps12
 go_wp2_with (fail)
 refine HBG.out.mono ?_
 rintro e w1 ⟨pp, q1, rfl, hP1, hs1⟩
 have HP1 := Lib.hid hP1
 have HS1 := Lib.hid hs1
 clear hP1 hs1
 go_wp2_with (fail)
 refine wp_world fun w2 hw2 => ?_
 have hSB := Blk.new w1 60 #[.int .i64 1, .int .i64 1, .int .i64 0, .int .i64 1, .int .i64 1, .int .i64 0, .int .i64 0, .int .i64 2, .int .i64 3, .int .i64 2, .int .i64 0, .int .i64 0, .int .i64 4, .int .i64 0, .int .i64 0, .int .i64 0]
 have hs2 : Same w1 w2 := by rw [hw2]; exact (Frm.refl _ _).alloc _
 rw [← hw2] at hSB
 clear hw2
 have hP2 : PW (fun b => b < w.heap.size ∨ b = w1.heap.size) w2 pp (beginP 2 5) q1 := (HP1.out.same hs2).keepB (fun b hb hn => by
  rcases hn with hn | hn
  ·exact HP1.out.base b hb hn
  ·have := HP1.out.all_lt b hb
   omega)
 have hW1 := HS1.out.size
 obtain ⟨SB, hSBe⟩ : ∃ z, w1.heap.size = z := ⟨_, rfl⟩
 rw [hSBe] at hSB hP2 ⊢
 have hS12 : Same w w2 := HS1.out.trans hs2 (fun _ _ h => h)
 have hB2 : ∀ b, (b < w.heap.size ∨ b = SB) → b < w2.heap.size := fun b hb => by
  have := hSB.lt
  have := hs2.size
  omega
 have HSB := Lib.hid hSB
 have HP2 := Lib.hid hP2
 have HS12 := Lib.hid hS12
 have HB2 := Lib.hid hB2
 clear hSB hP2 hS12 hB2 hs2 hSBe hW1
 go_loopw [17] (fun i wr => ∃ k : Nat, k ≤ 4 ∧ i = .int .i64 k ∧ (∃ q', PW (fun b => b < w.heap.size ∨ b = SB) wr pp (preA k) q') ∧ Up (fun b => b < w.heap.size ∨ b = SB) w2 wr) (fun i _ => 4 - (intOf i).toNat)
 case atStart => exact ⟨0, by omega, rfl, ⟨q1, HP2.out⟩, Frm.refl _ _⟩
 case round =>
  obtain ⟨k, hk, rfl, ⟨q', hPr⟩, hU⟩ := hrel
  have hSBr := hU.kept HSB.out (.inr rfl)
  have hBr : ∀ b, (b < w.heap.size ∨ b = SB) → b < wr.heap.size := fun b hb => Nat.lt_of_lt_of_le (HB2.out b hb) hU.size
  by_cases hlt : k < 4
  ·have hI : (k : Int) < 4 := by omega
   obtain ⟨o, ho⟩ : ∃ o, opsA[k]? = some o := ⟨_, List.getElem?_eq_getElem (by exact hlt)⟩
   have hrow : Go.Tk.Own wr 60 4 opc (some ⟨SB, 0, none⟩) opsA.length opsA.length opsA := Own.ofBlk opc_len hSBr opsA (by decide) rfl
   obtain ⟨b', hb', hbl, hc⟩ := hrow.get opc_len ho
   injection hb' with hb'
   injection hb' with hb'
   subst hb'
   have c0 : wr.cell? ⟨SB, k * 4, none⟩ = some (.int .i64 o.1) := hc 0 (by omega)
   have c1 : wr.cell? ⟨SB, k * 4 + 1, none⟩ = some (.int .i64 o.2.1) := hc 1 (by omega)
   have c2 : wr.cell? ⟨SB, k * 4 + 2, none⟩ = some (.int .i64 o.2.2.1) := hc 2 (by omega)
   have c3 : wr.cell? ⟨SB, k * 4 + 3, none⟩ = some (.int .i64 o.2.2.2) := hc 3 (by omega)
   have HO := Lib.hid ho
   have HPR := Lib.hid hPr
   have HU := Lib.hid hU
   have HBR := Lib.hid hBr
   clear ho hPr hU hBr hrow hSBr hc
   go_upto_region 7 with fail
   refine wp_world fun w3 hw3 => ?_
   have hT := Blk.new wr 60 #[.int .i64 o.1, .int .i64 o.2.1, .int .i64 o.2.2.1, .int .i64 o.2.2.2]
   have hs3 : Same wr w3 := by rw [hw3]; exact (Frm.refl _ _).alloc _
   rw [← hw3] at hT
   clear hw3
   have hP3 : PW (fun b => (b < w.heap.size ∨ b = SB) ∨ b = wr.heap.size) w3 pp (preA k) q' := (HPR.out.same hs3).keepB (fun b hb hn => by
    rcases hn with hn | hn
    ·exact HPR.out.base b hb hn
    ·have := HPR.out.all_lt b hb
     omega)
   have hB3 : ∀ b, ((b < w.heap.size ∨ b = SB) ∨ b = wr.heap.size) → b < w3.heap.size := fun b hb => by
    have := hT.lt
    have := hs3.size
    rcases hb with hb | hb
    ·have := HBR.out b hb
     omega
    ·omega
   have hU3 : Up (fun b => b < w.heap.size ∨ b = SB) w2 w3 := HU.out.trans (Up.ofSame hs3)
   have hcl := count_law hP3 (ord_pre k) hB3
   have HCL := Lib.hid hcl
   have HB3 := Lib.hid hB3
   have HT := Lib.hid hT
   have HU3 := Lib.hid hU3
   clear hT hs3 hP3 hB3 hU3 hcl c0 c1 c2 c3 hbl HPR HU HBR
   go_wp2_with (fail)
   refine HCL.out.mono ?_
   rintro e w4 ⟨rfl, ⟨q4, hP4⟩, hU4⟩
   have hT4 := hU4.kept HT.out (.inr rfl)
   have hB4 : ∀ b, ((b < w.heap.size ∨ b = SB) ∨ b = wr.heap.size) → b < w4.heap.size := fun b hb => Nat.lt_of_lt_of_le (HB3.out b hb) hU4.size
   have hst := step_law k o HO.out hP4 hB4
   have HST := Lib.hid hst
   have hU24 : Up (fun b => b < w.heap.size ∨ b = SB) w2 w4 := HU3.out.trans (Frm.mono hU4 (fun b _ hn hb => hn (.inl hb)))
   have HU4 := Lib.hid hU24
   have t0 := hT4.cell 0
   have t1 := hT4.cell 1
   have t2 := hT4.cell 2
   have t3 := hT4.cell 3
   have tl := hT4.lt
   simp at t0 t1 t2 t3
   clear hP4 hU4 hT4 hB4 hst hU24
   go_wp2_with (fail)
   refine HST.out.mono ?_
   rintro e w5 ⟨rfl, ⟨q5, hP5⟩, hU5⟩
   have HP5 := Lib.hid (hP5.keepB (B' := fun b => b < w.heap.size ∨ b = SB) (fun b hb hn => hP5.base b hb (.inl hn)))
   have HU5 := Lib.hid (show Up (fun b => b < w.heap.size ∨ b = SB) w2 w5 from HU4.out.trans (Frm.mono hU5 (fun b _ hn hb => hn (.inl hb))))
   clear hP5 hU5 t0 t1 t2 t3 tl
   go_wp2
   go_roundw
   case rel => exact ⟨k + 1, by omega, by go_num, ⟨q5, HP5.out⟩, HU5.out⟩
   case measure => simp [intOf] <;> omega
  ·obtain rfl : k = 4 := by omega
   have hP5 : PW (fun b => b < w.heap.size ∨ b = SB) wr pp (exchP st3 0) q' := hPr
   have hlk := looks_law hP5 hBr ki_st5 (rng_ki ki_st5) pc_st5.ord pc_st5.hd pc_st5.hr pc_st5.hrg pc_st5.htl st5_ord (by rw [st5_ac] <;> decide) (look_facts run_look5)
   have HLK := Lib.hid hlk
   have c2 := hP5.c2
   rw [st5_len] at c2
   have hpl := hP5.blk.lt
   have HU := Lib.hid hU
   clear hPr hP5 hlk hBr hSBr hU
   go_wp2_with (fail)
   refine HLK.out.mono ?_
   rintro e w6 ⟨rfl, ⟨q6, hP6⟩, hU6⟩
   clear c2 hpl
   have hlv : Calls Tryz.prog 18 #[.pointer (some ⟨q6.kp, 0, none⟩)] w6 fun e w'' => e = .returned (.int .i64 2) ∧ w6 = w'' := by
    have h := klive2_any hP6.k (by rw [show (lookP (exchP st3 0)).k.ac = 4 from st5_ac] <;> decide)
    rw [show (((lookP (exchP st3 0)).k.ac : Nat) : Int) - 2 = 2 from by rw [show (lookP (exchP st3 0)).k.ac = 4 from st5_ac]; rfl] at h
    exact h
   have htr : Calls Tryz.prog 35 #[.pointer (some ⟨q6.kp, 0, none⟩)] w6 fun e w'' => e = .returned (.int .i64 1) ∧ w6 = w'' := by
    have h := ktrail_any hP6.k
    rw [show (lookP (exchP st3 0)).k.tr.length = 1 from st5_tr] at h
    exact h
   have hpl := hP6.blk.lt
   have c0 := hP6.c0
   have HLV := Lib.hid hlv
   have HTR := Lib.hid htr
   have hfin : Same w w6 := by
    have h1 := HU.out.trans hU6
    exact HS12.out.trans (Frm.mono h1 (fun b _ h => h)) (fun b hb hn => hn (.inl hb))
   have HFIN := Lib.hid hfin
   clear hlv htr hP6 hU6 hfin
   go_wp2_with (fail)
   refine HLV.out.mono ?_
   rintro e w7 ⟨rfl, rfl⟩
   go_wp2_with (fail)
   refine HTR.out.mono ?_
   rintro e w7 ⟨rfl, rfl⟩
   go_wp2
   go_ret
   exact ⟨rfl, HFIN.out⟩
end
end Go.Proofs.YtiomgckodmecbaaGreat
namespace Go.Proofs.YtiomgckodmecbaaGreat
open Go.RowKit Go.Tk
theorem holdK_st (k : KS) (r : Int) : (holdK k r).n = k.n ∧ (holdK k r).c = k.c := by
 unfold holdK
 split
 ·exact ⟨useK_n k r, congrArg (fun t => t.2.1) (useK_kst k r)⟩
 ·exact ⟨rfl, rfl⟩
theorem keepK_st (k : KS) (r : Int) : (keepK k r).2.n = k.n ∧ (keepK k r).2.c = k.c := by
 unfold keepK
 split
 ·exact ⟨rfl, rfl⟩
 ·split
  ·split
   ·exact ⟨rfl, rfl⟩
   ·exact holdK_st k r
  ·exact ⟨rfl, rfl⟩
theorem relK_st (k : KS) (r : Int) : (relK k r).n = k.n ∧ (relK k r).c = k.c := ⟨relF_n _ k _, congrArg (fun t => t.2.1) (relF_kst _ k _)⟩
theorem unholdK_st (k : KS) (r : Int) : (unholdK k r).n = k.n ∧ (unholdK k r).c = k.c := by
 unfold unholdK
 split
 ·exact relK_st _ r
 ·exact ⟨rfl, rfl⟩
theorem dropK_st (k : KS) (r : Int) : (dropK k r).2.n = k.n ∧ (dropK k r).2.c = k.c := by
 unfold dropK
 split
 ·split
  ·exact ⟨rfl, rfl⟩
  ·exact unholdK_st k r
 ·exact ⟨rfl, rfl⟩
theorem keptK_st (k : KS) (r : Int) : (keptK k r).2.2.n = k.n ∧ (keptK k r).2.2.c = k.c := by
 unfold keptK
 split
 ·exact keepK_st k r
 ·exact keepK_st k r
theorem makeL_st (k : KS) (n : Nd) (o : Option Int) : (makeL k n o).2.2.n = k.n ∧ (makeL k n o).2.2.c = k.c := by
 cases o with
 | some r => exact keptK_st k r
 | none =>
  show (if k.ac + 1 ≤ k.c then keptK (takeK k n) (takeR k) else (0, 9, k)).2.2.n = k.n ∧ (if k.ac + 1 ≤ k.c then keptK (takeK k n) (takeR k) else (0, 9, k)).2.2.c = k.c
  by_cases hc : k.ac + 1 ≤ k.c
  ·rw [if_pos hc]
   have h := keptK_st (takeK k n) (takeR k)
   exact ⟨h.1.trans (takeK_n k n), h.2.trans (congrArg (fun t => t.2.1) (takeK_kst k n))⟩
  ·rw [if_neg hc]
   exact ⟨rfl, rfl⟩
theorem makeK_st (k : KS) (n : Nd) : (makeK k n).2.2.n = k.n ∧ (makeK k n).2.2.c = k.c := by
 unfold makeK
 split
 ·exact makeL_st k n _
 ·exact ⟨rfl, rfl⟩
theorem turnK_st (k : KS) (l : Nat) : (turnK k l).2.n = k.n ∧ (turnK k l).2.c = k.c := by
 refine ⟨turnK_n k l, ?_⟩
 unfold turnK
 split
 ·show (turn3 (turn2 (turn1 k _) _ _ _) _).c = k.c
  have h := fun x y => ((turn3_kst (turn2 (turn1 k (crsT k x y)) x y (crsT k x y)) (crsT k x y)).trans (turn2_kst _ x y _)).trans (turn1_kst k (crsT k x y))
  exact congrArg (fun t => t.2.1) (h _ _)
 ·rfl
theorem exchK_st (k : KS) (l : Int) : (exchK k l).2.n = k.n ∧ (exchK k l).2.c = k.c := by
 unfold exchK
 split
 ·exact ⟨rfl, rfl⟩
 ·split
  ·exact turnK_st k _
  ·exact turnK_st k _
theorem undoK_st (k : KS) : (undoK k).2.2.n = k.n ∧ (undoK k).2.2.c = k.c := by
 unfold undoK
 split
 ·exact ⟨rfl, rfl⟩
 ·exact turnK_st k _
structure KR (B : Nat → Prop) (w : World) (kp : Nat) (k : KS) : Prop where
 ex : ∃ a, KW w kp k a ∧ ∀ b, KFp k.n kp a b → ¬ B b
 ki : KI k
def TrOk (k : KS) : Prop := ∀ l ∈ k.tr, 0 ≤ l ∧ l + 1 < k.n
section
variable {w w' : World} {B B' : Nat → Prop} {kp : Nat} {k : KS}
theorem KR.same (h : KR B w kp k) (hs : Same w w') : KR B w' kp k := by
 obtain ⟨a, h1, h2⟩ := h.ex
 exact ⟨⟨a, h1.same hs, h2⟩, h.ki⟩
theorem KR.sub (h : KR B w kp k) (hs : ∀ b, B' b → B b) : KR B' w kp k := by
 obtain ⟨a, h1, h2⟩ := h.ex
 exact ⟨⟨a, h1, fun b hb hn => h2 b hb (hs b hn)⟩, h.ki⟩
theorem KR.also (h : KR B w kp k) (hs : Same w w') {C : Nat → Prop} (hC : ∀ b, C b → w.heap.size ≤ b) : KR (fun b => B b ∨ C b) w' kp k := by
 obtain ⟨a, h1, h2⟩ := h.ex
 refine ⟨⟨a, h1.same hs, fun b hb hn => ?_⟩, h.ki⟩
 rcases hn with hn | hn
 ·exact h2 b hb hn
 ·have := hC b hn
  have := h1.lt hb
  omega
theorem KR.frm (h : KR B w kp k) {S : Nat → Prop} (hf : Frm S w w') (hS : ∀ b, S b → B b) : KR B w' kp k := by
 obtain ⟨a, h1, h2⟩ := h.ex
 exact ⟨⟨a, h1.frm hf (fun b hb hn => h2 b hb (hS b hn)), h2⟩, h.ki⟩
theorem KR.go {a a' : KA} {k' : KS} (h2 : ∀ b, KFp k.n kp a b → ¬ B b) (hk : KW w' kp k' a') (hg : KGo k.n kp w a w' a') (hn : k'.n = k.n) (K : KI k') (hB : ∀ b, B b → b < w.heap.size) : KR B w' kp k' ∧ Up B w w' := by
 refine ⟨⟨⟨a', hk, fun b hb hn' => ?_⟩, K⟩, hg.frm.mono (fun b _ hb => h2 b hb)⟩
 rw [hn] at hb
 rcases hg.fp b hb with h1 | h1
 ·exact h2 b h1 hn'
 ·have := hB b hn'
  omega
theorem kr_make (h : KR B w kp k) (hB : ∀ b, B b → b < w.heap.size) (n : Nd) (l0 : 0 ≤ n.lo) (l1 : n.lo < 4294967296) (h0 : 0 ≤ n.hi) (h1 : n.hi < 4294967296) :
  Calls Tryz.prog 14 #[.pointer (some ⟨kp, 0, none⟩), .int .i64 n.v, .int .u32 n.lo, .int .u32 n.hi] w fun e w' => e = .returned (.tuple #[.int .u32 (makeK k n).1, .int .i64 (makeK k n).2.1]) ∧ KR B w' kp (makeK k n).2.2 ∧ Up B w w' := by
 obtain ⟨a, k1, k2⟩ := h.ex
 refine (kmake_any k1 h.ki.bk h.ki.lv n l0 l1 h0 h1).mono ?_
 rintro e w' ⟨he, a', hk, hg⟩
 exact ⟨he, KR.go k2 hk hg (makeK_st k n).1 (ki_make h.ki l0 h0) hB⟩
theorem kr_find (h : KR B w kp k) (n : Nd) (l0 : 0 ≤ n.lo) (l1 : n.lo < 4294967296) (h0 : 0 ≤ n.hi) (h1 : n.hi < 4294967296) :
  Calls Tryz.prog 16 #[.pointer (some ⟨kp, 0, none⟩), .int .i64 n.v, .int .u32 n.lo, .int .u32 n.hi] w fun e w' => e = .returned (.tuple #[.int .u32 ((findK k n).getD 0), .bool (findK k n).isSome]) ∧ Same w w' := by
 obtain ⟨a, k1, k2⟩ := h.ex
 exact kfind_any k1 h.ki.bk h.ki.lv n l0 l1 h0 h1
theorem kr_drop (h : KR B w kp k) (hB : ∀ b, B b → b < w.heap.size) (r : Int) (h0 : 0 ≤ r) (h1 : r < 4294967296) :
  Calls Tryz.prog 19 #[.pointer (some ⟨kp, 0, none⟩), .int .u32 r] w fun e w' => e = .returned (.int .i64 (dropK k r).1) ∧ KR B w' kp (dropK k r).2 ∧ Up B w w' := by
 obtain ⟨a, k1, k2⟩ := h.ex
 refine (kdrop_any k1 h.ki.bk r h0 h1).mono ?_
 rintro e w' ⟨he, a', hk, hg⟩
 exact ⟨he, KR.go k2 hk hg (dropK_st k r).1 (ki_drop h.ki h0) hB⟩
theorem kr_exch (h : KR B w kp k) (hB : ∀ b, B b → b < w.heap.size) (l : Int) (htr : (k.tr.length + 1) * 8 ≤ 140737488355328) :
  Calls Tryz.prog 24 #[.pointer (some ⟨kp, 0, none⟩), .int .i64 l] w fun e w' => e = .returned (.int .i64 (exchK k l).1) ∧ KR B w' kp (exchK k l).2 ∧ Up B w w' := by
 obtain ⟨a, k1, k2⟩ := h.ex
 refine (kexch_any k1 h.ki.bk.n64 l (fun a0 a1 => ?_) htr).mono ?_
 ·obtain ⟨x, y, hxy⟩ := xy_of (l := l.toNat) h.ki (by omega)
  exact ⟨x, y, turn_ok hxy h.ki⟩
 ·rintro e w' ⟨he, a', hk, hg⟩
  exact ⟨he, KR.go k2 hk hg (exchK_st k l).1 (ki_exch h.ki l) hB⟩
theorem kr_undo (h : KR B w kp k) (hB : ∀ b, B b → b < w.heap.size) (ht : TrOk k) (htr : k.tr.length ≤ 1000000000000000000) :
  Calls Tryz.prog 26 #[.pointer (some ⟨kp, 0, none⟩)] w fun e w' => e = .returned (.tuple #[.int .i64 (undoK k).1, .int .i64 (undoK k).2.1]) ∧ KR B w' kp (undoK k).2.2 ∧ Up B w w' := by
 obtain ⟨a, k1, k2⟩ := h.ex
 have hl : ∀ l, k.tr.getLast? = some l → 0 ≤ l ∧ l + 1 < k.n := fun l hl => ht l (List.mem_of_getLast? hl)
 refine (kundo_any k1 (fun l h1 => ?_) htr).mono ?_
 ·obtain ⟨g0, g1⟩ := hl l h1
  have h64 := h.ki.bk.n64
  obtain ⟨x, y, hxy⟩ := xy_of (l := l.toNat) h.ki (by omega)
  exact ⟨g0, by omega, x, y, turn_ok hxy h.ki⟩
 ·rintro e w' ⟨he, a', hk, hg⟩
  exact ⟨he, KR.go k2 hk hg (undoK_st k).1 (ki_undo h.ki hl) hB⟩
theorem kr_node (h : KR B w kp k) (r : Int) (h0 : 0 ≤ r) (h1 : r < 4294967296) :
  Calls Tryz.prog 20 #[.pointer (some ⟨kp, 0, none⟩), .int .u32 r] w fun e w' => e = .returned (.tuple #[(getN k.ls r).val, .int .i64 (getE k.ls r)]) ∧ Same w w' := by
 obtain ⟨a, k1, k2⟩ := h.ex
 exact knodeq_any k1 r h0 h1
theorem kr_held (h : KR B w kp k) (r : Int) (h0 : 0 ≤ r) (h1 : r < 4294967296) :
  Calls Tryz.prog 17 #[.pointer (some ⟨kp, 0, none⟩), .int .u32 r] w fun e w' => e = .returned (.int .i64 (k.hs.getD r.toNat 0)) ∧ w = w' := by
 obtain ⟨a, k1, k2⟩ := h.ex
 exact kheld_any k1 r h0 h1 (fun x hx => ⟨(h.ki.bk.hol _ x hx).1, (h.ki.bk.hol _ x hx).2.1⟩)
theorem KI.acl (K : KI k) : k.ac ≤ 1048576 := by
 have h1 := K.bk.cntl
 have h2 := K.bk.lim
 have h3 := K.bk.cM
 omega
theorem kr_live (h : KR B w kp k) : Calls Tryz.prog 18 #[.pointer (some ⟨kp, 0, none⟩)] w fun e w' => e = .returned (.int .i64 ((k.ac : Int) - 2)) ∧ w = w' := by
 obtain ⟨a, k1, k2⟩ := h.ex
 exact klive2_any k1 (by have := h.ki.acl; omega)
theorem KI.ordl (K : KI k) : k.ord.length = k.n := K.lv.ol
theorem kr_order (h : KR B w kp k) : Calls Tryz.prog 25 #[.pointer (some ⟨kp, 0, none⟩)] w (RetL w k.ord) := by
 obtain ⟨a, k1, k2⟩ := h.ex
 exact korder_any k1 (by rw [h.ki.ordl]; exact h.ki.bk.n64)
theorem kr_roots (h : KR B w kp k) : Calls Tryz.prog 22 #[.pointer (some ⟨kp, 0, none⟩)] w fun e w' => ∃ A C, e = .returned (.slice A (rootsK k).length C) ∧ Row1 w' 28 rc A (rootsK k).length C (rootsK k) ∧ Fresh w.heap.size A ∧ Same w w' := by
 obtain ⟨a, k1, k2⟩ := h.ex
 exact kroots_any k1 h.ki.bk
theorem kr_new (n c : Nat) (h1 : 1 ≤ n) (h2 : n ≤ 64) (h3 : 2 ≤ c) (h4 : c ≤ 1048576) (w : World) : Calls Tryz.prog 13 #[.int .i64 n, .int .i64 c] w fun e w' => ∃ kp, e = .returned (.tuple #[.pointer (some ⟨kp, 0, none⟩), .int .i64 0]) ∧ KR (fun b => b < w.heap.size) w' kp (newK n c) ∧ Same w w' := by
 refine (knew_any n c h1 h2 h3 h4).mono ?_
 rintro e w' ⟨kp, a, he, hk, hs, hf⟩
 exact ⟨kp, he, ⟨⟨a, hk, fun b hb hn => by have := hf b hb; omega⟩, ki_new h1 h2 h3 h4⟩, hs⟩
end
end Go.Proofs.YtiomgckodmecbaaGreat
namespace Go.Proofs.YtiomgckodmecbaaGreat
open Go.RowKit Go.Tk
section
variable {w w' : World} {B : Nat → Prop} {kp : Nat} {k k' : KS} {r E : Int}
theorem kr_makeE (h : KR B w kp k) (hB : ∀ b, B b → b < w.heap.size) (v lo hi : Int) (l0 : 0 ≤ lo) (l1 : lo < 4294967296) (h0 : 0 ≤ hi) (h1 : hi < 4294967296) (e : makeK k ⟨v, lo, hi⟩ = (r, E, k')) :
  Calls Tryz.prog 14 #[.pointer (some ⟨kp, 0, none⟩), .int .i64 v, .int .u32 lo, .int .u32 hi] w fun e w' => e = .returned (.tuple #[.int .u32 r, .int .i64 E]) ∧ KR B w' kp k' ∧ Up B w w' := by
 have h := kr_make h hB ⟨v, lo, hi⟩ l0 l1 h0 h1
 rw [e] at h
 exact h
theorem kr_findE (h : KR B w kp k) (v lo hi : Int) (l0 : 0 ≤ lo) (l1 : lo < 4294967296) (h0 : 0 ≤ hi) (h1 : hi < 4294967296) (e : findK k ⟨v, lo, hi⟩ = some r) :
  Calls Tryz.prog 16 #[.pointer (some ⟨kp, 0, none⟩), .int .i64 v, .int .u32 lo, .int .u32 hi] w fun e w' => e = .returned (.tuple #[.int .u32 r, .bool true]) ∧ Same w w' := by
 have h := kr_find h ⟨v, lo, hi⟩ l0 l1 h0 h1
 rw [e] at h
 exact h
theorem kr_findN (h : KR B w kp k) (v lo hi : Int) (l0 : 0 ≤ lo) (l1 : lo < 4294967296) (h0 : 0 ≤ hi) (h1 : hi < 4294967296) (e : findK k ⟨v, lo, hi⟩ = none) :
  Calls Tryz.prog 16 #[.pointer (some ⟨kp, 0, none⟩), .int .i64 v, .int .u32 lo, .int .u32 hi] w fun e w' => e = .returned (.tuple #[.int .u32 0, .bool false]) ∧ Same w w' := by
 have h := kr_find h ⟨v, lo, hi⟩ l0 l1 h0 h1
 rw [e] at h
 exact h
theorem kr_dropE (h : KR B w kp k) (hB : ∀ b, B b → b < w.heap.size) (r : Int) (h0 : 0 ≤ r) (h1 : r < 4294967296) (e : dropK k r = (E, k')) :
  Calls Tryz.prog 19 #[.pointer (some ⟨kp, 0, none⟩), .int .u32 r] w fun e w' => e = .returned (.int .i64 E) ∧ KR B w' kp k' ∧ Up B w w' := by
 have h := kr_drop h hB r h0 h1
 rw [e] at h
 exact h
theorem kr_exchE (h : KR B w kp k) (hB : ∀ b, B b → b < w.heap.size) (l : Int) (htr : (k.tr.length + 1) * 8 ≤ 140737488355328) (e : exchK k l = (E, k')) :
  Calls Tryz.prog 24 #[.pointer (some ⟨kp, 0, none⟩), .int .i64 l] w fun e w' => e = .returned (.int .i64 E) ∧ KR B w' kp k' ∧ Up B w w' := by
 have h := kr_exch h hB l htr
 rw [e] at h
 exact h
theorem kr_undoE (h : KR B w kp k) (hB : ∀ b, B b → b < w.heap.size) (ht : TrOk k) (htr : k.tr.length ≤ 1000000000000000000) (e : undoK k = (r, E, k')) :
  Calls Tryz.prog 26 #[.pointer (some ⟨kp, 0, none⟩)] w fun e w' => e = .returned (.tuple #[.int .i64 r, .int .i64 E]) ∧ KR B w' kp k' ∧ Up B w w' := by
 have h := kr_undo h hB ht htr
 rw [e] at h
 exact h
theorem kr_nodeE (h : KR B w kp k) (r : Int) (h0 : 0 ≤ r) (h1 : r < 4294967296) {n : Nd} (e : getN k.ls r = n) (e2 : getE k.ls r = E) :
  Calls Tryz.prog 20 #[.pointer (some ⟨kp, 0, none⟩), .int .u32 r] w fun e w' => e = .returned (.tuple #[.agg #[.int .i64 n.v, .int .u32 n.lo, .int .u32 n.hi], .int .i64 E]) ∧ Same w w' := by
 have h := kr_node h r h0 h1
 rw [e, e2] at h
 exact h
theorem kr_heldE (h : KR B w kp k) (r c : Int) (h0 : 0 ≤ r) (h1 : r < 4294967296) (e : k.hs.getD r.toNat 0 = c) :
  Calls Tryz.prog 17 #[.pointer (some ⟨kp, 0, none⟩), .int .u32 r] w fun e w' => e = .returned (.int .i64 c) ∧ w = w' := by
 have h := kr_held h r h0 h1
 rw [e] at h
 exact h
theorem kr_liveE (h : KR B w kp k) (c : Int) (e : (k.ac : Int) - 2 = c) : Calls Tryz.prog 18 #[.pointer (some ⟨kp, 0, none⟩)] w fun e w' => e = .returned (.int .i64 c) ∧ w = w' := by
 have h := kr_live h
 rw [e] at h
 exact h
end
end Go.Proofs.YtiomgckodmecbaaGreat
namespace Go.Proofs.YtiomgckodmecbaaGreat
open Go.RowKit Go.Tk
def atI (l : List Int) (r : Int) : Int := if r ∈ l then (l.idxOf r : Nat) else -1
theorem atI_mem {l : List Int} {r : Int} : 0 ≤ atI l r ↔ r ∈ l := by
 unfold atI
 by_cases h : r ∈ l
 ·rw [if_pos h]
  exact ⟨fun _ => h, fun _ => Int.natCast_nonneg _⟩
 ·rw [if_neg h]
  exact ⟨fun h1 => by omega, fun h1 => absurd h1 h⟩
theorem idxOf_first {l : List Int} {r : Int} {i : Nat} (hi : l[i]? = some r) (h : r ∉ l.take i) : l.idxOf r = i := by
 induction l generalizing i with
 | nil => simp at hi
 | cons x l ih =>
  cases i with
  | zero =>
   simp at hi
   subst hi
   simp
  | succ i =>
   simp only [List.getElem?_cons_succ] at hi
   simp only [List.take_succ_cons, List.mem_cons, not_or] at h
   have hne : ¬ x = r := fun e => h.1 e.symm
   have hne' : (x == r) = false := by simpa using hne
   rw [List.idxOf_cons, hne', ih hi h.2]
   rfl
section
variable {w w' : World}
set_option maxRecDepth 100000 in
set_option maxHeartbeats 4000000 in
theorem at9_any (A : Option Addr) (n C : Nat) (xs : List Int) (r : Int) (w : World) (h : Sl w 1 (fun x => [rc x]) A n xs) (hb : n ≤ 1000000000000000) :
  Calls Tryz.prog 23 #[.slice A n C, .int .u32 r] w fun e w' => e = .returned (.int .i64 (atI xs r)) ∧ w = w' := by
 obtain rfl := h.len
 have H := Lib.hid h
 obtain ⟨R, hR⟩ : ∃ z, atI xs r = z := ⟨_, rfl⟩
 rw [hR]
 have HR := Lib.hid hR
 clear h hR
 go_enter Tryz.func23, Tryz.ntmps23
 go_wp2_with (fail)
 go_loopw [5] (fun s wr => ∃ i : Nat, i ≤ xs.length ∧ s = .int .i64 i ∧ r ∉ xs.take i ∧ w = wr) (fun s _ => xs.length - (intOf s).toNat)
 case atStart => exact ⟨0, by omega, rfl, by simp, rfl⟩
 case round =>
  obtain ⟨i, hi, rfl, hn, rfl⟩ := hrel
  have HN := Lib.hid hn
  clear hn
  by_cases hlt : i < xs.length
  ·have hI : (i : Int) < (xs.length : Int) := by omega
   obtain ⟨x, hx⟩ : ∃ x, xs[i]? = some x := ⟨_, List.getElem?_eq_getElem hlt⟩
   obtain ⟨b, off, hA, hbl, hc⟩ := H.out.get i x hx
   have c0 : w.cell? ⟨b, off + i, none⟩ = some (.int .u32 x) := by
    have := hc 0 (by omega)
    simpa [rc] using this
   have HX := Lib.hid hx
   have HM : Hid (r ∈ xs.take (i + 1) ↔ r ∈ xs.take i ∨ r = x) := Lib.hid (by
    rw [List.take_add_one, hx]
    simp)
   clear hx hc
   subst hA
   by_cases he : x = r
   ·subst he
    have hres : atI xs x = i := by
     unfold atI
     rw [if_pos (List.mem_of_getElem? HX.out), idxOf_first HX.out HN.out]
    have hR : R = i := HR.out.symm.trans hres
    subst hR
    clear hres
    go_wp2
    go_ret
    exact ⟨rfl, rfl⟩
   ·go_wp2
    go_roundw
    case rel => exact ⟨i + 1, by omega, by go_num, fun h => (HM.out.1 h).elim HN.out (fun h => he h.symm), trivial⟩
    case measure => simp [intOf] <;> omega
  ·obtain rfl : i = xs.length := by omega
   have hI : ¬ ((xs.length : Nat) : Int) < (xs.length : Int) := by omega
   have hres : atI xs r = -1 := by
    unfold atI
    have := HN.out
    rw [List.take_length] at this
    rw [if_neg this]
   have hR : R = -1 := HR.out.symm.trans hres
   subst hR
   clear hres
   go_wp2
   go_ret
   exact ⟨rfl, rfl⟩
end
end Go.Proofs.YtiomgckodmecbaaGreat
namespace Go.Proofs.YtiomgckodmecbaaGreat
open Go.RowKit Go.Tk
def LiveR (k : KS) (r : Int) : Prop := 0 ≤ r ∧ tk k.ls r = true
structure WInv (k : KS) (list st l : List Int) : Prop where
 nd : l.Nodup
 ll : ∀ r ∈ l, LiveR k r
 la : ∀ r ∈ st, LiveR k r
 top : ∀ r, (r = 0 ∨ r = 1 ∨ r ∈ list) → r ∈ l ∨ r ∈ st
 chl : ∀ r ∈ l, 0 ≤ (getN k.ls r).v → ((getN k.ls r).lo ∈ l ∨ (getN k.ls r).lo ∈ st) ∧ ((getN k.ls r).hi ∈ l ∨ (getN k.ls r).hi ∈ st)
 len : st.length ≤ list.length + 2 + 2 * l.length
structure WRes (k : KS) (list l : List Int) : Prop where
 nd : l.Nodup
 ll : ∀ r ∈ l, LiveR k r
 top : ∀ r, (r = 0 ∨ r = 1 ∨ r ∈ list) → r ∈ l
 chl : ∀ r ∈ l, 0 ≤ (getN k.ls r).v → (getN k.ls r).lo ∈ l ∧ (getN k.ls r).hi ∈ l
section
variable {k : KS} {list st l : List Int} {r : Int}
theorem WInv.out (h : WInv k list [] l) : WRes k list l :=
 ⟨h.nd, h.ll, fun r hr => (h.top r hr).elim id (fun h => by cases h), fun r hr hv => ⟨(h.chl r hr hv).1.elim id (fun h => by cases h), (h.chl r hr hv).2.elim id (fun h => by cases h)⟩⟩
theorem WInv.skip (h : WInv k list (r :: st) l) (hr : r ∈ l) : WInv k list st l := by
 have e : ∀ x, (x ∈ l ∨ x ∈ r :: st) → x ∈ l ∨ x ∈ st := fun x hx => by
  rcases hx with hx | hx
  ·exact .inl hx
  ·rcases List.mem_cons.1 hx with rfl | hx
   ·exact .inl hr
   ·exact .inr hx
 exact ⟨h.nd, h.ll, fun x hx => h.la x (List.mem_cons_of_mem _ hx), fun x hx => e x (h.top x hx), fun x hx hv => ⟨e _ (h.chl x hx hv).1, e _ (h.chl x hx hv).2⟩, by have := h.len; simp only [List.length_cons] at this; omega⟩
theorem WInv.leaf (h : WInv k list (r :: st) l) (hr : r ∉ l) (hv : ¬ 0 ≤ (getN k.ls r).v) : WInv k list st (l ++ [r]) := by
 have e : ∀ x, (x ∈ l ∨ x ∈ r :: st) → x ∈ l ++ [r] ∨ x ∈ st := fun x hx => by
  rcases hx with hx | hx
  ·exact .inl (List.mem_append_left _ hx)
  ·rcases List.mem_cons.1 hx with rfl | hx
   ·exact .inl (by simp)
   ·exact .inr hx
 refine ⟨?_, fun x hx => ?_, fun x hx => h.la x (List.mem_cons_of_mem _ hx), fun x hx => e x (h.top x hx), fun x hx hv' => ?_, ?_⟩
 ·rw [List.nodup_append]
  exact ⟨h.nd, by simp, fun a ha b hb => by simp at hb; subst hb; exact fun e => hr (e ▸ ha)⟩
 ·rcases List.mem_append.1 hx with hx | hx
  ·exact h.ll x hx
  ·simp at hx
   subst hx
   exact h.la x (List.mem_cons_self ..)
 ·rcases List.mem_append.1 hx with hx | hx
  ·exact ⟨e _ (h.chl x hx hv').1, e _ (h.chl x hx hv').2⟩
  ·simp at hx
   subst hx
   exact absurd hv' hv
 ·have := h.len
  simp at this ⊢
  omega
theorem WInv.node (h : WInv k list (r :: st) l) (hr : r ∉ l) (h1 : LiveR k (getN k.ls r).lo) (h2 : LiveR k (getN k.ls r).hi) : WInv k list ((getN k.ls r).hi :: (getN k.ls r).lo :: st) (l ++ [r]) := by
 have e : ∀ x, (x ∈ l ∨ x ∈ r :: st) → x ∈ l ++ [r] ∨ x ∈ (getN k.ls r).hi :: (getN k.ls r).lo :: st := fun x hx => by
  rcases hx with hx | hx
  ·exact .inl (List.mem_append_left _ hx)
  ·rcases List.mem_cons.1 hx with rfl | hx
   ·exact .inl (by simp)
   ·exact .inr (by simp [hx])
 refine ⟨?_, fun x hx => ?_, fun x hx => ?_, fun x hx => e x (h.top x hx), fun x hx hv' => ?_, ?_⟩
 ·rw [List.nodup_append]
  exact ⟨h.nd, by simp, fun a ha b hb => by simp at hb; subst hb; exact fun e => hr (e ▸ ha)⟩
 ·rcases List.mem_append.1 hx with hx | hx
  ·exact h.ll x hx
  ·simp at hx
   subst hx
   exact h.la x (List.mem_cons_self ..)
 ·simp only [List.mem_cons] at hx
  rcases hx with rfl | rfl | hx
  ·exact h2
  ·exact h1
  ·exact h.la x (List.mem_cons_of_mem _ hx)
 ·rcases List.mem_append.1 hx with hx | hx
  ·exact ⟨e _ (h.chl x hx hv').1, e _ (h.chl x hx hv').2⟩
  ·simp at hx
   subst hx
   exact ⟨.inr (by simp), .inr (by simp)⟩
 ·have := h.len
  simp at this ⊢
  omega
theorem winv_start (K : KI k) (hl : ∀ r ∈ list, LiveR k r) : WInv k list (list.reverse ++ [1, 0]) [] := by
 refine ⟨List.nodup_nil, fun r hr => (by cases hr), fun r hr => ?_, fun r hr => .inr ?_, fun r hr => (by cases hr), by simp⟩
 ·rcases List.mem_append.1 hr with h | h
  ·exact hl r (List.mem_reverse.1 h)
  ·simp only [List.mem_cons, List.not_mem_nil, or_false] at h
   rcases h with rfl | rfl
   ·exact ⟨by omega, (K.live (by omega)).2 (.inr (.inl rfl))⟩
   ·exact ⟨by omega, (K.live (by omega)).2 (.inl rfl)⟩
 ·rcases hr with rfl | rfl | hr
  ·simp
  ·simp
  ·exact List.mem_append_left _ (List.mem_reverse.2 hr)
theorem live_len9 (h : l.Nodup) (hl : ∀ r ∈ l, LiveR k r) : l.length ≤ k.ls.length := by
 have h1 := nodup_len (m := (List.range k.ls.length).map fun (i : Nat) => (i : Int)) h (fun r hr => by
  obtain ⟨h0, h1⟩ := hl r hr
  have h2 := tk_lt h1 h0
  rw [List.mem_map]
  exact ⟨r.toNat, List.mem_range.2 (by omega), by omega⟩)
 simpa using h1
theorem KI.lsl (K : KI k) : k.ls.length ≤ 1048576 := Nat.le_trans K.bk.lim K.bk.cM
theorem live_chl (K : KI k) (hr : LiveR k r) (hv : 0 ≤ (getN k.ls r).v) : LiveR k (getN k.ls r).lo ∧ LiveR k (getN k.ls r).hi := by
 rcases (K.live hr.1).1 hr.2 with h | h | ⟨n, hn⟩
 ·rw [K.const (.inl h)] at hv
  omega
 ·rw [K.const (.inr h)] at hv
  omega
 ·obtain ⟨_, hg, _⟩ := K.mem' hn
  rw [hg]
  obtain ⟨_, _, c1, c2, c3, c4, _⟩ := K.bk.chl n r hn
  exact ⟨⟨c1, c3⟩, c2, c4⟩
end
section
variable {w w' : World} {B : Nat → Prop} {kp : Nat} {k : KS}
set_option maxRecDepth 100000 in
set_option maxHeartbeats 8000000 in
theorem walk9_any (hK : KR B w kp k) (A : Option Addr) (n C : Nat) (list : List Int) (hA : Sl w 1 (fun x => [rc x]) A n list) (hl : ∀ r ∈ list, LiveR k r) (hb : n ≤ 2000000) :
  Calls Tryz.prog 21 #[.pointer (some ⟨kp, 0, none⟩), .slice A n C] w fun e w' => ∃ A' C' l, e = .returned (.tuple #[.slice A' l.length C', .bool true]) ∧ WRes k list l ∧ Row1 w' 28 rc A' l.length C' l ∧ Fresh w.heap.size A' ∧ Same w w' := by
 obtain rfl := hA.len
 have HK := Lib.hid hK
 have HA := Lib.hid hA
 have HL := Lib.hid hl
 have hls := hK.ki.lsl
 clear hK hA hl
 go_enter Tryz.func21, Tryz.ntmps21
 go_upto_region 2 with fail
 refine wp_world fun w1 hw1 => ?_
 have hs1 : Same w w1 := by rw [hw1]; exact (Frm.refl _ _).alloc _
 have hT := Go.Tk.Own.lit w 28 (fun x => [rc x]) (fun _ => rfl) [0, 1] (by simp [maxLen]) (cs := #[.int .u32 0, .int .u32 1]) (by simp [rc])
 have hT1 : Row1 w1 28 rc (some ⟨w.heap.size, 0, none⟩) 2 2 [0, 1] := by rw [hw1]; exact hT
 clear hw1 hT
 refine wp_read 2 ?_
 simp only [List.take_succ_cons, List.take_zero, List.drop_succ_cons, List.drop_zero]
 repeat (any_goals (first | go_big_quiet_step (fail) | quiet_step (fail)))
 refine wpQuiet_nil ?_
 refine wpList_plain rfl fun K hK => ?_
 refine Own.append_many (.tmp 12) (.tmp 13) _ rfl Tryz.underlying40 info_ref rfl (by omega) rfl hT1 (fun _ => rfl) list A C rfl (fun hne => Sl.source (m := 1) (f := fun x => [rc x]) (fun _ => rfl) Nat.one_pos (HA.out.same hs1) hne) (fun y _ => by simp [rc, Value.oneCell']) (by simp [maxLen] <;> omega) (by simp <;> omega) ?_
 intro A4 C4 w4 hO4 hg4 hat4
 refine hK _ _ ?_
 clear hK K
 have hs4 : Same w w4 := hs1.grown hg4 (fun g hg => .inr (by
  obtain ⟨x, hx, hxb⟩ := ownBlock_row.1 hg
  injection hx with hx
  subst hx
  exact Nat.le_of_eq hxb))
 have hf4 : Fresh w.heap.size A4 := fun b hb => (hat4 b hb).elim (fun h => by
  obtain ⟨x, hx, hxb⟩ := h
  injection hx with hx
  subst hx
  exact Nat.le_of_eq hxb) (fun h => by
  have := hs1.size
  omega)
 obtain ⟨st, hst⟩ : ∃ z, list.reverse ++ [1, 0] = z := ⟨_, rfl⟩
 have hI := winv_start HK.out.ki HL.out
 rw [hst] at hI
 have e : [0, 1] ++ list = st.reverse := by rw [← hst]; simp
 have e2 : ([0, 1] ++ list).length = st.length := by rw [e, List.length_reverse]
 rw [e2]
 rw [e, List.length_reverse] at hO4
 have HS4 := Lib.hid hs4
 have HF4 := Lib.hid hf4
 have HI := Lib.hid hI
 have HO5 := Lib.hid hO4
 clear hs4 hf4 hI hO4 hg4 hat4 e e2 hT1 hs1 hst
 go_wp2_with (fail)
 go_loopw [6, 7] (fun s6 s7 wr => ∃ (A : Option Addr) (C : Nat) (st : List Int) (A' : Option Addr) (C' : Nat) (l : List Int), s6 = .slice A st.length C ∧ s7 = .slice A' l.length C' ∧ WInv k list st l ∧ Row1 wr 28 rc A st.length C st.reverse ∧ Row1 wr 28 rc A' l.length C' l ∧ Fresh w.heap.size A ∧ Fresh w.heap.size A' ∧ (∀ b, rowOf A b → ¬ rowOf A' b) ∧ Same w wr) (fun s6 s7 _ => 3 * (k.ls.length - lenOf s7) + lenOf s6)
 case atStart => exact ⟨A4, C4, st, none, 0, [], rfl, rfl, HI.out, HO5.out, Own.nil _ _ _ _, HF4.out, fresh_none _, (fun b _ h => by obtain ⟨x, hx, _⟩ := h; cases hx), HS4.out⟩
 case round =>
  clear HI HO5 HF4 HS4
  obtain ⟨A5, C5, st, A6, C6, l, rfl, rfl, hI, hT, hO, hf5, hf6, hdj, hs⟩ := hrel
  have hll := live_len9 hI.nd hI.ll
  have hsl := hI.len
  have HI := Lib.hid hI
  have HT := Lib.hid hT
  have HO := Lib.hid hO
  have HF5 := Lib.hid hf5
  have HF6 := Lib.hid hf6
  have HDJ := Lib.hid hdj
  have HS := Lib.hid hs
  clear hI hT hO hf5 hf6 hdj hs
  cases st with
  | nil =>
   go_wp2
   go_ret2
   exact ⟨A6, C6, l, rfl, HI.out.out, HO.out, HF6.out, HS.out⟩
  | cons r st =>
   obtain ⟨tb, hA5, tbl, tbc⟩ := HT.out.at1 (i := st.length) (x := r) (by simp)
   subst hA5
   have hpop : Row1 wr 28 rc (some ⟨tb, 0, none⟩) st.length C5 st.reverse := by
    have := HT.out
    rw [List.reverse_cons] at this
    have := Go.Tk.Own.pop (f := fun x => [rc x]) (fun _ => rfl) this
    rwa [List.length_reverse] at this
   have hcp : st.length + 1 ≤ C5 ∧ C5 < 9223372036854775808 := by
    have := HT.out
    simp only [List.length_cons] at this
    rcases this.own.2 with ⟨h0, _⟩ | ⟨_, cap, _, h1, _, _, h3, h4, _⟩
    ·cases h0
    ·injection h1 with _ _ h1
     subst h1
     unfold maxLen at h4
     omega
   obtain ⟨hs1, hs2⟩ := hcp
   replace tbc : wr.cell? ⟨tb, st.length, none⟩ = some (.int .u32 r) := tbc
   have hc1 : ((st.length : Int) + 1) > 0 := by omega
   have hlr := HI.out.la r (List.mem_cons_self ..)
   have hr0 := hlr.1
   have hr1 : r < 4294967296 := by have := tk_lt hlr.2 hr0; omega
   have HPOP := Lib.hid hpop
   have HLR := Lib.hid hlr
   simp only [List.length_cons] at hsl ⊢
   clear hpop hlr
   have hat := at9_any A6 l.length C6 l r wr (HO.out.sl (fun _ => rfl)) (by omega)
   by_cases hm : r ∈ l
   ·have hz := atI_mem.2 hm
    obtain ⟨z, hze⟩ : ∃ z, atI l r = z := ⟨_, rfl⟩
    rw [hze] at hat hz
    have HAT := Lib.hid hat
    have HM := Lib.hid hm
    clear hat hm hze
    go_wp2_with (fail)
    refine HAT.out.mono ?_
    rintro e wx ⟨rfl, rfl⟩
    go_wp2
    go_roundw
    case rel => exact ⟨some ⟨tb, 0, none⟩, C5, st, A6, C6, l, rfl, rfl, HI.out.skip HM.out, HPOP.out, HO.out, HF5.out, HF6.out, HDJ.out, HS.out⟩
    case measure => simp [lenOf, lenAt]
   ·have hz : atI l r = -1 := by unfold atI; rw [if_neg hm]
    rw [hz] at hat
    have hnd := fun w' (hs : Same wr w') => kr_node ((HK.out.same HS.out).same hs) r hr0 hr1
    have hE : getE k.ls r = 0 := by unfold getE; rw [if_pos HLR.out.2]
    rw [hE] at hnd
    have HAT := Lib.hid hat
    have HM := Lib.hid hm
    have HND := Lib.hid hnd
    clear hat hm hz hnd hE
    go_wp2_with (fail)
    refine HAT.out.mono ?_
    rintro e wx ⟨rfl, rfl⟩
    go_wp2_with (fail)
    refine (HND.out _ (Frm.refl _ _)).mono ?_
    rintro e wy ⟨rfl, hsy⟩
    have HWI : Hid (0 ≤ (getN k.ls r).v → WInv k list ((getN k.ls r).hi :: (getN k.ls r).lo :: st) (l ++ [r])) := Lib.hid (fun hv => HI.out.node HM.out (live_chl HK.out.ki HLR.out hv).1 (live_chl HK.out.ki HLR.out hv).2)
    have HWL : Hid (¬ 0 ≤ (getN k.ls r).v → WInv k list st (l ++ [r])) := Lib.hid (fun hv => HI.out.leaf HM.out hv)
    obtain ⟨⟨v, lo, hi⟩, hn⟩ : ∃ z, getN k.ls r = z := ⟨_, rfl⟩
    rw [hn] at HWI HWL ⊢
    simp only at HWI HWL
    unfold Nd.val
    have HSY := Lib.hid (HS.out.trans hsy (fun _ _ h => h))
    have HSYX := Lib.hid hsy
    replace HPOP := Lib.hid (HPOP.out.frm hsy (fun _ _ => id))
    replace HO := Lib.hid (HO.out.frm hsy (fun _ _ => id))
    clear hsy hn HND HAT
    go_upto_region 11 with fail
    refine wp_world fun w9 hw9 => ?_
    have hN := Blk.new wy 37 #[.int .i64 v, .int .u32 lo, .int .u32 hi]
    have hs9 : Same wy w9 := by rw [hw9]; exact (Frm.refl _ _).alloc _
    rw [← hw9] at hN
    clear hw9
    refine wp_read 2 ?_
    simp only [List.take_succ_cons, List.take_zero, List.drop_succ_cons, List.drop_zero]
    repeat (any_goals (first | go_big_quiet_step (fail) | quiet_step (fail)))
    refine wpQuiet_nil ?_
    refine wpList_plain rfl fun K hK => ?_
    go_simp
    refine hK _ _ ?_
    clear hK K
    refine list_world fun wa hwa => ?_
    have hL := Blk.new w9 28 #[.int .u32 r]
    have hsa : Same w9 wa := by rw [hwa]; exact (Frm.refl _ _).alloc _
    rw [← hwa] at hL
    clear hwa
    have hs9a := hs9.trans hsa (fun _ _ h => h)
    have hrow := HO.out.frm hs9a (fun _ _ => id)
    refine Own.append_list (f := fun x => [rc x]) rfl (.tmp 41) (.tmp 43) _ rfl Tryz.underlying40 info_ref rfl (by omega) rfl hrow (fun _ => rfl) r w9.heap.size 1 rfl (by simpa [rc] using hL) (by simp [Value.oneCell', rc]) (by unfold maxLen; omega) (by omega) ?_
    intro gg cap wb hOb hgb hat
    have hsb : Same w wb := (HS.out.trans (HSYX.out.trans hs9a (fun _ _ h => h)) (fun _ _ h => h)).grown hgb (fun g hg => .inr (HF6.out g (ownBlock_row.1 hg)))
    have hNb := (hN.frm hsa id).grown hgb (fun hx => by
     obtain ⟨x, hx, hxb⟩ := ownBlock_row.1 hx.symm
     exact hrow.ne_blk (hN.frm hsa id) (by decide) x hx hxb)
    have hPb := (HPOP.out.frm hs9a (fun _ _ => id)).keptBy hgb (fun b hb hA => HDJ.out b hA (ownBlock_row.1 hb))
    have hfb : Fresh w.heap.size (some ⟨gg, 0, none⟩) := fun b hb => by
     obtain ⟨x, hx, rfl⟩ := hb
     injection hx with hx
     subst hx
     rcases hat with h | h
     ·exact HF6.out gg (ownBlock_row.1 h)
     ·have h1 := HSY.out.size
      have h2 := hs9a.size
      show w.heap.size ≤ gg
      omega
    have hdb : ∀ b, rowOf (some ⟨tb, 0, none⟩) b → ¬ rowOf (some ⟨gg, 0, none⟩) b := fun b hb hb2 => by
     obtain ⟨x, hx, rfl⟩ := hb2
     injection hx with hx
     subst hx
     rcases hat with h | h
     ·exact HDJ.out gg hb (ownBlock_row.1 h)
     ·have h1 := row_lt HPOP.out hb
      have h2 := hs9a.size
      simp only at h1
      omega
    have n0 := hNb.cell 0
    have n1 := hNb.cell 1
    have n2 := hNb.cell 2
    have nl := hNb.lt
    simp at n0 n1 n2
    have hll2 : (l ++ [r]).length ≤ k.ls.length := by
     by_cases hv : 0 ≤ v
     ·exact live_len9 (HWI.out hv).nd (HWI.out hv).ll
     ·exact live_len9 (HWL.out (by omega)).nd (HWL.out (by omega)).ll
    rw [List.length_append, List.length_singleton] at hll2
    have HSB := Lib.hid hsb
    have HPB := Lib.hid hPb
    have HFB := Lib.hid hfb
    have HDB := Lib.hid hdb
    have HOB := Lib.hid hOb
    clear hsb hPb hfb hdb hOb hgb hat hrow hs9 hsa hs9a hN hL hNb HO HPOP
    by_cases hv : 0 ≤ v
    ·have HW := Lib.hid (HWI.out hv)
     have hc3 : ¬ (l.length : Int) + 1 > 2097152 := by omega
     clear HWI HWL
     go_upto_region 13 with fail
     refine wp_read 5 ?_
     simp only [List.take_succ_cons, List.take_zero, List.drop_succ_cons, List.drop_zero]
     repeat (any_goals (first | go_big_quiet_step (fail) | quiet_step (fail)))
     refine wpQuiet_nil ?_
     refine wpList_plain rfl fun K hK => ?_
     go_simp
     refine hK _ _ ?_
     clear hK K
     refine list_world fun wc hwc => ?_
     have hsc : Same wb wc := by rw [hwc]; exact (Frm.refl _ _).alloc _
     have hL2 := Go.Tk.Own.lit wb 28 (fun x => [rc x]) (fun _ => rfl) [lo, hi] (by simp [maxLen]) (cs := #[.int .u32 lo, .int .u32 hi]) (by simp [rc])
     have hL3 : Row1 wc 28 rc (some ⟨wb.heap.size, 0, none⟩) 2 2 [lo, hi] := by rw [hwc]; exact hL2
     clear hwc hL2
     have hrow := HPB.out.frm hsc (fun _ _ => id)
     refine wpList_plain rfl fun K hK => ?_
     refine Own.append_many (.tmp 48) (.tmp 53) _ rfl Tryz.underlying40 info_ref rfl (by omega) rfl hrow (fun _ => rfl) [lo, hi] (some ⟨wb.heap.size, 0, none⟩) 2 rfl (fun hne => Sl.source (m := 1) (f := fun x => [rc x]) (fun _ => rfl) Nat.one_pos (hL3.sl (fun _ => rfl)) hne) (fun y _ => by simp [rc, Value.oneCell']) (by simp [maxLen] <;> omega) (by simp <;> omega) ?_
     intro A7 C7 w7 hO7 hg7 hat7
     refine hK _ _ ?_
     clear hK K
     have hs7 : Same w w7 := (HSB.out.trans hsc (fun _ _ h => h)).grown hg7 (fun g hg => .inr (HF5.out g (ownBlock_row.1 hg)))
     have hf7 : Fresh w.heap.size A7 := fun b hb => (hat7 b hb).elim (HF5.out b) (fun h => by
      have := HSB.out.size
      have := hsc.size
      omega)
     have hO8 := (HOB.out.frm hsc (fun _ _ => id)).keptBy hg7 (fun b hb hA => HDB.out b (ownBlock_row.1 hb) hA)
     have hd7 : ∀ b, rowOf A7 b → ¬ rowOf (some ⟨gg, 0, none⟩) b := fun b hb hb2 => by
      rcases hat7 b hb with h | h
      ·exact HDB.out b h hb2
      ·have h1 := row_lt HOB.out hb2
       have := hsc.size
       omega
     have e7 : (st.reverse ++ [lo, hi]).length = (hi :: lo :: st).length := by simp
     rw [e7]
     have hO9 : Row1 w7 28 rc A7 (hi :: lo :: st).length C7 (hi :: lo :: st).reverse := by
      have e8 : (hi :: lo :: st).reverse = st.reverse ++ [lo, hi] := by simp
      rw [e8, ← e7]
      exact hO7
     have HS7 := Lib.hid hs7
     have HF7 := Lib.hid hf7
     have HO8 := Lib.hid hO8
     have HD7 := Lib.hid hd7
     have HO9 := Lib.hid hO9
     obtain ⟨st2, hst2⟩ : ∃ z, hi :: lo :: st = z := ⟨_, rfl⟩
     have hl2 : st2.length = st.length + 2 := by rw [← hst2]; rfl
     rw [hst2] at HW HO9 ⊢
     have HL2 := Lib.hid hl2
     clear hs7 hf7 hO8 hd7 hO9 e7 hO7 hg7 hat7 hrow hL3 hsc hst2 hl2 n0 n1 n2 nl
     go_wp2
     go_roundw
     case rel => exact ⟨A7, C7, st2, some ⟨gg, 0, none⟩, cap, l ++ [r], rfl, by rw [List.length_append]; rfl, HW.out, HO9.out, by rw [List.length_append]; exact HO8.out, HF7.out, HFB.out, HD7.out, HS7.out⟩
     case measure =>
      have := HL2.out
      simp [lenOf, lenAt]
      omega
    ·have HW := Lib.hid (HWL.out (by omega))
     have hv' : v < 0 := by omega
     have hc3 : ¬ (l.length : Int) + 1 > 2097152 := by omega
     clear HWI HWL hv
     go_wp2
     go_roundw
     case rel => exact ⟨some ⟨tb, 0, none⟩, C5, st, some ⟨gg, 0, none⟩, cap, l ++ [r], rfl, by rw [List.length_append]; rfl, HW.out, HPB.out, by rw [List.length_append]; exact HOB.out, HF5.out, HFB.out, HDB.out, HSB.out⟩
     case measure => simp [lenOf, lenAt] <;> omega
end
end Go.Proofs.YtiomgckodmecbaaGreat
namespace Go.Proofs.YtiomgckodmecbaaGreat
open Go.RowKit Go.Tk
set_option maxRecDepth 100000
def fx0 : KS := newK 2 5
def fx1 : KS := (makeK fx0 ⟨1, 0, 1⟩).2.2
theorem fe1 : makeK fx0 ⟨1, 0, 1⟩ = (2, 0, fx1) := by kernel_rfl
def fx2 : KS := (makeK fx1 ⟨0, 0, 2⟩).2.2
theorem fe2 : makeK fx1 ⟨0, 0, 2⟩ = (3, 0, fx2) := by kernel_rfl
def fx3 : KS := (makeK fx2 ⟨0, 0, 2⟩).2.2
theorem fe3 : makeK fx2 ⟨0, 0, 2⟩ = (3, 0, fx3) := by kernel_rfl
theorem fe4 : makeK fx3 ⟨1, 2, 0⟩ = (0, 4, fx3) := by kernel_rfl
theorem fe5 : makeK fx3 ⟨2, 0, 1⟩ = (0, 2, fx3) := by kernel_rfl
theorem fe6 : makeK fx3 ⟨0, 4, 2⟩ = (0, 3, fx3) := by kernel_rfl
def fx7 : KS := (makeK fx3 ⟨0, 2, 2⟩).2.2
theorem fe7 : makeK fx3 ⟨0, 2, 2⟩ = (2, 0, fx7) := by kernel_rfl
def fx8 : KS := (makeK fx7 ⟨1, 3, 3⟩).2.2
theorem fe8 : makeK fx7 ⟨1, 3, 3⟩ = (3, 0, fx8) := by kernel_rfl
def fx9 : KS := (dropK fx8 3).2
theorem fe9 : dropK fx8 3 = (0, fx9) := by kernel_rfl
def fx10 : KS := (makeK fx9 ⟨0, 2, 0⟩).2.2
theorem fe10 : makeK fx9 ⟨0, 2, 0⟩ = (4, 0, fx10) := by kernel_rfl
theorem fe11 : makeK fx10 ⟨0, 1, 2⟩ = (0, 9, fx10) := by kernel_rfl
def fx12 : KS := (dropK fx10 2).2
theorem fe12 : dropK fx10 2 = (0, fx12) := by kernel_rfl
def fx13 : KS := (dropK fx12 2).2
theorem fe13 : dropK fx12 2 = (0, fx13) := by kernel_rfl
theorem fe14 : dropK fx13 2 = (3, fx13) := by kernel_rfl
def fy4 : KS := newK 2 4
def fx15 : KS := (makeK fy4 ⟨1, 0, 1⟩).2.2
theorem fe15 : makeK fy4 ⟨1, 0, 1⟩ = (2, 0, fx15) := by kernel_rfl
def fx16 : KS := (makeK fx15 ⟨0, 0, 2⟩).2.2
theorem fe16 : makeK fx15 ⟨0, 0, 2⟩ = (3, 0, fx16) := by kernel_rfl
def fx17 : KS := (dropK fx16 2).2
theorem fe17 : dropK fx16 2 = (0, fx17) := by kernel_rfl
theorem fe18 : exchK fx17 0 = (9, fx17) := by kernel_rfl
def fy5 : KS := newK 2 5
def fx19 : KS := (makeK fy5 ⟨1, 0, 1⟩).2.2
theorem fe19 : makeK fy5 ⟨1, 0, 1⟩ = (2, 0, fx19) := by kernel_rfl
def fx20 : KS := (makeK fx19 ⟨0, 0, 2⟩).2.2
theorem fe20 : makeK fx19 ⟨0, 0, 2⟩ = (3, 0, fx20) := by kernel_rfl
def fx21 : KS := (dropK fx20 2).2
theorem fe21 : dropK fx20 2 = (0, fx21) := by kernel_rfl
def fx22 : KS := (exchK fx21 0).2
theorem fe22 : exchK fx21 0 = (0, fx22) := by kernel_rfl
def fx23 : KS := (undoK fx22).2.2
theorem fe23 : undoK fx22 = (0, 0, fx23) := by kernel_rfl
theorem fe24 : undoK fx23 = (0, 10, fx23) := by kernel_rfl
def fz : KS := newK 1 2
theorem fe25 : makeK fz ⟨0, 0, 1⟩ = (0, 9, fz) := by kernel_rfl
theorem fe26 : exchK fz 0 = (1, fz) := by kernel_rfl
theorem fe27 : exchK fz (-1) = (1, fz) := by kernel_rfl
section
variable {w w' : World}
set_option maxHeartbeats 16000000 in
theorem kernelFixed_any (w : World) : Calls Tryz.prog 4 #[] w fun e w' => e = .returned (.bool true) ∧ Same w w' := by
 go_enter Tryz.func4, Tryz.ntmps4
 go_wp2_with (fail)
 refine (awake9_law _).mono ?_
 rintro e w1 ⟨rfl, hs1⟩
 have HS := Lib.hid hs1
 clear hs1
 go_wp2_with (fail)
 refine (kr_new 2 5 (by decide) (by decide) (by decide) (by decide) w1).mono ?_
 rintro e w2 ⟨kp, rfl, hk, hs⟩
 have HK := Lib.hid (show KR (fun b => b < w1.heap.size) w2 kp fx0 from hk)
 have HU := Lib.hid (Up.ofSame hs : Up (fun b => b < w1.heap.size) w1 w2)
 clear hs hk
 go_wp2_with (fail)
 refine (kr_makeE HK.out (fun b hb => Nat.lt_of_lt_of_le hb HU.out.size) 1 0 1 (by decide) (by decide) (by decide) (by decide) fe1).mono ?_
 rintro e w3 ⟨rfl, hk, hu⟩
 replace HK := Lib.hid hk
 replace HU := Lib.hid (HU.out.trans hu)
 clear hk hu
 go_wp2_with (fail)
 refine (kr_makeE HK.out (fun b hb => Nat.lt_of_lt_of_le hb HU.out.size) 0 0 2 (by decide) (by decide) (by decide) (by decide) fe2).mono ?_
 rintro e w4 ⟨rfl, hk, hu⟩
 replace HK := Lib.hid hk
 replace HU := Lib.hid (HU.out.trans hu)
 clear hk hu
 go_wp2_with (fail)
 refine (kr_makeE HK.out (fun b hb => Nat.lt_of_lt_of_le hb HU.out.size) 0 0 2 (by decide) (by decide) (by decide) (by decide) fe3).mono ?_
 rintro e w5 ⟨rfl, hk, hu⟩
 replace HK := Lib.hid hk
 replace HU := Lib.hid (HU.out.trans hu)
 clear hk hu
 go_wp2_with (fail)
 refine (kr_heldE HK.out 3 2 (by decide) (by decide) (by kernel_rfl)).mono ?_
 rintro e w6 ⟨rfl, rfl⟩
 go_wp2_with (fail)
 refine (kr_liveE HK.out 2 (by kernel_rfl)).mono ?_
 rintro e w7 ⟨rfl, rfl⟩
 go_wp2_with (fail)
 refine (kr_makeE HK.out (fun b hb => Nat.lt_of_lt_of_le hb HU.out.size) 1 2 0 (by decide) (by decide) (by decide) (by decide) fe4).mono ?_
 rintro e w8 ⟨rfl, hk, hu⟩
 replace HK := Lib.hid hk
 replace HU := Lib.hid (HU.out.trans hu)
 clear hk hu
 go_wp2_with (fail)
 refine (kr_makeE HK.out (fun b hb => Nat.lt_of_lt_of_le hb HU.out.size) 2 0 1 (by decide) (by decide) (by decide) (by decide) fe5).mono ?_
 rintro e w9 ⟨rfl, hk, hu⟩
 replace HK := Lib.hid hk
 replace HU := Lib.hid (HU.out.trans hu)
 clear hk hu
 go_wp2_with (fail)
 refine (kr_roots HK.out).mono ?_
 rintro e wr ⟨Ar, Cr, rfl, hR, hF, hs⟩
 replace HK := Lib.hid (HK.out.same hs)
 replace HU := Lib.hid (HU.out.trans (Up.ofSame hs))
 have hlv : ∀ r ∈ rootsK fx3, LiveR fx3 r := by
  rw [show rootsK fx3 = [2, 3] from by decide +kernel]
  unfold LiveR
  decide +kernel
 have hwk := walk9_any HK.out Ar _ Cr (rootsK fx3) (hR.sl (fun _ => rfl)) hlv (by decide +kernel)
 have HWK := Lib.hid hwk
 clear hwk hlv hR hF hs
 go_wp2_with (fail)
 refine HWK.out.mono ?_
 rintro e wq ⟨Aw, Cw, l, rfl, hW, hl, hf, hs⟩
 replace HK := Lib.hid (HK.out.same hs)
 replace HU := Lib.hid (HU.out.trans (Up.ofSame hs))
 have hll : l.length ≤ 1048576 := Nat.le_trans (live_len9 hW.nd hW.ll) HK.out.ki.lsl
 have m2 : (2 : Int) ∈ l := hW.top 2 (by decide +kernel)
 have m3 : (3 : Int) ∈ l := hW.top 3 (by decide +kernel)
 have m4 : ¬ (4 : Int) ∈ l := fun h => by
  have h1 := (hW.ll 4 h).2
  rw [show tk fx3.ls 4 = false from by kernel_rfl] at h1
  cases h1
 have HM2 := Lib.hid (atI_mem.2 m2)
 have HM3 := Lib.hid (atI_mem.2 m3)
 have HM4 : Hid (atI l 4 = -1) := Lib.hid (by unfold atI; rw [if_neg m4])
 have hat := fun r w' (hs : Same wq w') => at9_any Aw l.length Cw l r w' ((hl.frm hs (fun _ _ => id)).sl (fun _ => rfl)) (by omega)
 have HAT := Lib.hid hat
 clear hat m2 m3 m4 hW hl hf hs
 go_wp2_with (fail)
 go_loopw [9] (fun s wx => ∃ z : Int, (z = 2 ∨ z = 3 ∨ z = 4) ∧ s = .int .u32 z ∧ wq = wx) (fun s _ => 4 - (intOf s).toNat)
 case atStart => exact ⟨2, .inl rfl, rfl, rfl⟩
 case round =>
  as_aux_lemma =>
  obtain ⟨z, hz, rfl, rfl⟩ := hrel
  by_cases h4 : z = 4
  ·subst h4
   clear hz
   go_wp2_with (fail)
   refine (HAT.out 4 wq (Frm.refl _ _)).mono ?_
   rintro e wx ⟨rfl, rfl⟩
   rw [HM4.out]
   go_wp2_with (fail)
   refine (kr_makeE HK.out (fun b hb => Nat.lt_of_lt_of_le hb HU.out.size) 0 4 2 (by decide) (by decide) (by decide) (by decide) fe6).mono ?_
   rintro e w10 ⟨rfl, hk, hu⟩
   replace HK := Lib.hid hk
   replace HU := Lib.hid (HU.out.trans hu)
   clear hk hu
   go_wp2_with (fail)
   refine (kr_makeE HK.out (fun b hb => Nat.lt_of_lt_of_le hb HU.out.size) 0 2 2 (by decide) (by decide) (by decide) (by decide) fe7).mono ?_
   rintro e w11 ⟨rfl, hk, hu⟩
   replace HK := Lib.hid hk
   replace HU := Lib.hid (HU.out.trans hu)
   clear hk hu
   go_wp2_with (fail)
   refine (kr_findE HK.out 0 0 2 (by decide) (by decide) (by decide) (by decide) (r := 3) (by kernel_rfl)).mono ?_
   rintro e w12 ⟨rfl, hs⟩
   replace HK := Lib.hid (HK.out.same hs)
   replace HU := Lib.hid (HU.out.trans (Up.ofSame hs))
   clear hs
   go_wp2_with (fail)
   refine (kr_findN HK.out 0 2 0 (by decide) (by decide) (by decide) (by decide) (by kernel_rfl)).mono ?_
   rintro e w13 ⟨rfl, hs⟩
   replace HK := Lib.hid (HK.out.same hs)
   replace HU := Lib.hid (HU.out.trans (Up.ofSame hs))
   clear hs
   go_wp2_with (fail)
   refine (kr_makeE HK.out (fun b hb => Nat.lt_of_lt_of_le hb HU.out.size) 1 3 3 (by decide) (by decide) (by decide) (by decide) fe8).mono ?_
   rintro e w14 ⟨rfl, hk, hu⟩
   replace HK := Lib.hid hk
   replace HU := Lib.hid (HU.out.trans hu)
   clear hk hu
   go_wp2_with (fail)
   refine (kr_dropE HK.out (fun b hb => Nat.lt_of_lt_of_le hb HU.out.size) 3 (by decide) (by decide) fe9).mono ?_
   rintro e w15 ⟨rfl, hk, hu⟩
   replace HK := Lib.hid hk
   replace HU := Lib.hid (HU.out.trans hu)
   clear hk hu
   go_wp2_with (fail)
   refine (kr_makeE HK.out (fun b hb => Nat.lt_of_lt_of_le hb HU.out.size) 0 2 0 (by decide) (by decide) (by decide) (by decide) fe10).mono ?_
   rintro e w16 ⟨rfl, hk, hu⟩
   replace HK := Lib.hid hk
   replace HU := Lib.hid (HU.out.trans hu)
   clear hk hu
   go_wp2_with (fail)
   refine (kr_makeE HK.out (fun b hb => Nat.lt_of_lt_of_le hb HU.out.size) 0 1 2 (by decide) (by decide) (by decide) (by decide) fe11).mono ?_
   rintro e w17 ⟨rfl, hk, hu⟩
   replace HK := Lib.hid hk
   replace HU := Lib.hid (HU.out.trans hu)
   clear hk hu
   go_wp2_with (fail)
   refine (kr_dropE HK.out (fun b hb => Nat.lt_of_lt_of_le hb HU.out.size) 2 (by decide) (by decide) fe12).mono ?_
   rintro e w18 ⟨rfl, hk, hu⟩
   replace HK := Lib.hid hk
   replace HU := Lib.hid (HU.out.trans hu)
   clear hk hu
   go_wp2_with (fail)
   refine (kr_dropE HK.out (fun b hb => Nat.lt_of_lt_of_le hb HU.out.size) 2 (by decide) (by decide) fe13).mono ?_
   rintro e w19 ⟨rfl, hk, hu⟩
   replace HK := Lib.hid hk
   replace HU := Lib.hid (HU.out.trans hu)
   clear hk hu
   go_wp2_with (fail)
   refine (kr_dropE HK.out (fun b hb => Nat.lt_of_lt_of_le hb HU.out.size) 2 (by decide) (by decide) fe14).mono ?_
   rintro e w20 ⟨rfl, hk, hu⟩
   replace HK := Lib.hid hk
   replace HU := Lib.hid (HU.out.trans hu)
   clear hk hu
   go_wp2_with (fail)
   refine (kr_liveE HK.out 3 (by kernel_rfl)).mono ?_
   rintro e w21 ⟨rfl, rfl⟩
   clear HK
   go_wp2_with (fail)
   go_loopw [18] (fun s wx => ∃ c : Nat, (c = 4 ∨ c = 5 ∨ c = 6) ∧ s = .int .i64 c ∧ Up (fun b => b < w1.heap.size) w1 wx) (fun s _ => 6 - (intOf s).toNat)
   case atStart => exact ⟨4, .inl rfl, rfl, HU.out⟩
   case round =>
    as_aux_lemma =>
    obtain ⟨c, hc, rfl, hu⟩ := hrel
    replace HU := Lib.hid hu
    clear hu
    rcases hc with rfl | rfl | rfl
    ·go_wp2_with (fail)
     refine (kr_new 2 4 (by decide) (by decide) (by decide) (by decide) _).mono ?_
     rintro e wn ⟨kq, rfl, hk, hs⟩
     have HK := Lib.hid ((show KR _ wn kq fy4 from hk).sub (B' := fun b => b < w1.heap.size) (fun b hb => Nat.lt_of_lt_of_le hb HU.out.size))
     replace HU := Lib.hid (HU.out.trans (Up.ofSame hs))
     clear hk hs
     go_wp2_with (fail)
     refine (kr_makeE HK.out (fun b hb => Nat.lt_of_lt_of_le hb HU.out.size) 1 0 1 (by decide) (by decide) (by decide) (by decide) fe15).mono ?_
     rintro e w22 ⟨rfl, hk, hu⟩
     replace HK := Lib.hid hk
     replace HU := Lib.hid (HU.out.trans hu)
     clear hk hu
     go_wp2_with (fail)
     refine (kr_makeE HK.out (fun b hb => Nat.lt_of_lt_of_le hb HU.out.size) 0 0 2 (by decide) (by decide) (by decide) (by decide) fe16).mono ?_
     rintro e w23 ⟨rfl, hk, hu⟩
     replace HK := Lib.hid hk
     replace HU := Lib.hid (HU.out.trans hu)
     clear hk hu
     go_wp2_with (fail)
     refine (kr_dropE HK.out (fun b hb => Nat.lt_of_lt_of_le hb HU.out.size) 2 (by decide) (by decide) fe17).mono ?_
     rintro e w24 ⟨rfl, hk, hu⟩
     replace HK := Lib.hid hk
     replace HU := Lib.hid (HU.out.trans hu)
     clear hk hu
     go_wp2_with (fail)
     refine (kr_exchE HK.out (fun b hb => Nat.lt_of_lt_of_le hb HU.out.size) 0 (by decide +kernel) fe18).mono ?_
     rintro e w25 ⟨rfl, hk, hu⟩
     replace HK := Lib.hid hk
     replace HU := Lib.hid (HU.out.trans hu)
     clear hk hu
     go_wp2_with (fail)
     refine (kr_order HK.out).mono ?_
     rintro e w26 ⟨Ao, Co, rfl, hO, hF, hs⟩
     rw [show fx17.ord.length = 2 from by kernel_rfl]
     obtain ⟨ob, hA, obl, obc⟩ := hO.at1 (c := fun x : Int => .int .i64 x) (i := 0) (x := 0) (by kernel_rfl)
     subst hA
     replace HK := Lib.hid (HK.out.same hs)
     replace HU := Lib.hid (HU.out.trans (Up.ofSame hs))
     clear hO hF hs
     go_wp2
     go_roundw
     case rel => exact ⟨5, .inr (.inl rfl), by go_num, HU.out⟩
     case measure => simp [intOf]
    ·go_wp2_with (fail)
     refine (kr_new 2 5 (by decide) (by decide) (by decide) (by decide) _).mono ?_
     rintro e wn ⟨kq, rfl, hk, hs⟩
     have HK := Lib.hid ((show KR _ wn kq fy5 from hk).sub (B' := fun b => b < w1.heap.size) (fun b hb => Nat.lt_of_lt_of_le hb HU.out.size))
     replace HU := Lib.hid (HU.out.trans (Up.ofSame hs))
     clear hk hs
     go_wp2_with (fail)
     refine (kr_makeE HK.out (fun b hb => Nat.lt_of_lt_of_le hb HU.out.size) 1 0 1 (by decide) (by decide) (by decide) (by decide) fe19).mono ?_
     rintro e w27 ⟨rfl, hk, hu⟩
     replace HK := Lib.hid hk
     replace HU := Lib.hid (HU.out.trans hu)
     clear hk hu
     go_wp2_with (fail)
     refine (kr_makeE HK.out (fun b hb => Nat.lt_of_lt_of_le hb HU.out.size) 0 0 2 (by decide) (by decide) (by decide) (by decide) fe20).mono ?_
     rintro e w28 ⟨rfl, hk, hu⟩
     replace HK := Lib.hid hk
     replace HU := Lib.hid (HU.out.trans hu)
     clear hk hu
     go_wp2_with (fail)
     refine (kr_dropE HK.out (fun b hb => Nat.lt_of_lt_of_le hb HU.out.size) 2 (by decide) (by decide) fe21).mono ?_
     rintro e w29 ⟨rfl, hk, hu⟩
     replace HK := Lib.hid hk
     replace HU := Lib.hid (HU.out.trans hu)
     clear hk hu
     go_wp2_with (fail)
     refine (kr_exchE HK.out (fun b hb => Nat.lt_of_lt_of_le hb HU.out.size) 0 (by decide +kernel) fe22).mono ?_
     rintro e w30 ⟨rfl, hk, hu⟩
     replace HK := Lib.hid hk
     replace HU := Lib.hid (HU.out.trans hu)
     clear hk hu
     go_wp2_with (fail)
     refine (kr_nodeE HK.out 3 (by decide) (by decide) (n := getN fx22.ls 3) rfl (E := 0) (by kernel_rfl)).mono ?_
     rintro e wm ⟨rfl, hs⟩
     rw [show (getN fx22.ls 3).v = 1 from by kernel_rfl, show (getN fx22.ls 3).lo = 0 from by kernel_rfl]
     obtain ⟨zh, hzh⟩ : ∃ z, (getN fx22.ls 3).hi = z := ⟨_, rfl⟩
     rw [hzh]
     replace HK := Lib.hid (HK.out.same hs)
     replace HU := Lib.hid (HU.out.trans (Up.ofSame hs))
     clear hs hzh
     go_upto_region 40 with fail
     refine wp_world fun wt hwt => ?_
     have hN := Blk.new wm 37 #[.int .i64 1, .int .u32 0, .int .u32 zh]
     have hs9 : Same wm wt := by rw [hwt]; exact (Frm.refl _ _).alloc _
     rw [← hwt] at hN
     clear hwt
     have HB2 : Hid (∀ b, (b < w1.heap.size ∨ b = wm.heap.size) → b < wt.heap.size) := Lib.hid (fun b hb => by
      have h1 := HU.out.size
      have h2 := hs9.size
      have h3 := hN.lt
      omega)
     replace HK := Lib.hid (HK.out.also hs9 (C := fun b => b = wm.heap.size) (fun b hb => Nat.le_of_eq hb.symm))
     have HU0 := Lib.hid (HU.out.trans (Up.ofSame hs9))
     replace HU : Hid (Up (fun b => b < w1.heap.size ∨ b = wm.heap.size) wt wt) := Lib.hid (Frm.refl _ _)
     have HN := Lib.hid hN
     clear hs9 hN
     go_wp2_with (fail)
     refine (kr_undoE HK.out (fun b hb => Nat.lt_of_lt_of_le (HB2.out b hb) HU.out.size) (by unfold TrOk; decide +kernel) (by decide +kernel) fe23).mono ?_
     rintro e w32 ⟨rfl, hk, hu⟩
     replace HK := Lib.hid hk
     replace HU := Lib.hid (HU.out.trans hu)
     clear hk hu
     go_wp2_with (fail)
     refine (kr_undoE HK.out (fun b hb => Nat.lt_of_lt_of_le (HB2.out b hb) HU.out.size) (by unfold TrOk; decide +kernel) (by decide +kernel) fe24).mono ?_
     rintro e w33 ⟨rfl, hk, hu⟩
     replace HK := Lib.hid hk
     replace HU := Lib.hid (HU.out.trans hu)
     clear hk hu
     have hN := HU.out.kept HN.out (.inr rfl)
     have n0 := hN.cell 0
     have n1 := hN.cell 1
     have nl := hN.lt
     simp at n0 n1
     clear hN
     go_wp2_with (fail)
     refine (kr_order HK.out).mono ?_
     rintro e w34 ⟨Ao, Co, rfl, hO, hF, hs⟩
     rw [show fx23.ord.length = 2 from by kernel_rfl]
     obtain ⟨ob, hA, obl, obc⟩ := hO.at1 (c := fun x : Int => .int .i64 x) (i := 0) (x := 0) (by kernel_rfl)
     subst hA
     replace HK := Lib.hid (HK.out.same hs)
     replace HU := Lib.hid (HU.out.trans (Up.ofSame hs))
     clear hO hF hs
     go_wp2
     go_roundw
     case rel => exact ⟨6, .inr (.inr rfl), by go_num, HU0.out.trans (Frm.mono HU.out (fun b _ hn hb => hn (.inl hb)))⟩
     case measure => simp [intOf]
    ·go_wp2_with (fail)
     refine (kr_new 1 2 (by decide) (by decide) (by decide) (by decide) _).mono ?_
     rintro e wn ⟨kq, rfl, hk, hs⟩
     have HK := Lib.hid ((show KR _ wn kq fz from hk).sub (B' := fun b => b < w1.heap.size) (fun b hb => Nat.lt_of_lt_of_le hb HU.out.size))
     replace HU := Lib.hid (HU.out.trans (Up.ofSame hs))
     clear hk hs
     go_wp2_with (fail)
     refine (kr_makeE HK.out (fun b hb => Nat.lt_of_lt_of_le hb HU.out.size) 0 0 1 (by decide) (by decide) (by decide) (by decide) fe25).mono ?_
     rintro e w35 ⟨rfl, hk, hu⟩
     replace HK := Lib.hid hk
     replace HU := Lib.hid (HU.out.trans hu)
     clear hk hu
     go_wp2_with (fail)
     refine (kr_exchE HK.out (fun b hb => Nat.lt_of_lt_of_le hb HU.out.size) 0 (by decide +kernel) fe26).mono ?_
     rintro e w36 ⟨rfl, hk, hu⟩
     replace HK := Lib.hid hk
     replace HU := Lib.hid (HU.out.trans hu)
     clear hk hu
     go_wp2_with (fail)
     refine (kr_exchE HK.out (fun b hb => Nat.lt_of_lt_of_le hb HU.out.size) (-1) (by decide +kernel) fe27).mono ?_
     rintro e w37 ⟨rfl, hk, hu⟩
     replace HK := Lib.hid hk
     replace HU := Lib.hid (HU.out.trans hu)
     clear hk hu
     go_wp2
     go_ret
     exact ⟨rfl, HS.out.trans (Frm.mono HU.out (fun b hb hn => hn hb)) (fun _ _ h => h)⟩
  ·rcases hz with rfl | rfl | rfl
   ·have hp := HM2.out
    have hat := HAT.out 2 wq (Frm.refl _ _)
    obtain ⟨y, hy⟩ : ∃ y, atI l 2 = y := ⟨_, rfl⟩
    rw [hy] at hp hat
    have HA2 := Lib.hid hat
    clear hat hy
    go_wp2_with (fail)
    refine HA2.out.mono ?_
    rintro e wx ⟨rfl, rfl⟩
    go_wp2
    go_roundw
    case rel => exact ⟨3, .inr (.inl rfl), by go_num, trivial⟩
    case measure => simp [intOf]
   ·have hp := HM3.out
    have hat := HAT.out 3 wq (Frm.refl _ _)
    obtain ⟨y, hy⟩ : ∃ y, atI l 3 = y := ⟨_, rfl⟩
    rw [hy] at hp hat
    have HA2 := Lib.hid hat
    clear hat hy
    go_wp2_with (fail)
    refine HA2.out.mono ?_
    rintro e wx ⟨rfl, rfl⟩
    go_wp2
    go_roundw
    case rel => exact ⟨4, .inr (.inr rfl), by go_num, trivial⟩
    case measure => simp [intOf]
   ·exact absurd rfl h4
end
end Go.Proofs.YtiomgckodmecbaaGreat

