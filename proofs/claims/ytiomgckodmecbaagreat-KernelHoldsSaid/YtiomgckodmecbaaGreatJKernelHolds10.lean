/- Contracts and plain laws, put together in one file. No condition. -/
import Derived.Test.YtiomgckodmecbaaGreatJKernelHolds9
import Derived.Test.YtiomgckodmecbaaGreatRows


/- The law's play: looks, walked where all agrees (printed by gen/lwlooks.py). -/
namespace Go.Proofs.YtiomgckodmecbaaGreat
open Go.RowKit Go.Tk
/-- the dead ones, up to k -/
def deadK (p : PS) (k : Nat) : List Bool := ((List.range k).map fun i : Nat => !livesB (countP p) i) ++ p.dead.drop k
theorem deadK_len {p : PS} {k : Nat} (h : k ≤ p.dead.length) : (deadK p k).length = p.dead.length := by
 unfold deadK
 simp
 omega
theorem deadK_get {p : PS} {k : Nat} : (deadK p k).getD k true = p.dead.getD k true := by
 unfold deadK
 rw [List.getD_eq_getElem?_getD, List.getD_eq_getElem?_getD, List.getElem?_append_right (by simp)]
 simp
theorem deadK_set {p : PS} {k : Nat} (h : k < p.dead.length) : (deadK p k).set k (!livesB (countP p) k) = deadK p (k + 1) := by
 unfold deadK
 rw [List.set_append_right _ _ (by simp), List.length_map, List.length_range, Nat.sub_self, List.range_succ, List.map_append]
 rw [List.drop_eq_getElem_cons h, List.set_cons_zero, List.append_assoc]
 rfl
theorem deadK_all {p : PS} (h : p.dead.length = p.ts.length) : { countP p with dead := deadK p p.ts.length } = lookP p := by
 unfold deadK lookP
 rw [List.drop_of_length_le (by omega)]
 simp
theorem livesB_dead {p : PS} {k : Nat} : livesB { countP p with dead := deadK p k } k = livesB (countP p) k := by
 unfold livesB
 simp only [Int.toNat_natCast]
 rw [deadK_get]
 rfl
section
variable {w w' : World} {B : Nat → Prop} {pp : Nat} {p : PS} {q : PA} {n : Nat} {t : Tb} {kp : Nat} {k : KS} {a : KA}
set_option maxRecDepth 100000 in
set_option maxHeartbeats 16000000 in
theorem looks_law (hP : PW B w pp p q) (hB : ∀ b, B b → b < w.heap.size) (K : KI p.k) (hg : RngK p.k) (ho : OrdOk p.m) (hd : p.dead.length = p.ts.length) (hr : p.refs.length = p.ts.length) (hrg : ∀ x ∈ p.refs, 0 ≤ x ∧ x < 4294967296)
  (htl : p.ts.length ≤ 4000000000000) (hol : p.k.ord.length ≤ 64) (hac : p.k.ac ≤ 4000000) (L : LookOk p) :
  Calls Tryz.prog 28 #[.pointer (some ⟨pp, 0, none⟩)] w fun e w' => e = .returned (.bool true) ∧ (∃ q', PW B w' pp (lookP p) q') ∧ Up B w w' := by
 have hcl := count_law hP ho hB
 have hn16 := hP.m.n16
 have hl3 := live_len p.m (by have := hP.m.hl; omega) hP.m.ol p.m.ord.length hP.m.ol
 rw [List.take_of_length_le (by unfold levelsL; rw [levels_len]; simp)] at hl3
 have HCL := Lib.hid hcl
 have HLL := Lib.hid (show (liveM p.m).length ≤ 2097152000000 from hl3)
 have HD := Lib.hid hd
 have HR := Lib.hid hr
 have HRG := Lib.hid hrg
 have HTLB := Lib.hid htl
 have HL := Lib.hid L
 have HK := Lib.hid K
 have HG := Lib.hid hg
 have HO := Lib.hid ho
 have HOL := Lib.hid hol
 have HAC := Lib.hid hac
 have HN16 := Lib.hid hn16
 clear hP hcl hl3 hd hr hrg L K hg ho hol hac hn16
 go_enter Tryz.func28, Tryz.ntmps28
 go_wp2_with (fail)
 refine HCL.out.mono ?_
 rintro e w1 ⟨rfl, ⟨q1, hP1⟩, hU1⟩
 have hB1 : ∀ b, B b → b < w1.heap.size := fun b hb => by have := hB b hb; have := hU1.size; omega
 have hpl := hP1.blk.lt
 have c3 := hP1.c3
 rw [hP1.tl] at c3
 replace c3 : w1.cell? ⟨pp, 3, none⟩ = some (.slice q1.tA p.ts.length q1.tC) := c3
 have HP1 := Lib.hid hP1
 have HU1 := Lib.hid hU1
 clear hP1 hU1
 go_upto_region 3 with fail
 clear c3 hpl
 go_loopw [25] (fun i wr => ∃ k : Nat, k ≤ p.ts.length ∧ i = .int .i64 k ∧ (∃ q', PW B wr pp { countP p with dead := deadK p k } q') ∧ Up B w wr ∧ w.heap.size ≤ wr.heap.size) (fun i _ => p.ts.length - (intOf i).toNat)
 case atStart => exact ⟨0, Nat.zero_le _, rfl, ⟨q1, by have := HP1.out; exact this⟩, HU1.out, HU1.out.size⟩
 case round =>
  as_aux_lemma =>
  obtain ⟨k, hk, rfl, ⟨q', hPr⟩, hU, hsz⟩ := hrel
  by_cases hlt : k < p.ts.length
  ·have hI : (k : Int) < (p.ts.length : Int) := by omega
   have hlv := fun w' (hs : Same wr w') => lives_law (hPr.same hs) (by rw [deadK_len (by rw [HD.out]; exact hk)]; exact HD.out) HLL.out k
   rw [livesB_dead] at hlv
   obtain ⟨lb, hlb⟩ : ∃ z, livesB (countP p) k = z := ⟨_, rfl⟩
   rw [hlb] at hlv
   have hdl : (deadK p k).length = p.ts.length := by rw [deadK_len (by rw [HD.out]; exact hk), HD.out]
   obtain ⟨d, hdd⟩ : ∃ d, (deadK p k)[k]? = some d := ⟨_, List.getElem?_eq_getElem (by rw [hdl]; exact hlt)⟩
   obtain ⟨db, hdb, hdbl, d0⟩ := hPr.ds.at1 (c := fun b : Bool => .bool b) hdd
   have hpl := hPr.blk.lt
   have c5 := hPr.c5
   simp only at c5 hdb
   rw [hdl, hdb] at c5
   have f5 := hPr.ds
   have hst : deadK p (k + 1) = (deadK p k).set k (!lb) := by rw [← hlb, deadK_set (by rw [HD.out]; exact hlt)]
   have HLV := Lib.hid hlv
   have HPR := Lib.hid hPr
   have HU := Lib.hid hU
   have HST := Lib.hid hst
   have HDB := Lib.hid hdb
   have HDL := Lib.hid hdl
   have HDD := Lib.hid hdd
   clear hlv hPr hU hst hdb hdl hlb hdd f5
   go_upto_region 5 with fail
   refine wp_phS (fun _ => False) [([0, 1, 2, 3, 4, 5, 6], 7), ([8, 9], 10)] (by kernel_rfl) (by kernel_rfl) ?_
   simp only [wpPh, pick, List.map_cons, List.map_nil, List.getD_cons_zero, List.getD_cons_succ]
   have hs : Same wr wr.drew := (Frm.refl _ _).drew
   repeat (any_goals (first | go_big_quiet_step (fail) | quiet_step (fail)))
   refine wpQuiet_nil ?_
   refine effStep_plain rfl fun K hK => ?_
   go_simp
   refine (HLV.out _ hs).mono ?_
   rintro e w2 ⟨rfl, hs2⟩
   have hs2' := hs.trans hs2 (fun _ _ h => h)
   refine hK _ _ (Lat.mk_ hs2') ?_
   clear hK K
   have hP2 := HPR.out.same hs2'
   have hdb2 := HDB.out
   have hds := hP2.ds
   have hB2 : ∀ b, B b → b < w2.heap.size := fun b hb => by have := hB b hb; have := hs2'.size; omega
   have hsz2 := hs2'.size
   clear d0 hdbl
   have hne : pp ≠ db := fun h => hP2.ds.ne_blk hP2.blk (by decide) _ hdb2 h.symm
   have hdl' : (deadK p (k + 1)).length = p.ts.length := by rw [deadK_len (by rw [HD.out]; exact hlt), HD.out]
   simp only at hds
   rw [hdb2] at hds
   have fk := Own.free hds k
   obtain ⟨db', hdb', hdbl, d0⟩ := hds.at1 (c := fun b : Bool => .bool b) HDD.out
   injection hdb' with hdb'
   injection hdb' with hdb'
   subst hdb'
   have hpt := Own.put1 (c := fun b : Bool => .bool b) hds (i := k) (by rw [HDL.out]; exact hlt) (!lb)
   rw [← HST.out, HDL.out, ← hdl', ← hdb2] at hpt
   have hto := hP2.ds_to (w' := w2.setCell ⟨db, k, none⟩ (.bool (!lb))) (ds := deadK p (k + 1)) (A2 := q'.dA) (C2 := q'.dC) ((Frm.refl _ _).set k _ (.inr ⟨_, hdb2, rfl⟩)) (by
    have hb := hP2.blk.far (p := ⟨db, k, none⟩) hne (.bool (!lb))
    simpa [pcells, HDL.out, hdl'] using hb) hpt (fun b hb => .inl hb) hB2
   have HTO := Lib.hid hto
   have HS2 := Lib.hid hs2'
   clear hto hpt hds hP2 hne hdb2 hB2 hs hs2 hs2' hdl' c5 hpl
   repeat (any_goals (first | go_big_quiet_step (fail) | quiet_step (fail)))
   refine wpQuiet_nil ?_
   go_wp2
   go_roundw
   case rel => exact ⟨k + 1, by omega, by go_num, ⟨_, HTO.out.1⟩, (HU.out.trans (Up.ofSame HS2.out)).trans HTO.out.2, by rw [size_setCell]; omega⟩
   case measure => simp [intOf] <;> omega
  ·obtain rfl : k = p.ts.length := by omega
   have hI : ¬ ((p.ts.length : Nat) : Int) < (p.ts.length : Int) := by omega
   rw [deadK_all HD.out] at hPr
   obtain ⟨w5, rfl⟩ : ∃ z, z = wr := ⟨_, rfl⟩
   have hcells : ∀ w', Same w5 w' → pp < w'.heap.size ∧ q'.mp < w'.heap.size ∧ w'.cell? ⟨pp, 0, none⟩ = some (.pointer (some ⟨q'.kp, 0, none⟩)) ∧ w'.cell? ⟨pp, 1, none⟩ = some (.pointer (some ⟨q'.mp, 0, none⟩)) ∧ w'.cell? ⟨pp, 2, none⟩ = some (.slice q'.rA p.ts.length q'.rC) ∧ w'.cell? ⟨pp, 3, none⟩ = some (.slice q'.tA p.ts.length q'.tC) ∧ w'.cell? ⟨pp, 4, none⟩ = some (.slice q'.vA (liveM p.m).length q'.vC) ∧
     w'.cell? ⟨q'.mp, 0, none⟩ = some (.int .i64 p.m.n) ∧ w'.cell? ⟨q'.mp, 2, none⟩ = some (.slice q'.b.oA p.k.ord.length q'.b.oC) ∧ w'.cell? ⟨q'.mp, 3, none⟩ = some (.slice q'.b.hA (rootsK p.k).length q'.b.hC) ∧ w'.cell? ⟨q'.mp, 4, none⟩ = some (.slice q'.b.tA p.k.tr.length q'.b.tC) := by
    intro w' hs
    have h := hPr.same hs
    refine ⟨h.blk.lt, h.m.blk.lt, h.c0, h.c1, ?_, ?_, ?_, h.m.c0, ?_, ?_, ?_⟩
    ·have := h.c2
     rw [show (lookP p).refs.length = p.ts.length from HR.out] at this
     exact this
    ·have := h.c3
     rw [h.tl] at this
     exact this
    ·have := h.c4
     rw [h.vl] at this
     exact this
    ·have := h.m.c2
     rw [HL.out.ord]
     exact this
    ·have := h.m.c3
     rw [h.m.hsl] at this
     rw [HL.out.rl]
     exact this
    ·have := h.m.c4
     rw [HL.out.tr]
     exact this
   have HC := Lib.hid hcells
   have hord : ∀ w', Same w5 w' → Calls Tryz.prog 25 #[.pointer (some ⟨q'.kp, 0, none⟩)] w' (RetL w' p.k.ord) := fun w' hs => korder_any (hPr.same hs).k HOL.out
   have hsm := fun w' (hs : Same w5 w') (A : Option Addr) (C : Nat) (ho : OwnI w' 3 A p.k.ord.length C p.k.ord) => psame_any A q'.b.oA p.k.ord.length p.k.ord.length C q'.b.oC p.k.ord p.k.ord w' ho.il (by have := (hPr.same hs).m.ord.il; rw [HL.out.ord]; exact this) (by have := HOL.out; omega) (by have := HOL.out; omega)
   simp only [decide_true] at hsm
   have htr : ∀ w', Same w5 w' → Calls Tryz.prog 35 #[.pointer (some ⟨q'.kp, 0, none⟩)] w' fun e w'' => e = .returned (.int .i64 p.k.tr.length) ∧ w' = w'' := fun w' hs => ktrail_any (hPr.same hs).k
   have hlv : ∀ w', Same w5 w' → Calls Tryz.prog 18 #[.pointer (some ⟨q'.kp, 0, none⟩)] w' fun e w'' => e = .returned (.int .i64 ((liveM p.m).length : Nat)) ∧ w' = w'' := fun w' hs => by
    have h := klive2_any (hPr.same hs).k HAC.out
    rw [show (((lookP p).k.ac : Nat) : Int) - 2 = ((liveM p.m).length : Nat) from HL.out.live] at h
    exact h
   have hwd : ∀ (v : Nat), v < p.m.n → ∀ w', Same w5 w' → Calls Tryz.prog 32 #[.pointer (some ⟨q'.kp, 0, none⟩), .int .i64 v] w' fun e w'' => e = .returned (.tuple #[.int .i64 (widthM p.m v), .int .i64 0]) ∧ w' = w'' := fun v hv w' hs => by
    have h := kwidth_any (hPr.same hs).k v
    rw [show wdR (lookP p).k v = widthM p.m v from (HL.out.wd v hv).1, show lvlE (lookP p).k v = 0 from (HL.out.wd v hv).2.2] at h
    exact h
   have hle : ∀ (v : Nat), v < p.m.n → ∀ w', Same w5 w' → Calls Tryz.prog 33 #[.pointer (some ⟨q'.kp, 0, none⟩), .int .i64 v] w' fun e w'' => e = .returned (.tuple #[.int .i64 (levelL p.m.ord v), .int .i64 0]) ∧ w' = w'' := fun v hv w' hs => by
    have h := klevel_any (hPr.same hs).k HK.out.lv v
    rw [show lvlR (lookP p).k v = levelL p.m.ord v from (HL.out.wd v hv).2.1, show lvlE (lookP p).k v = 0 from (HL.out.wd v hv).2.2] at h
    exact h
   have hwm : ∀ (v : Nat) w', Same w5 w' → Calls Tryz.prog 67 #[.pointer (some ⟨q'.mp, 0, none⟩), .int .i64 v] w' fun e w'' => e = .returned (.int .i64 (widthM p.m v)) ∧ Same w' w'' := fun v w' hs => width9_any (hPr.same hs).m HO.out v
   have hlm : ∀ (v : Nat) w', Same w5 w' → Calls Tryz.prog 68 #[.pointer (some ⟨q'.mp, 0, none⟩), .int .i64 v] w' fun e w'' => e = .returned (.int .i64 (levelL p.m.ord v)) ∧ Same w' w'' := fun v w' hs => levelOf_any (hPr.same hs).m v
   have hrt : ∀ w', Same w5 w' → Calls Tryz.prog 22 #[.pointer (some ⟨q'.kp, 0, none⟩)] w' fun e w'' => ∃ A C, e = .returned (.slice A (rootsK p.k).length C) ∧ Row1 w'' 28 rc A (rootsK p.k).length C (rootsK p.k) ∧ Fresh w'.heap.size A ∧ Same w' w'' := fun w' hs => kroots_any (hPr.same hs).k HK.out.bk
   have hhd : ∀ (r : Int), 0 ≤ r → r < 4294967296 → ∀ w', Same w5 w' → Calls Tryz.prog 17 #[.pointer (some ⟨q'.kp, 0, none⟩), .int .u32 r] w' fun e w'' => e = .returned (.int .i64 (p.k.hs.getD r.toNat 0)) ∧ w' = w'' := fun r h0 h1 w' hs => kheld_any (hPr.same hs).k r h0 h1 (fun x hx => ⟨(HK.out.bk.hol _ x hx).1, (HK.out.bk.hol _ x hx).2.1⟩)
   have htb : ∀ (r : Int) (t : List Nat), 0 ≤ r → r < 4294967296 → tabK p.k p.m.n (p.m.n + 1) r = some t → ∀ w', Same w5 w' → Calls Tryz.prog 69 #[.pointer (some ⟨q'.kp, 0, none⟩), .int .u32 r, .int .i64 p.m.n, .int .i64 0] w' fun e w'' => ∃ A C, e = .returned (.tuple #[.agg #[.int .i64 p.m.n, .slice A t.length C], .bool true]) ∧ NewT w' t A C w'' := fun r t h0 h1 ht w' hs => by
    have h := table_law (hPr.same hs).k HG.out HN16.out (p.m.n + 1) r h0 h1 (Nat.le_refl _) w' (Frm.refl _ _)
    rw [show tabK (lookP p).k p.m.n (p.m.n + 1) r = some t from ht, Nat.sub_self] at h
    exact h
   have hho : ∀ (A : Option Addr) (C : Nat) (t : List Nat), FormN p.m.n t → Small t → ∀ w', Same w5 w' → OwnW w' A t.length C t → Calls Tryz.prog 70 #[.pointer (some ⟨q'.mp, 0, none⟩), .agg #[.int .i64 p.m.n, .slice A t.length C]] w' fun e w'' => e = .returned (.int .i64 (holdsL p.m.held t)) ∧ Same w' w'' := fun A C t h1 h2 w' hs hO => by
    have h := holds_any (t := ⟨p.m.n, A, C, t⟩) (hPr.same hs).m ⟨rfl, hO, h1, h2⟩
    exact h
   have hls := fun (i : Int) w' (hs : Same w5 w') => lives_law (hPr.same hs) (by unfold lookP; simp [countP]) (show (liveM p.m).length ≤ 2097152000000 from HLL.out) i
   have htw := fun w' (hs : Same w5 w') => (hPr.same hs).tt
   have hrows : ∀ w', Same w5 w' → Row1 w' 28 rc q'.rA p.refs.length q'.rC p.refs := fun w' hs => (hPr.same hs).refs
   have htab : ∀ w', Same w5 w' → Go.Tk.Own w' 108 2 Tb.cells q'.tA q'.tt.length q'.tC q'.tt ∧ ∀ t ∈ q'.tt, TW w' p.m.n t := fun w' hs => ⟨(hPr.same hs).ts, (hPr.same hs).tt⟩
   have htte : q'.tt.map Tb.ws = p.ts := hPr.te
   have HORD := Lib.hid hord
   have HSM := Lib.hid hsm
   have HTR := Lib.hid htr
   have HLV := Lib.hid hlv
   have HWD := Lib.hid hwd
   have HLE := Lib.hid hle
   have HWM := Lib.hid hwm
   have HLM := Lib.hid hlm
   have HRT := Lib.hid hrt
   have HHD := Lib.hid hhd
   have HTB := Lib.hid htb
   have HHO := Lib.hid hho
   have HLS := Lib.hid hls
   have HROW := Lib.hid hrows
   have HTAB := Lib.hid htab
   have HTTE := Lib.hid htte
   have HFIN := Lib.hid (⟨_, hPr⟩ : ∃ q', PW B w5 pp (lookP p) q')
   have HUF := Lib.hid hU
   have HS := Lib.hid (Frm.refl (fun _ => False) w5 : Same w5 w5)
   clear hord hsm htr hlv hwd hle hwm hlm hrt hhd htb hho hls htw hrows htab htte hPr hU hcells
   go_upto_region 7 with fail
   obtain ⟨hpl, hml, c0, c1, c2, c3, c4, m0, m2, m3, m4⟩ := HC.out _ HS.out
   refine wp_phS (fun _ => False) [([0, 1, 2, 3, 5, 6, 7, 8, 9, 10, 11], 4), ([], 12), ([13, 14, 15, 16, 17, 18, 20, 21, 22, 23, 24, 25, 26, 27], 19), ([28, 29, 30, 31, 32, 33, 34, 36, 37, 38, 39, 40], 35), ([41], 42)] (by kernel_rfl) (by kernel_rfl) ?_
   have hs : Same w5 w5.drew := (Frm.refl _ _).drew
   rw [wpPh_go_eq]
   simp only [pick, List.map_cons, List.map_nil, List.getD_cons_zero, List.getD_cons_succ]
   repeat go_big_quiet_step (fail)
   refine wpQuiet_nil ?_
   refine effStep_plain rfl fun K hK => ?_
   go_simp
   refine (HORD.out _ hs).mono ?_
   rintro e w6 ⟨Ao, Co, rfl, hO6, hF6, hs6⟩
   have HS6 := Lib.hid (hs.trans hs6 (fun _ _ h => h))
   refine hK _ _ (Lat.mk_ HS6.out) ?_
   clear hK K
   have HO6 := Lib.hid hO6
   clear hO6 hF6 hs6 hs
   rw [wpPh_go_eq]
   simp only [pick, List.map_nil, List.getD_cons_zero, List.getD_cons_succ]
   repeat go_big_quiet_step (fail)
   refine wpQuiet_nil ?_
   refine effStep_plain rfl fun K hK => ?_
   go_simp
   refine (HSM.out _ HS6.out Ao Co HO6.out).mono ?_
   rintro e w7 ⟨rfl, hs7⟩
   have HS7 := Lib.hid (HS6.out.trans hs7 (fun _ _ h => h))
   refine hK _ _ (Lat.mk_ HS7.out) ?_
   clear hK K hs7
   rw [wpPh_go_eq]
   simp only [pick, List.map_cons, List.map_nil, List.getD_cons_zero, List.getD_cons_succ]
   repeat go_big_quiet_step (fail)
   refine wpQuiet_nil ?_
   refine effStep_on (by rfl) fun K hK => ?_
   go_simp
   refine (HTR.out _ HS7.out).mono ?_
   rintro e w8 ⟨rfl, rfl⟩
   refine hK _ _ (Lat.mk_ HS7.out) ?_
   clear hK K
   rw [wpPh_go_eq]
   simp only [pick, List.map_cons, List.map_nil, List.getD_cons_zero, List.getD_cons_succ]
   repeat go_big_quiet_step (fail)
   refine wpQuiet_nil ?_
   refine effStep_on (by rfl) fun K hK => ?_
   go_simp
   refine (HLV.out _ HS7.out).mono ?_
   rintro e w8 ⟨rfl, rfl⟩
   refine hK _ _ (Lat.mk_ HS7.out) ?_
   clear hK K
   rw [wpPh_end_eq]
   simp only [pick, List.map_cons, List.map_nil, List.getD_cons_zero, List.getD_cons_succ]
   repeat go_big_quiet_step (fail)
   rw [wpQuiet_nil_eq]
   clear hpl hml c0 c1 c2 c3 c4 m0 m2 m3 m4 HO6 HS6
   go_wp2_with (fail)
   go_loopw [4] (fun i wx => ∃ v : Nat, v ≤ p.m.n ∧ i = .int .i64 v ∧ Same w5 wx) (fun i _ => p.m.n - (intOf i).toNat)
   case atStart => exact ⟨0, Nat.zero_le _, rfl, HS7.out⟩
   case round =>
    as_aux_lemma =>
    obtain ⟨v, hv, rfl, hsx⟩ := hrel
    by_cases hlt : v < p.m.n
    ·have hJ : (v : Int) < (p.m.n : Int) := by omega
     have hn16 := HN16.out
     have HSX := Lib.hid hsx
     clear hsx
     obtain ⟨hpl, hml, c0, c1, c2, c3, c4, m0, m2, m3, m4⟩ := HC.out _ HSX.out
     have h1 := HWD.out v hlt
     have h2 := HLE.out v hlt
     have h3 := HWM.out v
     have h4 := HLM.out v
     obtain ⟨a1, ha1⟩ : ∃ z, widthM p.m v = z := ⟨_, rfl⟩
     obtain ⟨a2, ha2⟩ : ∃ z, levelL p.m.ord v = z := ⟨_, rfl⟩
     replace h3 : ∀ w', Same w5 w' → Calls Tryz.prog 67 #[.pointer (some ⟨q'.mp, 0, none⟩), .int .i64 v] w' fun e w'' => e = .returned (.int .i64 a1) ∧ Same w' w'' := by rw [← ha1]; exact h3
     replace h4 : ∀ w', Same w5 w' → Calls Tryz.prog 68 #[.pointer (some ⟨q'.mp, 0, none⟩), .int .i64 v] w' fun e w'' => e = .returned (.int .i64 a2) ∧ Same w' w'' := by rw [← ha2]; exact h4
     rw [ha1] at h1
     rw [ha2] at h2
     have H1 := Lib.hid h1
     have H2 := Lib.hid h2
     have H3 := Lib.hid h3
     have H4 := Lib.hid h4
     clear h1 h2 h3 h4 ha1 ha2
     go_wp2_with (fail)
     refine (H1.out _ HSX.out).mono ?_
     rintro e wy ⟨rfl, rfl⟩
     go_wp2_with (fail)
     refine (H2.out _ HSX.out).mono ?_
     rintro e wy ⟨rfl, rfl⟩
     go_wp2_with (fail)
     refine (H3.out _ HSX.out).mono ?_
     rintro e wy ⟨rfl, hsy⟩
     have HSY := Lib.hid (HSX.out.trans hsy (fun _ _ h => h))
     clear hsy hpl hml c0 c1 c2 c3 c4 m0 m2 m3 m4
     obtain ⟨hpl, hml, c0, c1, c2, c3, c4, m0, m2, m3, m4⟩ := HC.out _ HSY.out
     go_wp2_with (fail)
     refine (H4.out _ HSY.out).mono ?_
     rintro e wz ⟨rfl, hsz⟩
     have HSZ := Lib.hid (HSY.out.trans hsz (fun _ _ h => h))
     clear hsz hpl hml c0 c1 c2 c3 c4 m0 m2 m3 m4
     go_wp2
     go_roundw
     case rel => exact ⟨v + 1, by omega, by go_num, HSZ.out⟩
     case measure => simp [intOf] <;> omega
    ·obtain rfl : v = p.m.n := by omega
     have hJ : ¬ ((p.m.n : Nat) : Int) < (p.m.n : Int) := by omega
     have HSX := Lib.hid hsx
     clear hsx
     obtain ⟨hpl, hml, c0, c1, c2, c3, c4, m0, m2, m3, m4⟩ := HC.out _ HSX.out
     go_wp2_with (fail)
     refine (HRT.out _ HSX.out).mono ?_
     rintro e wa ⟨Ar, Cr, rfl, hRr, hFr, hsr⟩
     have HSA := Lib.hid (HSX.out.trans hsr (fun _ _ h => h))
     have HRR := Lib.hid (show Row1 wa 28 rc Ar (rootsK p.k).length Cr (rootsK p.k) from hRr)
     clear hsr hRr hFr hpl hml c0 c1 c2 c3 c4 m0 m2 m3 m4
     obtain ⟨hpl, hml, c0, c1, c2, c3, c4, m0, m2, m3, m4⟩ := HC.out _ HSA.out
     have hrge : ∀ x ∈ rootsK p.k, 0 ≤ x ∧ x < 4294967296 := roots_range HK.out
     have HRGE := Lib.hid hrge
     have HLRT := Lib.hid HL.out.rt
     have hrlb : (rootsK p.k).length ≤ 1048576 := roots_len HK.out
     clear hrge
     obtain ⟨RL, hRL⟩ : ∃ z, rootsK p.k = z := ⟨_, rfl⟩
     rw [hRL] at HRR HRGE HLRT m3 hrlb ⊢
     clear hRL
     have e7 : (RL.length != RL.length) = false := by simp
     go_wp2_with (fail)
     go_loopw [155] (fun i wx => ∃ k : Nat, k ≤ RL.length ∧ i = .int .i64 k ∧ Same wa wx) (fun i _ => RL.length - (intOf i).toNat)
     case atStart => exact ⟨0, Nat.zero_le _, rfl, Frm.refl _ _⟩
     case round =>
      as_aux_lemma =>
      clear hpl hml c0 c1 c2 c3 c4 m0 m2 m3 m4
      obtain ⟨k, hk, rfl, hsk⟩ := hrel
      have HSK := Lib.hid (HSA.out.trans hsk (fun _ _ h => h))
      by_cases hlt : k < RL.length
      ·have hI3 : (k : Int) < (RL.length : Int) := by omega
       obtain ⟨r, hr⟩ : ∃ r, RL[k]? = some r := ⟨_, List.getElem?_eq_getElem hlt⟩
       have hRk := HRR.out.frm hsk (fun _ _ => id)
       obtain ⟨sb, hA1, hsb, d0⟩ := hRk.at1 (c := rc) hr
       obtain ⟨t, ht, hnz, hhs, hup⟩ := HLRT.out k hlt
       have hrd : RL.getD k 0 = r := by rw [List.getD_eq_getElem?_getD, hr]; rfl
       rw [hrd] at ht hhs hup
       obtain ⟨hr0, hr1⟩ := HRGE.out r (List.mem_of_getElem? hr)
       obtain ⟨hf1, hf2⟩ := tabK_form HN16.out _ _ _ ht
       have htb := HTB.out r t hr0 hr1 ht
       have hho := fun A C => HHO.out A C t hf1 hf2
       have hhd := HHD.out r hr0 hr1
       rw [hhs] at hhd
       obtain ⟨hc, hhc⟩ : ∃ z, holdsL p.m.held t = z := ⟨_, rfl⟩
       rw [hhc] at hho hhd hnz
       have e0 : (hc == 0) = false := by simpa using hnz
       have e1 : (hc != hc) = false := by simp
       unfold rc at d0
       have hprev : k = 0 ∨ ∃ k' r', k = k' + 1 ∧ RL[k']? = some r' ∧ ¬ r ≤ r' := by
        rcases hup with h | h
        ·exact .inl h
        ·by_cases h0 : k = 0
         ·exact .inl h0
         ·refine .inr ⟨k - 1, RL.getD (k - 1) 0, by omega, ?_, by rw [List.getD_eq_getElem?_getD] at h ⊢; omega⟩
          rw [List.getD_eq_getElem?_getD, List.getElem?_eq_getElem (by omega)]
          rfl
       have HTBr := Lib.hid htb
       have HHOr := Lib.hid hho
       have HHDr := Lib.hid hhd
       have HPRV := Lib.hid hprev
       have HRK := Lib.hid hRk
       have HSKA := Lib.hid hsk
       have HA1 := Lib.hid hA1
       clear htb hho hhd hprev hRk hsk hhs hhc hup hrd hr ht hf1 hf2
       subst hA1
       obtain ⟨hpl, hml, c0, c1, c2, c3, c4, m0, m2, m3, m4⟩ := HC.out _ HSK.out
       go_upto_region 22 with fail
       go_cut [12, 13] (fun s1 s2 wx => ∃ (T : Nat) (A : Option Addr) (C : Nat), s1 = .pointer (some ⟨T, 0, none⟩) ∧ s2 = .bool true ∧ Blk wx T 108 #[.int .i64 p.m.n, .slice A t.length C] ∧ OwnW wx A t.length C t ∧ Same wr wx)
       case first =>
        as_aux_lemma =>
        refine wp_tS (fun _ => False) (.q [0,1,2,3,4,5,6,7,8,9,10,11] (.fork 12 (.q [13,14,15] (.step 16 (.step 17 (.last 18)))) 16 (.step 12 (.q [13,14,15] (.step 17 (.last 18)))))) (by kernel_rfl) (by kernel_rfl) ?_
        simp only [wpT, pick, List.map_cons, List.map_nil, List.getD_cons_zero, List.getD_cons_succ]
        have hs : Same wr wr.drew := (Frm.refl _ _).drew
        repeat go_big_quiet_step (fail)
        refine wpQuiet_nil ?_
        refine ⟨?_, ?_⟩
        ·refine effStep_plain rfl fun K hK => ?_
         go_simp
         refine (HTBr.out _ (HSK.out.trans hs (fun _ _ h => h))).mono ?_
         rintro e wa ⟨A5, C5, rfl, hO5, hF5, hs5⟩
         have hsa := hs.trans hs5 (fun _ _ h => h)
         refine hK _ _ (Lat.mk_ hsa) ?_
         clear hK K
         have HSA := Lib.hid hsa
         have HO5 := Lib.hid hO5
         clear hsa hO5 hs5 hF5 hs
         repeat go_big_quiet_step (fail)
         refine wpQuiet_nil ?_
         refine effStep_plain rfl fun K hK => ?_
         go_simp
         refine hK _ _ (Lat.mk_ (HSA.out.alloc _)) ?_
         clear hK K
         refine effStep_plain rfl fun K hK => ?_
         go_simp
         refine hK _ _ (Lat.mk_ (HSA.out.alloc _)) ?_
         clear hK K
         go_wp2_with fail
         go_meet
         exact ⟨wa.heap.size, A5, C5, rfl, rfl, Blk.new wa _ _, HO5.out.frm (S := fun _ => False) ((Frm.refl _ _).alloc _) (fun _ _ => id), HSA.out.alloc _⟩
        ·refine effStep_plain rfl fun K hK => ?_
         go_simp
         have hT := (Blk.new wr 108 #[.int .i64 0, .slice none 0 0]).drew
         have hsa : Same wr (wr.alloc (.cells #[.int .i64 0, .slice none 0 0] 108)).drew := ((Frm.refl _ _).alloc _).drew
         refine hK _ _ (Lat.mk_ hsa) ?_
         clear hK K
         generalize (wr.alloc (.cells #[.int .i64 0, .slice none 0 0] 108)).drew = wa at hT hsa ⊢
         refine effStep_plain rfl fun K hK => ?_
         go_simp
         refine (HTBr.out _ (HSK.out.trans hsa (fun _ _ h => h))).mono ?_
         rintro e wb ⟨A5, C5, rfl, hO5, hF5, hs5⟩
         have hsb := hsa.trans hs5 (fun _ _ h => h)
         refine hK _ _ (Lat.mk_ hsb) ?_
         clear hK K
         have hT5 := hT.frm hs5 id
         have hnA : ∀ x, A5 = some x → x.block ≠ wr.heap.size := fun x hx h => hO5.ne_blk hT5 (by decide) x hx h
         have t0 := hT5.cell 0
         have t1 := hT5.cell 1
         have tl := hT5.lt
         have u0 := hT5.free 0
         have u1 := hT5.free 1
         simp at t0 t1
         have HSB := Lib.hid hsb
         have HO5 := Lib.hid hO5
         have HT5 := Lib.hid hT5
         have HNA := Lib.hid hnA
         clear hsb hO5 hs5 hF5 hT hT5 hsa hs hnA
         repeat go_big_quiet_step (fail)
         refine wpQuiet_nil ?_
         refine effStep_plain rfl fun K hK => ?_
         go_simp
         refine hK _ _ (Lat.mk_ ((HSB.out.setNew 0 _ (Nat.le_refl _)).setNew 1 _ (Nat.le_refl _))) ?_
         clear hK K
         go_wp2_with fail
         go_meet
         refine ⟨wr.heap.size, A5, C5, rfl, rfl, ?_, (Own.far (p := ⟨wr.heap.size, 0, none⟩) HO5.out HNA.out _).far (p := ⟨wr.heap.size, 1, none⟩) HNA.out _, (HSB.out.setNew 0 _ (Nat.le_refl _)).setNew 1 _ (Nat.le_refl _)⟩
         have := (HT5.out.set 0 (.int .i64 p.m.n)).set 1 (.slice A5 t.length C5)
         simpa using this
       case rest =>
        as_aux_lemma =>
        obtain ⟨T, A5, C5, rfl, rfl, hT, hO5, hs5⟩ := hcut
        have HS5 := Lib.hid (HSK.out.trans hs5 (fun _ _ h => h))
        have HSK5 := Lib.hid (HSKA.out.trans hs5 (fun _ _ h => h))
        have HT := Lib.hid hT
        have HO5 := Lib.hid hO5
        clear hpl hml c0 c1 c2 c3 c4 m0 m2 m3 m4 d0 hsb hs5 hT hO5
        obtain ⟨hpl, hml, c0, c1, c2, c3, c4, m0, m2, m3, m4⟩ := HC.out _ HS5.out
        have t0 := HT.out.cell 0
        have t1 := HT.out.cell 1
        have tl := HT.out.lt
        simp at t0 t1
        go_upto_region 23 with fail
        have hs : Same wc wc.drew := (Frm.refl _ _).drew
        have key : ∀ (G : Prop), (k = 0 → G) → (∀ k' r', k = k' + 1 → RL[k']? = some r' → ¬ r ≤ r' → G) → G := fun G h1 h2 => by
         rcases HPRV.out with h | ⟨k', r', a, b, c⟩
         ·exact h1 h
         ·exact h2 k' r' a b c
        refine wp_phS (fun _ => False) [([0, 1, 2, 3, 4, 5, 6, 7], 8), ([9, 10, 11, 12, 13, 14, 15, 16, 18, 19, 20, 21, 22], 17), ([], 23), ([24, 25, 26, 27, 28, 29, 30, 31, 32, 33, 34, 35, 36, 37], 38)] (by kernel_rfl) (by kernel_rfl) ?_
        rw [wpPh_go_eq]
        simp only [pick, List.map_cons, List.map_nil, List.getD_cons_zero, List.getD_cons_succ]
        repeat go_big_quiet_step (fail)
        refine wpQuiet_nil ?_
        refine effStep_on (by rfl) fun K hK => ?_
        go_simp
        refine (HHOr.out A5 C5 _ (HS5.out.trans hs (fun _ _ h => h)) (HO5.out.frm hs (fun _ _ => id))).mono ?_
        rintro e wd ⟨rfl, hsd⟩
        have hsd' := hs.trans hsd (fun _ _ h => h)
        refine hK _ _ (Lat.mk_ hsd') ?_
        clear hK K
        have HSD := Lib.hid hsd'
        have HS6 := Lib.hid (HS5.out.trans hsd' (fun _ _ h => h))
        have HT6 := Lib.hid (HT.out.frm hsd' id)
        have HO6 := Lib.hid (HO5.out.frm hsd' (fun _ _ => id))
        clear hsd hsd' hs
        rw [wpPh_go_eq]
        simp only [pick, List.map_cons, List.map_nil, List.getD_cons_zero, List.getD_cons_succ]
        repeat go_big_quiet_step (fail)
        refine wpQuiet_nil ?_
        refine effStep_on (by rfl) fun K hK => ?_
        go_simp
        refine (HHDr.out _ HS6.out).mono ?_
        rintro e we ⟨rfl, rfl⟩
        refine hK _ _ (Lat.mk_ HSD.out) ?_
        clear hK K
        rw [wpPh_go_eq]
        simp only [pick, List.map_nil, List.getD_cons_zero, List.getD_cons_succ]
        repeat go_big_quiet_step (fail)
        refine wpQuiet_nil ?_
        refine effStep_on (by rfl) fun K hK => ?_
        go_simp
        refine (HHOr.out A5 C5 _ HS6.out HO6.out).mono ?_
        rintro e wf ⟨rfl, hsf⟩
        have HSF := Lib.hid (HSD.out.trans hsf (fun _ _ h => h))
        have HS7 := Lib.hid (HS6.out.trans hsf (fun _ _ h => h))
        have HSK7 := Lib.hid (HSK5.out.trans HSF.out (fun _ _ h => h))
        refine hK _ _ (Lat.mk_ HSF.out) ?_
        clear hK K hsf
        rcases HPRV.out with rfl | ⟨k', r', rfl, hr', hrr⟩
        ·clear key
         rw [wpPh_end_eq]
         simp only [pick, List.map_cons, List.map_nil, List.getD_cons_zero, List.getD_cons_succ]
         repeat go_big_quiet_step (fail)
         rw [wpQuiet_nil_eq]
         go_wp2
         go_roundw
         case rel => exact ⟨1, by omega, by go_num, HSK7.out⟩
         case measure => simp [intOf] <;> omega
        ·clear key
         obtain ⟨sb', hA', hsb, d0⟩ := (HRR.out.frm HSK5.out (fun _ _ => id)).at1 (c := rc) hr'
         injection hA' with hA'
         injection hA' with hA'
         subst hA'
         unfold rc at d0
         have hk1 : (0 : Int) < (k' : Int) + 1 := by omega
         have hk2 : (k' : Int) < RL.length := by omega
         rw [wpPh_end_eq]
         simp only [pick, List.map_cons, List.map_nil, List.getD_cons_zero, List.getD_cons_succ]
         repeat go_big_quiet_step (fail)
         rw [wpQuiet_nil_eq]
         go_wp2
         go_roundw
         case rel => exact ⟨k' + 2, by omega, by go_num, HSK7.out⟩
         case measure => simp [intOf] <;> omega
      ·obtain rfl : k = RL.length := by omega
       have hI3 : ¬ ((RL.length : Nat) : Int) < (RL.length : Int) := by omega
       clear hsk
       go_wp2_with (fail)
       go_loopw [14] (fun i wx => ∃ k : Nat, k ≤ p.ts.length ∧ i = .int .i64 k ∧ Same w5 wx) (fun i _ => p.ts.length - (intOf i).toNat)
       case atStart => exact ⟨0, Nat.zero_le _, rfl, HSK.out⟩
       case round =>
        as_aux_lemma =>
        obtain ⟨k, hk, rfl, hsk⟩ := hrel
        have HSK4 := Lib.hid hsk
        obtain ⟨hpl, hml, c0, c1, c2, c3, c4, m0, m2, m3, m4⟩ := HC.out _ hsk
        clear hsk
        by_cases hlt : k < p.ts.length
        ·have hI4 : (k : Int) < (p.ts.length : Int) := by omega
         have hls := HLS.out k
         obtain ⟨lb, hlb⟩ : ∃ z, livesB (lookP p) k = z := ⟨_, rfl⟩
         rw [hlb] at hls
         have HLK := Lib.hid hls
         clear hls
         go_wp2_with (fail)
         refine (HLK.out _ HSK4.out).mono ?_
         rintro e wl ⟨rfl, hsl⟩
         have HSL := Lib.hid (HSK4.out.trans hsl (fun _ _ h => h))
         clear hsl hpl hml c0 c1 c2 c3 c4 m0 m2 m3 m4
         cases lb with
         | false =>
          clear hlb
          go_wp2
          go_roundw
          case rel => exact ⟨k + 1, by omega, by go_num, HSL.out⟩
          case measure => simp [intOf] <;> omega
         | true =>
          obtain ⟨ht, hfn⟩ := HL.out.fn k hlt hlb
          obtain ⟨r, hr⟩ : ∃ r, p.refs[k]? = some r := ⟨_, List.getElem?_eq_getElem (by rw [HR.out]; exact hlt)⟩
          obtain ⟨u, hu⟩ : ∃ u, q'.tt[k]? = some u := ⟨_, List.getElem?_eq_getElem (by have := congrArg List.length HTTE.out; rw [List.length_map] at this; omega)⟩
          have hur : p.ts.getD k [] = u.ws := by rw [List.getD_eq_getElem?_getD, ← HTTE.out, List.getElem?_map, hu]; rfl
          have hrd : p.refs.getD k 0 = r := by rw [List.getD_eq_getElem?_getD, hr]; rfl
          rw [hur] at ht hfn
          rw [hrd] at ht hfn
          obtain ⟨hr0, hr1⟩ := HRG.out r (List.mem_of_getElem? hr)
          have htb := HTB.out r u.ws hr0 hr1 ht
          obtain ⟨hpl, hml, c0, c1, c2, c3, c4, m0, m2, m3, m4⟩ := HC.out _ HSL.out
          obtain ⟨rb, hrb, hrbl, d0⟩ := (HROW.out _ HSL.out).at1 (c := rc) hr
          rw [hrb] at c2
          unfold rc at d0
          have HTBr := Lib.hid htb
          have HHR := Lib.hid hr
          have HHU := Lib.hid hu
          have HFN := Lib.hid hfn
          have HRB := Lib.hid hrb
          clear htb hr hu hfn hrb ht hur hrd hlb
          go_upto_region 30 with fail
          go_cut [15, 16] (fun s1 s2 wx => ∃ (T : Nat) (A : Option Addr) (C : Nat), s1 = .pointer (some ⟨T, 0, none⟩) ∧ s2 = .bool true ∧ Blk wx T 108 #[.int .i64 p.m.n, .slice A u.ws.length C] ∧ OwnW wx A u.ws.length C u.ws ∧ Same wl wx)
          case first =>
           as_aux_lemma =>
           refine wp_tS (fun _ => False) (.q [0,1,2,3,4,5,6,7,8,9,10,11,12,13,14,15,16,17] (.fork 18 (.q [19,20,21] (.step 22 (.step 23 (.last 24)))) 22 (.step 18 (.q [19,20,21] (.step 23 (.last 24)))))) (by kernel_rfl) (by kernel_rfl) ?_
           simp only [wpT, pick, List.map_cons, List.map_nil, List.getD_cons_zero, List.getD_cons_succ]
           have hs : Same wl wl.drew := (Frm.refl _ _).drew
           repeat go_big_quiet_step (fail)
           refine wpQuiet_nil ?_
           refine ⟨?_, ?_⟩
           ·refine effStep_plain rfl fun K hK => ?_
            go_simp
            refine (HTBr.out _ (HSL.out.trans hs (fun _ _ h => h))).mono ?_
            rintro e wa ⟨A5, C5, rfl, hO5, hF5, hs5⟩
            have hsa := hs.trans hs5 (fun _ _ h => h)
            refine hK _ _ (Lat.mk_ hsa) ?_
            clear hK K
            have HSA := Lib.hid hsa
            have HO5 := Lib.hid hO5
            clear hsa hO5 hs5 hF5 hs
            repeat go_big_quiet_step (fail)
            refine wpQuiet_nil ?_
            refine effStep_plain rfl fun K hK => ?_
            go_simp
            refine hK _ _ (Lat.mk_ (HSA.out.alloc _)) ?_
            clear hK K
            refine effStep_plain rfl fun K hK => ?_
            go_simp
            refine hK _ _ (Lat.mk_ (HSA.out.alloc _)) ?_
            clear hK K
            go_wp2_with fail
            go_meet
            exact ⟨wa.heap.size, A5, C5, rfl, rfl, Blk.new wa _ _, HO5.out.frm (S := fun _ => False) ((Frm.refl _ _).alloc _) (fun _ _ => id), HSA.out.alloc _⟩
           ·refine effStep_plain rfl fun K hK => ?_
            go_simp
            have hT := (Blk.new wl 108 #[.int .i64 0, .slice none 0 0]).drew
            have hsa : Same wl (wl.alloc (.cells #[.int .i64 0, .slice none 0 0] 108)).drew := ((Frm.refl _ _).alloc _).drew
            refine hK _ _ (Lat.mk_ hsa) ?_
            clear hK K
            generalize (wl.alloc (.cells #[.int .i64 0, .slice none 0 0] 108)).drew = wa at hT hsa ⊢
            refine effStep_plain rfl fun K hK => ?_
            go_simp
            refine (HTBr.out _ (HSL.out.trans hsa (fun _ _ h => h))).mono ?_
            rintro e wb ⟨A5, C5, rfl, hO5, hF5, hs5⟩
            have hsb := hsa.trans hs5 (fun _ _ h => h)
            refine hK _ _ (Lat.mk_ hsb) ?_
            clear hK K
            have hT5 := hT.frm hs5 id
            have hnA : ∀ x, A5 = some x → x.block ≠ wl.heap.size := fun x hx h => hO5.ne_blk hT5 (by decide) x hx h
            have t0 := hT5.cell 0
            have t1 := hT5.cell 1
            have tl := hT5.lt
            have u0 := hT5.free 0
            have u1 := hT5.free 1
            simp at t0 t1
            have HSB := Lib.hid hsb
            have HO5 := Lib.hid hO5
            have HT5 := Lib.hid hT5
            have HNA := Lib.hid hnA
            clear hsb hO5 hs5 hF5 hT hT5 hsa hs hnA
            repeat go_big_quiet_step (fail)
            refine wpQuiet_nil ?_
            refine effStep_plain rfl fun K hK => ?_
            go_simp
            refine hK _ _ (Lat.mk_ ((HSB.out.setNew 0 _ (Nat.le_refl _)).setNew 1 _ (Nat.le_refl _))) ?_
            clear hK K
            go_wp2_with fail
            go_meet
            refine ⟨wl.heap.size, A5, C5, rfl, rfl, ?_, (Own.far (p := ⟨wl.heap.size, 0, none⟩) HO5.out HNA.out _).far (p := ⟨wl.heap.size, 1, none⟩) HNA.out _, (HSB.out.setNew 0 _ (Nat.le_refl _)).setNew 1 _ (Nat.le_refl _)⟩
            have := (HT5.out.set 0 (.int .i64 p.m.n)).set 1 (.slice A5 u.ws.length C5)
            simpa using this
          case rest =>
           as_aux_lemma =>
           obtain ⟨T, A5, C5, rfl, rfl, hT, hO5, hs5⟩ := hcut
           have HS5 := Lib.hid (HSL.out.trans hs5 (fun _ _ h => h))
           have HT := Lib.hid hT
           have HO5 := Lib.hid hO5
           clear hpl hml c0 c1 c2 c3 c4 m0 m2 m3 m4 d0 hrbl hs5 hT hO5
           obtain ⟨hpl, hml, c0, c1, c2, c3, c4, m0, m2, m3, m4⟩ := HC.out _ HS5.out
           have t0 := HT.out.cell 0
           have t1 := HT.out.cell 1
           have tl := HT.out.lt
           simp at t0 t1
           obtain ⟨tb, htb, htbl, y0, y1⟩ := tab_at (HTAB.out _ HS5.out).1 (HTAB.out _ HS5.out).2 HHU.out
           rw [htb] at c3
           have hwl := ((HTAB.out _ HS5.out).2 u (List.mem_of_getElem? HHU.out)).fm.len
           have hsm := fun w' (hs : Same wc w') => tsame_any p.m.n A5 u.ws.length C5 u.ws p.m.n u.A u.ws.length u.C u.ws w' ((HO5.out.frm hs (fun _ _ => id)).sl ucell_len) (((HTAB.out _ (HS5.out.trans hs (fun _ _ h => h))).2 u (List.mem_of_getElem? HHU.out)).ok.wl) (by rw [hwl]; have := nw_le HN16.out; omega)
           have esm : sm p.m.n p.m.n u.ws u.ws = true := by unfold sm; simp
           rw [esm] at hsm
           have HSMk := Lib.hid hsm
           have HTBK := Lib.hid htb
           clear esm hsm hwl htb
           go_upto_region 31 with fail
           have hs : Same wc wc.drew := (Frm.refl _ _).drew
           refine wp_phS (fun _ => False) [([0, 1, 2, 3, 4, 5, 6, 7, 8, 9, 10], 11), ([12], 13)] (by kernel_rfl) (by kernel_rfl) ?_
           rw [wpPh_go_eq]
           simp only [pick, List.map_cons, List.map_nil, List.getD_cons_zero, List.getD_cons_succ]
           repeat go_big_quiet_step (fail)
           refine wpQuiet_nil ?_
           refine effStep_on (by rfl) fun K hK => ?_
           go_simp
           refine (HSMk.out _ hs).mono ?_
           rintro e wd ⟨rfl, hsd⟩
           have hsd' := hs.trans hsd (fun _ _ h => h)
           refine hK _ _ (Lat.mk_ hsd') ?_
           clear hK K
           have HSD := Lib.hid (HS5.out.trans hsd' (fun _ _ h => h))
           clear hsd hsd' hs HSMk HT HO5 HTBr HLK
           rw [wpPh_end_eq]
           simp only [pick, List.map_cons, List.map_nil, List.getD_cons_zero, List.getD_cons_succ]
           repeat go_big_quiet_step (fail)
           rw [wpQuiet_nil_eq]
           clear hpl hml c0 c1 c2 c3 c4 m0 m2 m3 m4 t0 t1 tl htbl y0 y1
           go_wp2_with (fail)
           go_loopw [17] (fun i wx => ∃ j : Nat, j ≤ k ∧ i = .int .i64 j ∧ Same w5 wx) (fun i _ => k - (intOf i).toNat)
           case atStart => exact ⟨0, Nat.zero_le _, rfl, HSD.out⟩
           case round =>
            as_aux_lemma =>
            obtain ⟨j, hj, rfl, hsj⟩ := hrel
            have HSJ := Lib.hid hsj
            clear hsj
            by_cases hjk : j < k
            ·have hI5 : (j : Int) < (k : Int) := by omega
             have hI6 : (j : Int) < (p.ts.length : Int) := by omega
             have hjt : j < p.ts.length := by omega
             have hls := HLS.out j
             obtain ⟨lj, hlj⟩ : ∃ z, livesB (lookP p) j = z := ⟨_, rfl⟩
             rw [hlj] at hls
             have HLJ := Lib.hid hls
             obtain ⟨rj, hrj⟩ : ∃ r, p.refs[j]? = some r := ⟨_, List.getElem?_eq_getElem (by rw [HR.out]; exact hjt)⟩
             obtain ⟨v, hv⟩ : ∃ u, q'.tt[j]? = some u := ⟨_, List.getElem?_eq_getElem (by have := congrArg List.length HTTE.out; rw [List.length_map] at this; omega)⟩
             have hvr : p.ts.getD j [] = v.ws := by rw [List.getD_eq_getElem?_getD, ← HTTE.out, List.getElem?_map, hv]; rfl
             have hrjd : p.refs.getD j 0 = rj := by rw [List.getD_eq_getElem?_getD, hrj]; rfl
             have hfj := HFN.out j hjk
             rw [hvr, hrjd, hlj] at hfj
             have hwl := ((HTAB.out _ HSJ.out).2 u (List.mem_of_getElem? HHU.out)).fm.len
             have hsm := fun w' (hs : Same w5 w') => tsame_any p.m.n u.A u.ws.length u.C u.ws p.m.n v.A v.ws.length v.C v.ws w' (((HTAB.out _ hs).2 u (List.mem_of_getElem? HHU.out)).ok.wl) (((HTAB.out _ hs).2 v (List.mem_of_getElem? hv)).ok.wl) (by rw [hwl]; have := nw_le HN16.out; omega)
             have esm : sm p.m.n p.m.n u.ws v.ws = decide (u.ws = v.ws) := by unfold sm; simp
             rw [esm] at hsm
             have HVR := Lib.hid hvr
             have HFJ := Lib.hid hfj
             have HSMj := Lib.hid hsm
             have HRJ := Lib.hid hrj
             have HHV := Lib.hid hv
             clear hls hlj hrj hv hvr hrjd hfj hwl hsm esm
             obtain ⟨hpl, hml, c0, c1, c2, c3, c4, m0, m2, m3, m4⟩ := HC.out _ HSJ.out
             go_upto_region 36 with fail
             have hs : Same wr wr.drew := (Frm.refl _ _).drew
             cases lj with
             | false =>
              refine wp_phS (fun _ => False) [([0, 1], 2), ([3, 4, 5, 6, 7, 8, 9, 10, 11, 12, 13, 14, 15, 16, 17, 19, 20, 21, 22, 23, 24, 25, 26, 27, 28, 29, 30, 31, 32, 33], 18), ([34], 35)] (by kernel_rfl) (by kernel_rfl) ?_
              rw [wpPh_go_eq]
              simp only [pick, List.map_cons, List.map_nil, List.getD_cons_zero, List.getD_cons_succ]
              repeat go_big_quiet_step (fail)
              refine wpQuiet_nil ?_
              refine effStep_plain rfl fun K hK => ?_
              go_simp
              refine (HLJ.out _ (HSJ.out.trans hs (fun _ _ h => h))).mono ?_
              rintro e wy ⟨rfl, hsy⟩
              have hsy' := hs.trans hsy (fun _ _ h => h)
              refine hK _ _ (Lat.mk_ hsy') ?_
              clear hK K
              have HSY := Lib.hid (HSJ.out.trans hsy' (fun _ _ h => h))
              clear hsy hsy' hs
              rw [wpPh_go_eq]
              simp only [pick, List.map_cons, List.map_nil, List.getD_cons_zero, List.getD_cons_succ]
              repeat go_big_quiet_step (fail)
              rw [wpQuiet_nil_eq]
              rw [effStep_skip_eq]
              rotate_left
              ·rfl
              rw [wpPh_end_eq]
              simp only [pick, List.map_cons, List.map_nil, List.getD_cons_zero, List.getD_cons_succ, Act.put, List.setIfInBounds_toArray, List.set_cons_succ, List.set_cons_zero]
              repeat go_big_quiet_step (fail)
              rw [wpQuiet_nil_eq]
              go_wp2
              go_roundw
              case rel => exact ⟨j + 1, by omega, by go_num, HSY.out⟩
              case measure => simp [intOf] <;> omega
             | true =>
              have hfj := HFJ.out rfl
              obtain ⟨bj, hbj⟩ : ∃ z, decide (u.ws = v.ws) = z := ⟨_, rfl⟩
              rw [hbj] at HSMj hfj
              have HFJ2 := Lib.hid hfj
              clear hfj hbj
              obtain ⟨tb2, htb2, htbl, y0, y1⟩ := tab_at (HTAB.out _ HSJ.out).1 (HTAB.out _ HSJ.out).2 HHU.out
              obtain ⟨tb3, htb3, _, z0, z1⟩ := tab_at (HTAB.out _ HSJ.out).1 (HTAB.out _ HSJ.out).2 HHV.out
              rw [htb2] at htb3 c3
              injection htb3 with htb3
              injection htb3 with htb3
              subst htb3
              obtain ⟨rb2, hrb2, hrbl, d0⟩ := (HROW.out _ HSJ.out).at1 (c := rc) HHR.out
              obtain ⟨rb3, hrb3, _, d1⟩ := (HROW.out _ HSJ.out).at1 (c := rc) HRJ.out
              rw [hrb2] at hrb3 c2
              injection hrb3 with hrb3
              injection hrb3 with hrb3
              subst hrb3
              unfold rc at d0 d1
              clear htb2 hrb2
              refine wp_phS (fun _ => False) [([0, 1], 2), ([3, 4, 5, 6, 7, 8, 9, 10, 11, 12, 13, 14, 15, 16, 17, 19, 20, 21, 22, 23, 24, 25, 26, 27, 28, 29, 30, 31, 32, 33], 18), ([34], 35)] (by kernel_rfl) (by kernel_rfl) ?_
              rw [wpPh_go_eq]
              simp only [pick, List.map_cons, List.map_nil, List.getD_cons_zero, List.getD_cons_succ]
              repeat go_big_quiet_step (fail)
              refine wpQuiet_nil ?_
              refine effStep_plain rfl fun K hK => ?_
              go_simp
              refine (HLJ.out _ (HSJ.out.trans hs (fun _ _ h => h))).mono ?_
              rintro e wy ⟨rfl, hsy⟩
              have hsy' := hs.trans hsy (fun _ _ h => h)
              refine hK _ _ (Lat.mk_ hsy') ?_
              clear hK K
              have HSYX := Lib.hid hsy'
              have HSY := Lib.hid (HSJ.out.trans hsy' (fun _ _ h => h))
              clear hsy hsy' hs
              rw [wpPh_go_eq]
              simp only [pick, List.map_cons, List.map_nil, List.getD_cons_zero, List.getD_cons_succ]
              repeat go_big_quiet_step (fail)
              refine wpQuiet_nil ?_
              refine effStep_on (by rfl) fun K hK => ?_
              go_simp
              refine (HSMj.out _ HSY.out).mono ?_
              rintro e wz ⟨rfl, hsz⟩
              have HSZ := Lib.hid (HSY.out.trans hsz (fun _ _ h => h))
              refine hK _ _ (Lat.mk_ (HSYX.out.trans hsz (fun _ _ h => h))) ?_
              clear hK K hsz
              by_cases hrr : r = rj
              ·have hb : bj = true := by rw [HFJ2.out]; simpa using hrr
               subst hb
               subst hrr
               rw [wpPh_end_eq]
               simp only [pick, List.map_cons, List.map_nil, List.getD_cons_zero, List.getD_cons_succ]
               repeat go_big_quiet_step (fail)
               rw [wpQuiet_nil_eq]
               go_wp2
               go_roundw
               case rel => exact ⟨j + 1, by omega, by go_num, HSZ.out⟩
               case measure => simp [intOf] <;> omega
              ·have hb : bj = false := by rw [HFJ2.out]; simpa using hrr
               subst hb
               rw [wpPh_end_eq]
               simp only [pick, List.map_cons, List.map_nil, List.getD_cons_zero, List.getD_cons_succ]
               repeat go_big_quiet_step (fail)
               rw [wpQuiet_nil_eq]
               go_wp2
               go_roundw
               case rel => exact ⟨j + 1, by omega, by go_num, HSZ.out⟩
               case measure => simp [intOf] <;> omega
            ·obtain rfl : j = k := by omega
             have hI5 : ¬ (j : Int) < (j : Int) := by omega
             obtain ⟨hpl, hml, c0, c1, c2, c3, c4, m0, m2, m3, m4⟩ := HC.out _ HSJ.out
             go_wp2
             go_roundw
             case rel => exact ⟨j + 1, by omega, by go_num, HSJ.out⟩
             case measure => simp [intOf] <;> omega
        ·obtain rfl : k = p.ts.length := by omega
         have hI4 : ¬ ((p.ts.length : Nat) : Int) < (p.ts.length : Int) := by omega
         go_wp2
         go_ret
         obtain ⟨q9, h9⟩ := HFIN.out
         exact ⟨rfl, ⟨q9, h9.same HSK4.out⟩, HUF.out.trans (Up.ofSame HSK4.out)⟩
end
end Go.Proofs.YtiomgckodmecbaaGreat


/- The law's play: the four calls of awake. -/
namespace Go.Proofs.YtiomgckodmecbaaGreat
open Go.RowKit Go.Tk
set_option maxRecDepth 100000
theorem ki_st0 : KI st0.k := ki_new (n := 2) (c := 5) (by decide) (by decide) (by decide) (by decide)
theorem st1_k : st1.k = (makeK st0.k (mkNd st0 1 0 1)).2.2 := by
 unfold st1 countP makeP
 split <;> rfl
theorem st2_k : st2.k = (makeK st1.k (mkNd st1 0 0 2)).2.2 := by
 unfold st2 countP makeP
 split <;> rfl
theorem ki_st1 : KI st1.k := by
 rw [st1_k]
 exact ki_make ki_st0 (by decide +kernel) (by decide +kernel)
theorem ki_st2 : KI st2.k := by
 rw [st2_k]
 exact ki_make ki_st1 (by decide +kernel) (by decide +kernel)
theorem ki_st3 : KI st3.k := ki_drop ki_st2 (by decide +kernel)
/-- what a play needs for its calls, beside KI -/
structure PC (p : PS) : Prop where
 ord : OrdOk p.m
 hc : HcOk p.m
 hh : p.m.held.length < 1500000
 hd : p.dead.length = p.ts.length
 hr : p.refs.length = p.ts.length
 hll : p.live.length ≤ 2097152000000
 hrg : ∀ x ∈ p.refs, 0 ≤ x ∧ x < 4294967296
 htl : p.ts.length ≤ 4000000000000
 hon : p.m.ord.length = p.m.n
 htm : p.m.tr.length < 10000000000000
theorem pc_st0 : PC st0 := ⟨by unfold OrdOk; decide +kernel, by unfold HcOk; decide +kernel, by decide +kernel, by decide +kernel, by decide +kernel, by decide +kernel, by decide +kernel, by decide +kernel, by decide +kernel, by decide +kernel⟩
theorem pc_st1 : PC st1 := ⟨by unfold OrdOk; decide +kernel, by unfold HcOk; decide +kernel, by decide +kernel, by decide +kernel, by decide +kernel, by decide +kernel, by decide +kernel, by decide +kernel, by decide +kernel, by decide +kernel⟩
theorem pc_st2 : PC st2 := ⟨by unfold OrdOk; decide +kernel, by unfold HcOk; decide +kernel, by decide +kernel, by decide +kernel, by decide +kernel, by decide +kernel, by decide +kernel, by decide +kernel, by decide +kernel, by decide +kernel⟩
theorem pc_st3 : PC st3 := ⟨by unfold OrdOk; decide +kernel, by unfold HcOk; decide +kernel, by decide +kernel, by decide +kernel, by decide +kernel, by decide +kernel, by decide +kernel, by decide +kernel, by decide +kernel, by decide +kernel⟩
/-- the calls, and what stands ahead of each -/
def opsA : List (Int × Int × Int × Int) := [(1, 1, 0, 1), (1, 0, 0, 2), (3, 2, 0, 0), (4, 0, 0, 0)]
def opc (o : Int × Int × Int × Int) : List Value := [.int .i64 o.1, .int .i64 o.2.1, .int .i64 o.2.2.1, .int .i64 o.2.2.2]
theorem opc_len (o : Int × Int × Int × Int) : (opc o).length = 4 := rfl
def preA : Nat → PS
 | 0 => beginP 2 5
 | 1 => makeP st0 1 0 1
 | 2 => makeP st1 0 0 2
 | 3 => dropP st2 2
 | _ => exchP st3 0
theorem ord_pre (k : Nat) : OrdOk (preA k).m := by
 match k with
 | 0 => unfold OrdOk; decide +kernel
 | 1 => unfold OrdOk; decide +kernel
 | 2 => unfold OrdOk; decide +kernel
 | 3 => unfold OrdOk; decide +kernel
 | _ + 4 => unfold OrdOk; show ∀ v ∈ (exchP st3 0).m.ord, 0 ≤ v ∧ v < (exchP st3 0).m.n; decide +kernel
section
variable {w w' : World} {B : Nat → Prop} {pp : Nat} {q : PA}
abbrev DoesTo (B : Nat → Prop) (w : World) (pp : Nat) (p' : PS) (e : Ending) (w' : World) : Prop := e = .returned (.bool true) ∧ (∃ q', PW B w' pp p' q') ∧ Up B w w'
theorem step0 (hP : PW B w pp st0 q) (hB : ∀ b, B b → b < w.heap.size) :
  Calls Tryz.prog 31 #[.pointer (some ⟨pp, 0, none⟩), .agg #[.int .i64 1, .int .i64 1, .int .i64 0, .int .i64 1]] w (DoesTo B w pp (makeP st0 1 0 1)) := by
 refine (does_make pp 1 0 1 (fun w' _ w'' => (∃ q', PW B w'' pp (makeP st0 1 0 1) q') ∧ Up B w' w'') (fun w' hs => ?_)).mono ?_
 ·exact make_law (hP.same hs) (fun b hb => Nat.lt_of_lt_of_le (hB b hb) hs.size) ki_st0 pc_st0.ord pc_st0.hc pc_st0.hh pc_st0.hd pc_st0.hr pc_st0.hll pc_st0.hrg pc_st0.htl 1 1 0 1 run_l0.1 run_l0.2 run_a1 (fun h => absurd run_n1.2.2 h) run_n1.1 run_n1.2.1
 ·rintro e w'' ⟨rfl, w', hs, hq, hu⟩
  exact ⟨rfl, hq, (Up.ofSame hs).trans hu⟩
theorem step1 (hP : PW B w pp st1 q) (hB : ∀ b, B b → b < w.heap.size) :
  Calls Tryz.prog 31 #[.pointer (some ⟨pp, 0, none⟩), .agg #[.int .i64 1, .int .i64 0, .int .i64 0, .int .i64 2]] w (DoesTo B w pp (makeP st1 0 0 2)) := by
 refine (does_make pp 0 0 2 (fun w' _ w'' => (∃ q', PW B w'' pp (makeP st1 0 0 2) q') ∧ Up B w' w'') (fun w' hs => ?_)).mono ?_
 ·exact make_law (hP.same hs) (fun b hb => Nat.lt_of_lt_of_le (hB b hb) hs.size) ki_st1 pc_st1.ord pc_st1.hc pc_st1.hh pc_st1.hd pc_st1.hr pc_st1.hll pc_st1.hrg pc_st1.htl 1 0 0 2 run_l1.1 run_l1.2 run_a2 (fun h => absurd run_n2.2.2 h) run_n2.1 run_n2.2.1
 ·rintro e w'' ⟨rfl, w', hs, hq, hu⟩
  exact ⟨rfl, hq, (Up.ofSame hs).trans hu⟩
theorem step2 (hP : PW B w pp st2 q) (hB : ∀ b, B b → b < w.heap.size) :
  Calls Tryz.prog 31 #[.pointer (some ⟨pp, 0, none⟩), .agg #[.int .i64 3, .int .i64 2, .int .i64 0, .int .i64 0]] w (DoesTo B w pp (dropP st2 2)) :=
 does_drop hP hB ki_st2.bk pc_st2.hc pc_st2.hd pc_st2.hr pc_st2.hll pc_st2.hrg 2 0 0 run_l2 run_a3 run_n3.1 run_n3.2
theorem step3 (hP : PW B w pp st3 q) (hB : ∀ b, B b → b < w.heap.size) :
  Calls Tryz.prog 31 #[.pointer (some ⟨pp, 0, none⟩), .agg #[.int .i64 4, .int .i64 0, .int .i64 0, .int .i64 0]] w (DoesTo B w pp (exchP st3 0)) := by
 refine does_exch hP hB 0 0 0 (by decide +kernel) (fun _ h1 => ?_) (by decide +kernel) pc_st3.ord pc_st3.hon pc_st3.htm run_a4 run_n4.1 run_n4.2
 obtain ⟨x, y, h⟩ := xy_of (l := (0 : Int).toNat) ki_st3 (by decide +kernel)
 exact ⟨x, y, turn_ok h ki_st3⟩
theorem step_law (k : Nat) (o : Int × Int × Int × Int) (ho : opsA[k]? = some o) (hP : PW B w pp (countP (preA k)) q) (hB : ∀ b, B b → b < w.heap.size) :
  Calls Tryz.prog 31 #[.pointer (some ⟨pp, 0, none⟩), .agg #[.int .i64 o.1, .int .i64 o.2.1, .int .i64 o.2.2.1, .int .i64 o.2.2.2]] w (DoesTo B w pp (preA (k + 1))) := by
 match k with
 | 0 => injection ho with ho; subst ho; exact step0 hP hB
 | 1 => injection ho with ho; subst ho; exact step1 hP hB
 | 2 => injection ho with ho; subst ho; exact step2 hP hB
 | 3 => injection ho with ho; subst ho; exact step3 hP hB
 | _ + 4 => cases ho
end
theorem run_look5 : lookB (exchP st3 0) = true := by decide +kernel
end Go.Proofs.YtiomgckodmecbaaGreat


/- The law's play: awake. -/
namespace Go.Proofs.YtiomgckodmecbaaGreat
open Go.RowKit Go.Tk
section
variable {w w' : World} {B : Nat → Prop} {pp : Nat} {p : PS} {q : PA}
theorem Up.kept {g : Nat} {ty : TypeId} {cs : Array Value} (h : Up B w w') (hb : Blk w g ty cs) (hg : B g) : Blk w' g ty cs := hb.frm h (fun hn => hn hg)
set_option maxRecDepth 100000
theorem ki_st5 : KI (exchP st3 0).k := ki_exch ki_st3 0
theorem pc_st5 : PC (exchP st3 0) := ⟨by unfold OrdOk; decide +kernel, by unfold HcOk; decide +kernel, by decide +kernel, by decide +kernel, by decide +kernel, by decide +kernel, by decide +kernel, by decide +kernel, by decide +kernel, by decide +kernel⟩
theorem st5_len : (exchP st3 0).refs.length = 4 := by decide +kernel
theorem st5_tr : (exchP st3 0).k.tr.length = 1 := by decide +kernel
theorem st5_ac : (exchP st3 0).k.ac = 4 := by decide +kernel
theorem st5_ord : (exchP st3 0).k.ord.length ≤ 64 := by decide +kernel
set_option maxRecDepth 100000 in
set_option maxHeartbeats 8000000 in
theorem awake9_law (w : World) : Calls Tryz.prog 12 #[] w fun e w' => e = .returned (.bool true) ∧ Same w w' := by
 have hbg := begin_law 2 5 (by decide) (by decide) (by decide) (by decide) w
 have HBG := Lib.hid hbg
 clear hbg
 go_enter Tryz.func12, Tryz.ntmps12
 go_wp2_with (fail)
 refine HBG.out.mono ?_
 rintro e w1 ⟨pp, q1, rfl, hP1, hs1⟩
 have HP1 := Lib.hid hP1
 have HS1 := Lib.hid hs1
 clear hP1 hs1
 go_wp2_with (fail)
 refine wp_world fun w2 hw2 => ?_
 have hSB := Blk.new w1 60 #[.int .i64 1, .int .i64 1, .int .i64 0, .int .i64 1, .int .i64 1, .int .i64 0, .int .i64 0, .int .i64 2, .int .i64 3, .int .i64 2, .int .i64 0, .int .i64 0, .int .i64 4, .int .i64 0, .int .i64 0, .int .i64 0]
 have hs2 : Same w1 w2 := by rw [hw2]; exact (Frm.refl _ _).alloc _
 rw [← hw2] at hSB
 clear hw2
 have hP2 : PW (fun b => b < w.heap.size ∨ b = w1.heap.size) w2 pp (beginP 2 5) q1 := (HP1.out.same hs2).keepB (fun b hb hn => by
  rcases hn with hn | hn
  ·exact HP1.out.base b hb hn
  ·have := HP1.out.all_lt b hb
   omega)
 have hW1 := HS1.out.size
 obtain ⟨SB, hSBe⟩ : ∃ z, w1.heap.size = z := ⟨_, rfl⟩
 rw [hSBe] at hSB hP2 ⊢
 have hS12 : Same w w2 := HS1.out.trans hs2 (fun _ _ h => h)
 have hB2 : ∀ b, (b < w.heap.size ∨ b = SB) → b < w2.heap.size := fun b hb => by
  have := hSB.lt
  have := hs2.size
  omega
 have HSB := Lib.hid hSB
 have HP2 := Lib.hid hP2
 have HS12 := Lib.hid hS12
 have HB2 := Lib.hid hB2
 clear hSB hP2 hS12 hB2 hs2 hSBe hW1
 go_loopw [17] (fun i wr => ∃ k : Nat, k ≤ 4 ∧ i = .int .i64 k ∧ (∃ q', PW (fun b => b < w.heap.size ∨ b = SB) wr pp (preA k) q') ∧ Up (fun b => b < w.heap.size ∨ b = SB) w2 wr) (fun i _ => 4 - (intOf i).toNat)
 case atStart => exact ⟨0, by omega, rfl, ⟨q1, HP2.out⟩, Frm.refl _ _⟩
 case round =>
  obtain ⟨k, hk, rfl, ⟨q', hPr⟩, hU⟩ := hrel
  have hSBr := hU.kept HSB.out (.inr rfl)
  have hBr : ∀ b, (b < w.heap.size ∨ b = SB) → b < wr.heap.size := fun b hb => Nat.lt_of_lt_of_le (HB2.out b hb) hU.size
  by_cases hlt : k < 4
  ·have hI : (k : Int) < 4 := by omega
   obtain ⟨o, ho⟩ : ∃ o, opsA[k]? = some o := ⟨_, List.getElem?_eq_getElem (by exact hlt)⟩
   have hrow : Go.Tk.Own wr 60 4 opc (some ⟨SB, 0, none⟩) opsA.length opsA.length opsA := Own.ofBlk opc_len hSBr opsA (by decide) rfl
   obtain ⟨b', hb', hbl, hc⟩ := hrow.get opc_len ho
   injection hb' with hb'
   injection hb' with hb'
   subst hb'
   have c0 : wr.cell? ⟨SB, k * 4, none⟩ = some (.int .i64 o.1) := hc 0 (by omega)
   have c1 : wr.cell? ⟨SB, k * 4 + 1, none⟩ = some (.int .i64 o.2.1) := hc 1 (by omega)
   have c2 : wr.cell? ⟨SB, k * 4 + 2, none⟩ = some (.int .i64 o.2.2.1) := hc 2 (by omega)
   have c3 : wr.cell? ⟨SB, k * 4 + 3, none⟩ = some (.int .i64 o.2.2.2) := hc 3 (by omega)
   have HO := Lib.hid ho
   have HPR := Lib.hid hPr
   have HU := Lib.hid hU
   have HBR := Lib.hid hBr
   clear ho hPr hU hBr hrow hSBr hc
   go_upto_region 7 with fail
   refine wp_world fun w3 hw3 => ?_
   have hT := Blk.new wr 60 #[.int .i64 o.1, .int .i64 o.2.1, .int .i64 o.2.2.1, .int .i64 o.2.2.2]
   have hs3 : Same wr w3 := by rw [hw3]; exact (Frm.refl _ _).alloc _
   rw [← hw3] at hT
   clear hw3
   have hP3 : PW (fun b => (b < w.heap.size ∨ b = SB) ∨ b = wr.heap.size) w3 pp (preA k) q' := (HPR.out.same hs3).keepB (fun b hb hn => by
    rcases hn with hn | hn
    ·exact HPR.out.base b hb hn
    ·have := HPR.out.all_lt b hb
     omega)
   have hB3 : ∀ b, ((b < w.heap.size ∨ b = SB) ∨ b = wr.heap.size) → b < w3.heap.size := fun b hb => by
    have := hT.lt
    have := hs3.size
    rcases hb with hb | hb
    ·have := HBR.out b hb
     omega
    ·omega
   have hU3 : Up (fun b => b < w.heap.size ∨ b = SB) w2 w3 := HU.out.trans (Up.ofSame hs3)
   have hcl := count_law hP3 (ord_pre k) hB3
   have HCL := Lib.hid hcl
   have HB3 := Lib.hid hB3
   have HT := Lib.hid hT
   have HU3 := Lib.hid hU3
   clear hT hs3 hP3 hB3 hU3 hcl c0 c1 c2 c3 hbl HPR HU HBR
   go_wp2_with (fail)
   refine HCL.out.mono ?_
   rintro e w4 ⟨rfl, ⟨q4, hP4⟩, hU4⟩
   have hT4 := hU4.kept HT.out (.inr rfl)
   have hB4 : ∀ b, ((b < w.heap.size ∨ b = SB) ∨ b = wr.heap.size) → b < w4.heap.size := fun b hb => Nat.lt_of_lt_of_le (HB3.out b hb) hU4.size
   have hst := step_law k o HO.out hP4 hB4
   have HST := Lib.hid hst
   have hU24 : Up (fun b => b < w.heap.size ∨ b = SB) w2 w4 := HU3.out.trans (Frm.mono hU4 (fun b _ hn hb => hn (.inl hb)))
   have HU4 := Lib.hid hU24
   have t0 := hT4.cell 0
   have t1 := hT4.cell 1
   have t2 := hT4.cell 2
   have t3 := hT4.cell 3
   have tl := hT4.lt
   simp at t0 t1 t2 t3
   clear hP4 hU4 hT4 hB4 hst hU24
   go_wp2_with (fail)
   refine HST.out.mono ?_
   rintro e w5 ⟨rfl, ⟨q5, hP5⟩, hU5⟩
   have HP5 := Lib.hid (hP5.keepB (B' := fun b => b < w.heap.size ∨ b = SB) (fun b hb hn => hP5.base b hb (.inl hn)))
   have HU5 := Lib.hid (show Up (fun b => b < w.heap.size ∨ b = SB) w2 w5 from HU4.out.trans (Frm.mono hU5 (fun b _ hn hb => hn (.inl hb))))
   clear hP5 hU5 t0 t1 t2 t3 tl
   go_wp2
   go_roundw
   case rel => exact ⟨k + 1, by omega, by go_num, ⟨q5, HP5.out⟩, HU5.out⟩
   case measure => simp [intOf] <;> omega
  ·obtain rfl : k = 4 := by omega
   have hP5 : PW (fun b => b < w.heap.size ∨ b = SB) wr pp (exchP st3 0) q' := hPr
   have hlk := looks_law hP5 hBr ki_st5 (rng_ki ki_st5) pc_st5.ord pc_st5.hd pc_st5.hr pc_st5.hrg pc_st5.htl st5_ord (by rw [st5_ac] <;> decide) (look_facts run_look5)
   have HLK := Lib.hid hlk
   have c2 := hP5.c2
   rw [st5_len] at c2
   have hpl := hP5.blk.lt
   have HU := Lib.hid hU
   clear hPr hP5 hlk hBr hSBr hU
   go_wp2_with (fail)
   refine HLK.out.mono ?_
   rintro e w6 ⟨rfl, ⟨q6, hP6⟩, hU6⟩
   clear c2 hpl
   have hlv : Calls Tryz.prog 18 #[.pointer (some ⟨q6.kp, 0, none⟩)] w6 fun e w'' => e = .returned (.int .i64 2) ∧ w6 = w'' := by
    have h := klive2_any hP6.k (by rw [show (lookP (exchP st3 0)).k.ac = 4 from st5_ac] <;> decide)
    rw [show (((lookP (exchP st3 0)).k.ac : Nat) : Int) - 2 = 2 from by rw [show (lookP (exchP st3 0)).k.ac = 4 from st5_ac]; rfl] at h
    exact h
   have htr : Calls Tryz.prog 35 #[.pointer (some ⟨q6.kp, 0, none⟩)] w6 fun e w'' => e = .returned (.int .i64 1) ∧ w6 = w'' := by
    have h := ktrail_any hP6.k
    rw [show (lookP (exchP st3 0)).k.tr.length = 1 from st5_tr] at h
    exact h
   have hpl := hP6.blk.lt
   have c0 := hP6.c0
   have HLV := Lib.hid hlv
   have HTR := Lib.hid htr
   have hfin : Same w w6 := by
    have h1 := HU.out.trans hU6
    exact HS12.out.trans (Frm.mono h1 (fun b _ h => h)) (fun b hb hn => hn (.inl hb))
   have HFIN := Lib.hid hfin
   clear hlv htr hP6 hU6 hfin
   go_wp2_with (fail)
   refine HLV.out.mono ?_
   rintro e w7 ⟨rfl, rfl⟩
   go_wp2_with (fail)
   refine HTR.out.mono ?_
   rintro e w7 ⟨rfl, rfl⟩
   go_wp2
   go_ret
   exact ⟨rfl, HFIN.out⟩
end
end Go.Proofs.YtiomgckodmecbaaGreat


/- A kernel beside blocks that stay as they are: each call, in one form. -/
namespace Go.Proofs.YtiomgckodmecbaaGreat
open Go.RowKit Go.Tk
theorem holdK_st (k : KS) (r : Int) : (holdK k r).n = k.n ∧ (holdK k r).c = k.c := by
 unfold holdK
 split
 ·exact ⟨useK_n k r, congrArg (fun t => t.2.1) (useK_kst k r)⟩
 ·exact ⟨rfl, rfl⟩
theorem keepK_st (k : KS) (r : Int) : (keepK k r).2.n = k.n ∧ (keepK k r).2.c = k.c := by
 unfold keepK
 split
 ·exact ⟨rfl, rfl⟩
 ·split
  ·split
   ·exact ⟨rfl, rfl⟩
   ·exact holdK_st k r
  ·exact ⟨rfl, rfl⟩
theorem relK_st (k : KS) (r : Int) : (relK k r).n = k.n ∧ (relK k r).c = k.c := ⟨relF_n _ k _, congrArg (fun t => t.2.1) (relF_kst _ k _)⟩
theorem unholdK_st (k : KS) (r : Int) : (unholdK k r).n = k.n ∧ (unholdK k r).c = k.c := by
 unfold unholdK
 split
 ·exact relK_st _ r
 ·exact ⟨rfl, rfl⟩
theorem dropK_st (k : KS) (r : Int) : (dropK k r).2.n = k.n ∧ (dropK k r).2.c = k.c := by
 unfold dropK
 split
 ·split
  ·exact ⟨rfl, rfl⟩
  ·exact unholdK_st k r
 ·exact ⟨rfl, rfl⟩
theorem keptK_st (k : KS) (r : Int) : (keptK k r).2.2.n = k.n ∧ (keptK k r).2.2.c = k.c := by
 unfold keptK
 split
 ·exact keepK_st k r
 ·exact keepK_st k r
theorem makeL_st (k : KS) (n : Nd) (o : Option Int) : (makeL k n o).2.2.n = k.n ∧ (makeL k n o).2.2.c = k.c := by
 cases o with
 | some r => exact keptK_st k r
 | none =>
  show (if k.ac + 1 ≤ k.c then keptK (takeK k n) (takeR k) else (0, 9, k)).2.2.n = k.n ∧ (if k.ac + 1 ≤ k.c then keptK (takeK k n) (takeR k) else (0, 9, k)).2.2.c = k.c
  by_cases hc : k.ac + 1 ≤ k.c
  ·rw [if_pos hc]
   have h := keptK_st (takeK k n) (takeR k)
   exact ⟨h.1.trans (takeK_n k n), h.2.trans (congrArg (fun t => t.2.1) (takeK_kst k n))⟩
  ·rw [if_neg hc]
   exact ⟨rfl, rfl⟩
theorem makeK_st (k : KS) (n : Nd) : (makeK k n).2.2.n = k.n ∧ (makeK k n).2.2.c = k.c := by
 unfold makeK
 split
 ·exact makeL_st k n _
 ·exact ⟨rfl, rfl⟩
/-- a kernel at rest, whose blocks are none of B -/
structure KR (B : Nat → Prop) (w : World) (kp : Nat) (k : KS) : Prop where
 ex : ∃ a, KW w kp k a ∧ ∀ b, KFp k.n kp a b → ¬ B b
 ki : KI k
section
variable {w w' : World} {B B' : Nat → Prop} {kp : Nat} {k : KS}
theorem KR.same (h : KR B w kp k) (hs : Same w w') : KR B w' kp k := by
 obtain ⟨a, h1, h2⟩ := h.ex
 exact ⟨⟨a, h1.same hs, h2⟩, h.ki⟩
/-- what is kept may turn -/
theorem KR.frm (h : KR B w kp k) {S : Nat → Prop} (hf : Frm S w w') (hS : ∀ b, S b → B b) : KR B w' kp k := by
 obtain ⟨a, h1, h2⟩ := h.ex
 exact ⟨⟨a, h1.frm hf (fun b hb hn => h2 b hb (hS b hn)), h2⟩, h.ki⟩
theorem KR.go {a a' : KA} {k' : KS} (h2 : ∀ b, KFp k.n kp a b → ¬ B b) (hk : KW w' kp k' a') (hg : KGo k.n kp w a w' a') (hn : k'.n = k.n) (K : KI k') (hB : ∀ b, B b → b < w.heap.size) : KR B w' kp k' ∧ Up B w w' := by
 refine ⟨⟨⟨a', hk, fun b hb hn' => ?_⟩, K⟩, hg.frm.mono (fun b _ hb => h2 b hb)⟩
 rw [hn] at hb
 rcases hg.fp b hb with h1 | h1
 ·exact h2 b h1 hn'
 ·have := hB b hn'
  omega
theorem kr_make (h : KR B w kp k) (hB : ∀ b, B b → b < w.heap.size) (n : Nd) (l0 : 0 ≤ n.lo) (l1 : n.lo < 4294967296) (h0 : 0 ≤ n.hi) (h1 : n.hi < 4294967296) :
  Calls Tryz.prog 14 #[.pointer (some ⟨kp, 0, none⟩), .int .i64 n.v, .int .u32 n.lo, .int .u32 n.hi] w fun e w' => e = .returned (.tuple #[.int .u32 (makeK k n).1, .int .i64 (makeK k n).2.1]) ∧ KR B w' kp (makeK k n).2.2 ∧ Up B w w' := by
 obtain ⟨a, k1, k2⟩ := h.ex
 refine (kmake_any k1 h.ki.bk h.ki.lv n l0 l1 h0 h1).mono ?_
 rintro e w' ⟨he, a', hk, hg⟩
 exact ⟨he, KR.go k2 hk hg (makeK_st k n).1 (ki_make h.ki l0 h0) hB⟩
theorem kr_find (h : KR B w kp k) (n : Nd) (l0 : 0 ≤ n.lo) (l1 : n.lo < 4294967296) (h0 : 0 ≤ n.hi) (h1 : n.hi < 4294967296) :
  Calls Tryz.prog 16 #[.pointer (some ⟨kp, 0, none⟩), .int .i64 n.v, .int .u32 n.lo, .int .u32 n.hi] w fun e w' => e = .returned (.tuple #[.int .u32 ((findK k n).getD 0), .bool (findK k n).isSome]) ∧ Same w w' := by
 obtain ⟨a, k1, k2⟩ := h.ex
 exact kfind_any k1 h.ki.bk h.ki.lv n l0 l1 h0 h1
theorem kr_keep (h : KR B w kp k) (hB : ∀ b, B b → b < w.heap.size) (r : Int) (h0 : 0 ≤ r) (h1 : r < 4294967296) :
  Calls Tryz.prog 15 #[.pointer (some ⟨kp, 0, none⟩), .int .u32 r] w fun e w' => e = .returned (.int .i64 (keepK k r).1) ∧ KR B w' kp (keepK k r).2 ∧ Up B w w' := by
 obtain ⟨a, k1, k2⟩ := h.ex
 refine (kkeep_any k1 h.ki.bk r h0 h1).mono ?_
 rintro e w' ⟨he, a', hk, hg⟩
 exact ⟨he, KR.go k2 hk hg (keepK_st k r).1 (ki_keep h.ki h0) hB⟩
theorem kr_drop (h : KR B w kp k) (hB : ∀ b, B b → b < w.heap.size) (r : Int) (h0 : 0 ≤ r) (h1 : r < 4294967296) :
  Calls Tryz.prog 19 #[.pointer (some ⟨kp, 0, none⟩), .int .u32 r] w fun e w' => e = .returned (.int .i64 (dropK k r).1) ∧ KR B w' kp (dropK k r).2 ∧ Up B w w' := by
 obtain ⟨a, k1, k2⟩ := h.ex
 refine (kdrop_any k1 h.ki.bk r h0 h1).mono ?_
 rintro e w' ⟨he, a', hk, hg⟩
 exact ⟨he, KR.go k2 hk hg (dropK_st k r).1 (ki_drop h.ki h0) hB⟩
theorem kr_node (h : KR B w kp k) (r : Int) (h0 : 0 ≤ r) (h1 : r < 4294967296) :
  Calls Tryz.prog 20 #[.pointer (some ⟨kp, 0, none⟩), .int .u32 r] w fun e w' => e = .returned (.tuple #[(getN k.ls r).val, .int .i64 (getE k.ls r)]) ∧ Same w w' := by
 obtain ⟨a, k1, k2⟩ := h.ex
 exact knodeq_any k1 r h0 h1
theorem kr_held (h : KR B w kp k) (r : Int) (h0 : 0 ≤ r) (h1 : r < 4294967296) :
  Calls Tryz.prog 17 #[.pointer (some ⟨kp, 0, none⟩), .int .u32 r] w fun e w' => e = .returned (.int .i64 (k.hs.getD r.toNat 0)) ∧ w = w' := by
 obtain ⟨a, k1, k2⟩ := h.ex
 exact kheld_any k1 r h0 h1 (fun x hx => ⟨(h.ki.bk.hol _ x hx).1, (h.ki.bk.hol _ x hx).2.1⟩)
theorem KI.acl (K : KI k) : k.ac ≤ 1048576 := by
 have h1 := K.bk.cntl
 have h2 := K.bk.lim
 have h3 := K.bk.cM
 omega
theorem kr_live (h : KR B w kp k) : Calls Tryz.prog 18 #[.pointer (some ⟨kp, 0, none⟩)] w fun e w' => e = .returned (.int .i64 ((k.ac : Int) - 2)) ∧ w = w' := by
 obtain ⟨a, k1, k2⟩ := h.ex
 exact klive2_any k1 (by have := h.ki.acl; omega)
theorem kr_new (n c : Nat) (h1 : 1 ≤ n) (h2 : n ≤ 64) (h3 : 2 ≤ c) (h4 : c ≤ 1048576) (w : World) : Calls Tryz.prog 13 #[.int .i64 n, .int .i64 c] w fun e w' => ∃ kp, e = .returned (.tuple #[.pointer (some ⟨kp, 0, none⟩), .int .i64 0]) ∧ KR (fun b => b < w.heap.size) w' kp (newK n c) ∧ Same w w' := by
 refine (knew_any n c h1 h2 h3 h4).mono ?_
 rintro e w' ⟨kp, a, he, hk, hs, hf⟩
 exact ⟨kp, he, ⟨⟨a, hk, fun b hb hn => by have := hf b hb; omega⟩, ki_new h1 h2 h3 h4⟩, hs⟩
end
end Go.Proofs.YtiomgckodmecbaaGreat


/- A kernel beside blocks that stay as they are: each call, where what it answers is known. -/
namespace Go.Proofs.YtiomgckodmecbaaGreat
open Go.RowKit Go.Tk
section
variable {w w' : World} {B : Nat → Prop} {kp : Nat} {k k' : KS} {r E : Int}
theorem kr_makeE (h : KR B w kp k) (hB : ∀ b, B b → b < w.heap.size) (v lo hi : Int) (l0 : 0 ≤ lo) (l1 : lo < 4294967296) (h0 : 0 ≤ hi) (h1 : hi < 4294967296) (e : makeK k ⟨v, lo, hi⟩ = (r, E, k')) :
  Calls Tryz.prog 14 #[.pointer (some ⟨kp, 0, none⟩), .int .i64 v, .int .u32 lo, .int .u32 hi] w fun e w' => e = .returned (.tuple #[.int .u32 r, .int .i64 E]) ∧ KR B w' kp k' ∧ Up B w w' := by
 have h := kr_make h hB ⟨v, lo, hi⟩ l0 l1 h0 h1
 rw [e] at h
 exact h
theorem kr_findE (h : KR B w kp k) (v lo hi : Int) (l0 : 0 ≤ lo) (l1 : lo < 4294967296) (h0 : 0 ≤ hi) (h1 : hi < 4294967296) (e : findK k ⟨v, lo, hi⟩ = some r) :
  Calls Tryz.prog 16 #[.pointer (some ⟨kp, 0, none⟩), .int .i64 v, .int .u32 lo, .int .u32 hi] w fun e w' => e = .returned (.tuple #[.int .u32 r, .bool true]) ∧ Same w w' := by
 have h := kr_find h ⟨v, lo, hi⟩ l0 l1 h0 h1
 rw [e] at h
 exact h
theorem kr_keepE (h : KR B w kp k) (hB : ∀ b, B b → b < w.heap.size) (r : Int) (h0 : 0 ≤ r) (h1 : r < 4294967296) (e : keepK k r = (E, k')) :
  Calls Tryz.prog 15 #[.pointer (some ⟨kp, 0, none⟩), .int .u32 r] w fun e w' => e = .returned (.int .i64 E) ∧ KR B w' kp k' ∧ Up B w w' := by
 have h := kr_keep h hB r h0 h1
 rw [e] at h
 exact h
theorem kr_dropE (h : KR B w kp k) (hB : ∀ b, B b → b < w.heap.size) (r : Int) (h0 : 0 ≤ r) (h1 : r < 4294967296) (e : dropK k r = (E, k')) :
  Calls Tryz.prog 19 #[.pointer (some ⟨kp, 0, none⟩), .int .u32 r] w fun e w' => e = .returned (.int .i64 E) ∧ KR B w' kp k' ∧ Up B w w' := by
 have h := kr_drop h hB r h0 h1
 rw [e] at h
 exact h
theorem kr_nodeE (h : KR B w kp k) (r : Int) (h0 : 0 ≤ r) (h1 : r < 4294967296) {n : Nd} (e : getN k.ls r = n) (e2 : getE k.ls r = E) :
  Calls Tryz.prog 20 #[.pointer (some ⟨kp, 0, none⟩), .int .u32 r] w fun e w' => e = .returned (.tuple #[.agg #[.int .i64 n.v, .int .u32 n.lo, .int .u32 n.hi], .int .i64 E]) ∧ Same w w' := by
 have h := kr_node h r h0 h1
 rw [e, e2] at h
 exact h
theorem kr_heldE (h : KR B w kp k) (r c : Int) (h0 : 0 ≤ r) (h1 : r < 4294967296) (e : k.hs.getD r.toNat 0 = c) :
  Calls Tryz.prog 17 #[.pointer (some ⟨kp, 0, none⟩), .int .u32 r] w fun e w' => e = .returned (.int .i64 c) ∧ w = w' := by
 have h := kr_held h r h0 h1
 rw [e] at h
 exact h
theorem kr_liveE (h : KR B w kp k) (c : Int) (e : (k.ac : Int) - 2 = c) : Calls Tryz.prog 18 #[.pointer (some ⟨kp, 0, none⟩)] w fun e w' => e = .returned (.int .i64 c) ∧ w = w' := by
 have h := kr_live h
 rw [e] at h
 exact h
end
end Go.Proofs.YtiomgckodmecbaaGreat


/- KernelHolds walked (printed by gen/knholds.py). -/
namespace Go.Proofs.YtiomgckodmecbaaGreat
open Go.RowKit Go.Tk
def hdA (i : Int) : KS := ⟨2, 10, 3, [cpl 0, cpl 1, ⟨⟨1, 0, 1⟩, true, 0⟩], [], [(⟨1, 0, 1⟩, 2)], [0, 0, 1], [0, 0, i], [0, 1], [0, 1], []⟩
def hdB (i : Int) : KS := ⟨2, 10, 4, [cpl 0, cpl 1, ⟨⟨1, 0, 1⟩, true, 0⟩, ⟨⟨0, 0, 2⟩, true, 0⟩], [], [(⟨1, 0, 1⟩, 2), (⟨0, 0, 2⟩, 3)], [0, 0, 2, 1], [0, 0, i, 1], [0, 1], [0, 1], []⟩
def hdC : KS := ⟨2, 10, 4, [cpl 0, cpl 1, ⟨⟨1, 0, 1⟩, true, 0⟩, ⟨⟨0, 0, 2⟩, true, 0⟩], [], [(⟨1, 0, 1⟩, 2), (⟨0, 0, 2⟩, 3)], [0, 0, 1, 1], [0, 0, 0, 1], [0, 1], [0, 1], []⟩
def hdD : KS := ⟨2, 10, 2, [cpl 0, cpl 1, ⟨⟨0, 0, 0⟩, false, 0⟩, ⟨⟨0, 0, 0⟩, false, 0⟩], [3, 2], [], [0, 0, 0, 0], [0, 0, 0, 0], [0, 1], [0, 1], []⟩
set_option maxRecDepth 100000
theorem hd_make : makeK (newK 2 10) ⟨1, 0, 1⟩ = (2, 0, hdA 1) := by kernel_rfl
theorem hd_keep (i : Int) (h0 : i ≠ 0) (h1 : i ≠ 65535) : keepK (hdA i) 2 = (0, hdA (i + 1)) := by
 have e : (hdA i).hs.getD (2 : Int).toNat 0 = i := rfl
 have t : tk (hdA i).ls 2 = true := rfl
 unfold keepK holdK
 rw [e, t, if_neg (by decide), if_pos (by decide), if_neg h1, if_neg h0]
 rfl
theorem hd_make2 : makeK (hdA 65535) ⟨1, 0, 1⟩ = (0, 8, hdA 65535) := by kernel_rfl
theorem hd_make3 : makeK (hdA 65535) ⟨0, 2, 2⟩ = (0, 8, hdA 65535) := by kernel_rfl
theorem hd_find : findK (hdA 65535) ⟨1, 0, 1⟩ = some 2 := by kernel_rfl
theorem hd_keep2 : keepK (hdA 65535) 2 = (8, hdA 65535) := by kernel_rfl
theorem hd_make4 : makeK (hdA 65535) ⟨0, 0, 2⟩ = (3, 0, hdB 65535) := by kernel_rfl
theorem hd_drop (i : Int) (h0 : i ≠ 0) (h1 : i ≠ 1) : dropK (hdB i) 2 = (0, hdB (i - 1)) := by
 have e : (hdB i).hs.getD (2 : Int).toNat 0 = i := rfl
 unfold dropK unholdK
 rw [e, if_pos (by decide), if_neg h0, if_neg h1]
 rfl
theorem hd_drop1 : dropK (hdB 1) 2 = (0, hdC) := by kernel_rfl
theorem hd_drop2 : dropK hdC 2 = (3, hdC) := by kernel_rfl
theorem hd_drop3 : dropK hdC 3 = (0, hdD) := by kernel_rfl
theorem hd_keep3 : keepK hdD 1 = (0, hdD) := by kernel_rfl
theorem hd_drop4 : dropK hdD 1 = (0, hdD) := by kernel_rfl
theorem hd_drop5 : dropK hdD 0 = (0, hdD) := by kernel_rfl
/-- the kernel behind i drops -/
def hdE (i : Nat) : KS := if i < 65535 then hdB ((65535 - i : Nat) : Int) else hdC
theorem hd_dropE (i : Nat) (h : i < 65535) : dropK (hdE i) 2 = (0, hdE (i + 1)) := by
 unfold hdE
 rw [if_pos h]
 by_cases h1 : i + 1 < 65535
 ·rw [if_pos h1, hd_drop _ (by omega) (by omega)]
  have : ((65535 - i : Nat) : Int) - 1 = ((65535 - (i + 1) : Nat) : Int) := by omega
  rw [this]
 ·obtain rfl : i = 65534 := by omega
  rw [if_neg h1]
  exact hd_drop1
section
variable {w w' : World}
set_option maxHeartbeats 8000000 in
theorem kernelHolds_any (w : World) : Calls Tryz.prog 3 #[] w fun e w' => e = .returned (.bool true) ∧ Same w w' := by
 go_enter Tryz.func3, Tryz.ntmps3
 go_wp2_with (fail)
 refine (awake9_law _).mono ?_
 rintro e w1 ⟨rfl, hs1⟩
 have HS := Lib.hid hs1
 clear hs1
 go_wp2_with (fail)
 refine (kr_new 2 10 (by decide) (by decide) (by decide) (by decide) w1).mono ?_
 rintro e w2 ⟨kp, rfl, hk, hs⟩
 have HK := Lib.hid hk
 have HU := Lib.hid (Up.ofSame hs : Up (fun b => b < w1.heap.size) w1 w2)
 clear hs hk
 go_wp2_with (fail)
 refine (kr_makeE HK.out (fun b hb => Nat.lt_of_lt_of_le hb HU.out.size) 1 0 1 (by decide) (by decide) (by decide) (by decide) hd_make).mono ?_
 rintro e w3 ⟨rfl, hk, hu⟩
 replace HK := Lib.hid hk
 replace HU := Lib.hid (HU.out.trans hu)
 clear hk hu
 go_wp2_with (fail)
 go_loopw [4] (fun s wr => ∃ i : Nat, 1 ≤ i ∧ i ≤ 65535 ∧ s = .int .i64 i ∧ KR (fun b => b < w1.heap.size) wr kp (hdA i) ∧ Up (fun b => b < w1.heap.size) w1 wr) (fun s _ => 65535 - (intOf s).toNat)
 case atStart => exact ⟨1, by omega, by omega, rfl, HK.out, HU.out⟩
 case round =>
  obtain ⟨i, hi1, hi2, rfl, hk, hu⟩ := hrel
  replace HK := Lib.hid hk
  replace HU := Lib.hid hu
  clear hk hu
  by_cases hlt : i < 65535
  ·have hI : (i : Int) < 65535 := by omega
   go_wp2_with (fail)
   refine (kr_keepE HK.out (fun b hb => Nat.lt_of_lt_of_le hb HU.out.size) 2 (by decide) (by decide) (hd_keep i (by omega) (by omega))).mono ?_
   rintro e w4 ⟨rfl, hk, hu⟩
   replace HK := Lib.hid hk
   replace HU := Lib.hid (HU.out.trans hu)
   clear hk hu
   go_wp2
   go_roundw
   case rel => exact ⟨i + 1, by omega, by omega, by go_num, HK.out, HU.out⟩
   case measure => simp [intOf] <;> omega
  ·obtain rfl : i = 65535 := by omega
   replace HK := Lib.hid (show KR _ _ kp (hdA 65535) from HK.out)
   go_wp2_with (fail)
   refine (kr_makeE HK.out (fun b hb => Nat.lt_of_lt_of_le hb HU.out.size) 1 0 1 (by decide) (by decide) (by decide) (by decide) hd_make2).mono ?_
   rintro e w5 ⟨rfl, hk, hu⟩
   replace HK := Lib.hid hk
   replace HU := Lib.hid (HU.out.trans hu)
   clear hk hu
   go_wp2_with (fail)
   refine (kr_makeE HK.out (fun b hb => Nat.lt_of_lt_of_le hb HU.out.size) 0 2 2 (by decide) (by decide) (by decide) (by decide) hd_make3).mono ?_
   rintro e w6 ⟨rfl, hk, hu⟩
   replace HK := Lib.hid hk
   replace HU := Lib.hid (HU.out.trans hu)
   clear hk hu
   go_wp2_with (fail)
   refine (kr_findE HK.out 1 0 1 (by decide) (by decide) (by decide) (by decide) hd_find).mono ?_
   rintro e w7 ⟨rfl, hs⟩
   replace HK := Lib.hid (HK.out.same hs)
   replace HU := Lib.hid (HU.out.trans (Up.ofSame hs))
   clear hs
   go_wp2_with (fail)
   refine (kr_heldE HK.out 2 65535 (by decide) (by decide) (by kernel_rfl)).mono ?_
   rintro e w8 ⟨rfl, rfl⟩
   go_wp2_with (fail)
   refine (kr_keepE HK.out (fun b hb => Nat.lt_of_lt_of_le hb HU.out.size) 2 (by decide) (by decide) hd_keep2).mono ?_
   rintro e w9 ⟨rfl, hk, hu⟩
   replace HK := Lib.hid hk
   replace HU := Lib.hid (HU.out.trans hu)
   clear hk hu
   go_wp2_with (fail)
   refine (kr_makeE HK.out (fun b hb => Nat.lt_of_lt_of_le hb HU.out.size) 0 0 2 (by decide) (by decide) (by decide) (by decide) hd_make4).mono ?_
   rintro e w10 ⟨rfl, hk, hu⟩
   replace HK := Lib.hid hk
   replace HU := Lib.hid (HU.out.trans hu)
   clear hk hu
   go_wp2_with (fail)
   refine (kr_liveE HK.out 2 (by kernel_rfl)).mono ?_
   rintro e w11 ⟨rfl, rfl⟩
   go_wp2_with (fail)
   go_loopw [13] (fun s wr => ∃ i : Nat, i ≤ 65535 ∧ s = .int .i64 i ∧ KR (fun b => b < w1.heap.size) wr kp (hdE i) ∧ Up (fun b => b < w1.heap.size) w1 wr) (fun s _ => 65535 - (intOf s).toNat)
   case atStart => exact ⟨0, by omega, rfl, HK.out, HU.out⟩
   case round =>
    obtain ⟨i, hi2, rfl, hk, hu⟩ := hrel
    replace HK := Lib.hid hk
    replace HU := Lib.hid hu
    clear hk hu
    by_cases hlt : i < 65535
    ·have hI : (i : Int) < 65535 := by omega
     go_wp2_with (fail)
     refine (kr_dropE HK.out (fun b hb => Nat.lt_of_lt_of_le hb HU.out.size) 2 (by decide) (by decide) (hd_dropE i hlt)).mono ?_
     rintro e w12 ⟨rfl, hk, hu⟩
     replace HK := Lib.hid hk
     replace HU := Lib.hid (HU.out.trans hu)
     clear hk hu
     go_wp2
     go_roundw
     case rel => exact ⟨i + 1, by omega, by go_num, HK.out, HU.out⟩
     case measure => simp [intOf] <;> omega
    ·obtain rfl : i = 65535 := by omega
     replace HK := Lib.hid (show KR _ _ kp hdC from HK.out)
     go_wp2_with (fail)
     refine (kr_heldE HK.out 2 0 (by decide) (by decide) (by kernel_rfl)).mono ?_
     rintro e w13 ⟨rfl, rfl⟩
     go_wp2_with (fail)
     refine (kr_dropE HK.out (fun b hb => Nat.lt_of_lt_of_le hb HU.out.size) 2 (by decide) (by decide) hd_drop2).mono ?_
     rintro e w14 ⟨rfl, hk, hu⟩
     replace HK := Lib.hid hk
     replace HU := Lib.hid (HU.out.trans hu)
     clear hk hu
     go_wp2_with (fail)
     refine (kr_liveE HK.out 2 (by kernel_rfl)).mono ?_
     rintro e w15 ⟨rfl, rfl⟩
     go_wp2_with (fail)
     refine (kr_dropE HK.out (fun b hb => Nat.lt_of_lt_of_le hb HU.out.size) 3 (by decide) (by decide) hd_drop3).mono ?_
     rintro e w16 ⟨rfl, hk, hu⟩
     replace HK := Lib.hid hk
     replace HU := Lib.hid (HU.out.trans hu)
     clear hk hu
     go_wp2_with (fail)
     refine (kr_liveE HK.out 0 (by kernel_rfl)).mono ?_
     rintro e w17 ⟨rfl, rfl⟩
     go_wp2_with (fail)
     refine (kr_nodeE HK.out 2 (by decide) (by decide) (n := ⟨0, 0, 0⟩) (by kernel_rfl) (E := 3) (by kernel_rfl)).mono ?_
     rintro e w18 ⟨rfl, hs⟩
     replace HK := Lib.hid (HK.out.same hs)
     replace HU := Lib.hid (HU.out.trans (Up.ofSame hs))
     clear hs
     go_wp2_with (fail)
     go_loopw [14] (fun s wr => ∃ i : Nat, i ≤ 70000 ∧ s = .int .i64 i ∧ KR (fun b => b < w1.heap.size) wr kp hdD ∧ Up (fun b => b < w1.heap.size) w1 wr) (fun s _ => 70000 - (intOf s).toNat)
     case atStart => exact ⟨0, by omega, rfl, HK.out, HU.out⟩
     case round =>
      obtain ⟨i, hi2, rfl, hk, hu⟩ := hrel
      replace HK := Lib.hid hk
      replace HU := Lib.hid hu
      clear hk hu
      by_cases hlt : i < 70000
      ·have hI : (i : Int) < 70000 := by omega
       go_wp2_with (fail)
       refine (kr_keepE HK.out (fun b hb => Nat.lt_of_lt_of_le hb HU.out.size) 1 (by decide) (by decide) hd_keep3).mono ?_
       rintro e w19 ⟨rfl, hk, hu⟩
       replace HK := Lib.hid hk
       replace HU := Lib.hid (HU.out.trans hu)
       clear hk hu
       go_wp2
       go_roundw
       case rel => exact ⟨i + 1, by omega, by go_num, HK.out, HU.out⟩
       case measure => simp [intOf] <;> omega
      ·obtain rfl : i = 70000 := by omega
       go_wp2_with (fail)
       refine (kr_heldE HK.out 1 0 (by decide) (by decide) (by kernel_rfl)).mono ?_
       rintro e w20 ⟨rfl, rfl⟩
       go_wp2_with (fail)
       refine (kr_dropE HK.out (fun b hb => Nat.lt_of_lt_of_le hb HU.out.size) 1 (by decide) (by decide) hd_drop4).mono ?_
       rintro e w21 ⟨rfl, hk, hu⟩
       replace HK := Lib.hid hk
       replace HU := Lib.hid (HU.out.trans hu)
       clear hk hu
       go_wp2_with (fail)
       refine (kr_dropE HK.out (fun b hb => Nat.lt_of_lt_of_le hb HU.out.size) 0 (by decide) (by decide) hd_drop5).mono ?_
       rintro e w22 ⟨rfl, hk, hu⟩
       replace HK := Lib.hid hk
       replace HU := Lib.hid (HU.out.trans hu)
       clear hk hu
       go_wp2
       go_ret
       exact ⟨rfl, HS.out.trans (Frm.mono HU.out (fun b hb hn => hn hb)) (fun _ _ h => h)⟩
end
end Go.Proofs.YtiomgckodmecbaaGreat


/- The walk of KnHolds beside the given rows. -/
