/- Contracts and plain laws, put together in one file. No condition. -/
import Derived.Test.YtiomgckodmecbaaGreatJKernelNews9
import Derived.Test.YtiomgckodmecbaaGreatProg
import Derived.Test.YtiomgckodmecbaaGreatRows


/- The law's play: looks, walked where all agrees (printed by gen/lwlooks.py). -/
namespace Go.Proofs.YtiomgckodmecbaaGreat
open Go.RowKit Go.Tk
/-- the dead ones, up to k -/
def deadK (p : PS) (k : Nat) : List Bool := ((List.range k).map fun i : Nat => !livesB (countP p) i) ++ p.dead.drop k
theorem deadK_len {p : PS} {k : Nat} (h : k ≤ p.dead.length) : (deadK p k).length = p.dead.length := by
 unfold deadK
 simp
 omega
theorem deadK_get {p : PS} {k : Nat} : (deadK p k).getD k true = p.dead.getD k true := by
 unfold deadK
 rw [List.getD_eq_getElem?_getD, List.getD_eq_getElem?_getD, List.getElem?_append_right (by simp)]
 simp
theorem deadK_set {p : PS} {k : Nat} (h : k < p.dead.length) : (deadK p k).set k (!livesB (countP p) k) = deadK p (k + 1) := by
 unfold deadK
 rw [List.set_append_right _ _ (by simp), List.length_map, List.length_range, Nat.sub_self, List.range_succ, List.map_append]
 rw [List.drop_eq_getElem_cons h, List.set_cons_zero, List.append_assoc]
 rfl
theorem deadK_all {p : PS} (h : p.dead.length = p.ts.length) : { countP p with dead := deadK p p.ts.length } = lookP p := by
 unfold deadK lookP
 rw [List.drop_of_length_le (by omega)]
 simp
theorem livesB_dead {p : PS} {k : Nat} : livesB { countP p with dead := deadK p k } k = livesB (countP p) k := by
 unfold livesB
 simp only [Int.toNat_natCast]
 rw [deadK_get]
 rfl
section
variable {w w' : World} {B : Nat → Prop} {pp : Nat} {p : PS} {q : PA} {n : Nat} {t : Tb} {kp : Nat} {k : KS} {a : KA}
set_option maxRecDepth 100000 in
set_option maxHeartbeats 16000000 in
theorem looks_law (hP : PW B w pp p q) (hB : ∀ b, B b → b < w.heap.size) (K : KI p.k) (hg : RngK p.k) (ho : OrdOk p.m) (hd : p.dead.length = p.ts.length) (hr : p.refs.length = p.ts.length) (hrg : ∀ x ∈ p.refs, 0 ≤ x ∧ x < 4294967296)
  (htl : p.ts.length ≤ 4000000000000) (hol : p.k.ord.length ≤ 64) (hac : p.k.ac ≤ 4000000) (L : LookOk p) :
  Calls Tryz.prog 28 #[.pointer (some ⟨pp, 0, none⟩)] w fun e w' => e = .returned (.bool true) ∧ (∃ q', PW B w' pp (lookP p) q') ∧ Up B w w' := by
 have hcl := count_law hP ho hB
 have hn16 := hP.m.n16
 have hl3 := live_len p.m (by have := hP.m.hl; omega) hP.m.ol p.m.ord.length hP.m.ol
 rw [List.take_of_length_le (by unfold levelsL; rw [levels_len]; simp)] at hl3
 have HCL := Lib.hid hcl
 have HLL := Lib.hid (show (liveM p.m).length ≤ 2097152000000 from hl3)
 have HD := Lib.hid hd
 have HR := Lib.hid hr
 have HRG := Lib.hid hrg
 have HTLB := Lib.hid htl
 have HL := Lib.hid L
 have HK := Lib.hid K
 have HG := Lib.hid hg
 have HO := Lib.hid ho
 have HOL := Lib.hid hol
 have HAC := Lib.hid hac
 have HN16 := Lib.hid hn16
 clear hP hcl hl3 hd hr hrg L K hg ho hol hac hn16
 go_enter Tryz.func28, Tryz.ntmps28
 go_wp2_with (fail)
 refine HCL.out.mono ?_
 rintro e w1 ⟨rfl, ⟨q1, hP1⟩, hU1⟩
 have hB1 : ∀ b, B b → b < w1.heap.size := fun b hb => by have := hB b hb; have := hU1.size; omega
 have hpl := hP1.blk.lt
 have c3 := hP1.c3
 rw [hP1.tl] at c3
 replace c3 : w1.cell? ⟨pp, 3, none⟩ = some (.slice q1.tA p.ts.length q1.tC) := c3
 have HP1 := Lib.hid hP1
 have HU1 := Lib.hid hU1
 clear hP1 hU1
 go_upto_region 3 with fail
 clear c3 hpl
 go_loopw [25] (fun i wr => ∃ k : Nat, k ≤ p.ts.length ∧ i = .int .i64 k ∧ (∃ q', PW B wr pp { countP p with dead := deadK p k } q') ∧ Up B w wr ∧ w.heap.size ≤ wr.heap.size) (fun i _ => p.ts.length - (intOf i).toNat)
 case atStart => exact ⟨0, Nat.zero_le _, rfl, ⟨q1, by have := HP1.out; exact this⟩, HU1.out, HU1.out.size⟩
 case round =>
  as_aux_lemma =>
  obtain ⟨k, hk, rfl, ⟨q', hPr⟩, hU, hsz⟩ := hrel
  by_cases hlt : k < p.ts.length
  ·have hI : (k : Int) < (p.ts.length : Int) := by omega
   have hlv := fun w' (hs : Same wr w') => lives_law (hPr.same hs) (by rw [deadK_len (by rw [HD.out]; exact hk)]; exact HD.out) HLL.out k
   rw [livesB_dead] at hlv
   obtain ⟨lb, hlb⟩ : ∃ z, livesB (countP p) k = z := ⟨_, rfl⟩
   rw [hlb] at hlv
   have hdl : (deadK p k).length = p.ts.length := by rw [deadK_len (by rw [HD.out]; exact hk), HD.out]
   obtain ⟨d, hdd⟩ : ∃ d, (deadK p k)[k]? = some d := ⟨_, List.getElem?_eq_getElem (by rw [hdl]; exact hlt)⟩
   obtain ⟨db, hdb, hdbl, d0⟩ := hPr.ds.at1 (c := fun b : Bool => .bool b) hdd
   have hpl := hPr.blk.lt
   have c5 := hPr.c5
   simp only at c5 hdb
   rw [hdl, hdb] at c5
   have f5 := hPr.ds
   have hst : deadK p (k + 1) = (deadK p k).set k (!lb) := by rw [← hlb, deadK_set (by rw [HD.out]; exact hlt)]
   have HLV := Lib.hid hlv
   have HPR := Lib.hid hPr
   have HU := Lib.hid hU
   have HST := Lib.hid hst
   have HDB := Lib.hid hdb
   have HDL := Lib.hid hdl
   have HDD := Lib.hid hdd
   clear hlv hPr hU hst hdb hdl hlb hdd f5
   go_upto_region 5 with fail
   refine wp_phS (fun _ => False) [([0, 1, 2, 3, 4, 5, 6], 7), ([8, 9], 10)] (by kernel_rfl) (by kernel_rfl) ?_
   simp only [wpPh, pick, List.map_cons, List.map_nil, List.getD_cons_zero, List.getD_cons_succ]
   have hs : Same wr wr.drew := (Frm.refl _ _).drew
   repeat (any_goals (first | go_big_quiet_step (fail) | quiet_step (fail)))
   refine wpQuiet_nil ?_
   refine effStep_plain rfl fun K hK => ?_
   go_simp
   refine (HLV.out _ hs).mono ?_
   rintro e w2 ⟨rfl, hs2⟩
   have hs2' := hs.trans hs2 (fun _ _ h => h)
   refine hK _ _ (Lat.mk_ hs2') ?_
   clear hK K
   have hP2 := HPR.out.same hs2'
   have hdb2 := HDB.out
   have hds := hP2.ds
   have hB2 : ∀ b, B b → b < w2.heap.size := fun b hb => by have := hB b hb; have := hs2'.size; omega
   have hsz2 := hs2'.size
   clear d0 hdbl
   have hne : pp ≠ db := fun h => hP2.ds.ne_blk hP2.blk (by decide) _ hdb2 h.symm
   have hdl' : (deadK p (k + 1)).length = p.ts.length := by rw [deadK_len (by rw [HD.out]; exact hlt), HD.out]
   simp only at hds
   rw [hdb2] at hds
   have fk := Own.free hds k
   obtain ⟨db', hdb', hdbl, d0⟩ := hds.at1 (c := fun b : Bool => .bool b) HDD.out
   injection hdb' with hdb'
   injection hdb' with hdb'
   subst hdb'
   have hpt := Own.put1 (c := fun b : Bool => .bool b) hds (i := k) (by rw [HDL.out]; exact hlt) (!lb)
   rw [← HST.out, HDL.out, ← hdl', ← hdb2] at hpt
   have hto := hP2.ds_to (w' := w2.setCell ⟨db, k, none⟩ (.bool (!lb))) (ds := deadK p (k + 1)) (A2 := q'.dA) (C2 := q'.dC) ((Frm.refl _ _).set k _ (.inr ⟨_, hdb2, rfl⟩)) (by
    have hb := hP2.blk.far (p := ⟨db, k, none⟩) hne (.bool (!lb))
    simpa [pcells, HDL.out, hdl'] using hb) hpt (fun b hb => .inl hb) hB2
   have HTO := Lib.hid hto
   have HS2 := Lib.hid hs2'
   clear hto hpt hds hP2 hne hdb2 hB2 hs hs2 hs2' hdl' c5 hpl
   repeat (any_goals (first | go_big_quiet_step (fail) | quiet_step (fail)))
   refine wpQuiet_nil ?_
   go_wp2
   go_roundw
   case rel => exact ⟨k + 1, by omega, by go_num, ⟨_, HTO.out.1⟩, (HU.out.trans (Up.ofSame HS2.out)).trans HTO.out.2, by rw [size_setCell]; omega⟩
   case measure => simp [intOf] <;> omega
  ·obtain rfl : k = p.ts.length := by omega
   have hI : ¬ ((p.ts.length : Nat) : Int) < (p.ts.length : Int) := by omega
   rw [deadK_all HD.out] at hPr
   obtain ⟨w5, rfl⟩ : ∃ z, z = wr := ⟨_, rfl⟩
   have hcells : ∀ w', Same w5 w' → pp < w'.heap.size ∧ q'.mp < w'.heap.size ∧ w'.cell? ⟨pp, 0, none⟩ = some (.pointer (some ⟨q'.kp, 0, none⟩)) ∧ w'.cell? ⟨pp, 1, none⟩ = some (.pointer (some ⟨q'.mp, 0, none⟩)) ∧ w'.cell? ⟨pp, 2, none⟩ = some (.slice q'.rA p.ts.length q'.rC) ∧ w'.cell? ⟨pp, 3, none⟩ = some (.slice q'.tA p.ts.length q'.tC) ∧ w'.cell? ⟨pp, 4, none⟩ = some (.slice q'.vA (liveM p.m).length q'.vC) ∧
     w'.cell? ⟨q'.mp, 0, none⟩ = some (.int .i64 p.m.n) ∧ w'.cell? ⟨q'.mp, 2, none⟩ = some (.slice q'.b.oA p.k.ord.length q'.b.oC) ∧ w'.cell? ⟨q'.mp, 3, none⟩ = some (.slice q'.b.hA (rootsK p.k).length q'.b.hC) ∧ w'.cell? ⟨q'.mp, 4, none⟩ = some (.slice q'.b.tA p.k.tr.length q'.b.tC) := by
    intro w' hs
    have h := hPr.same hs
    refine ⟨h.blk.lt, h.m.blk.lt, h.c0, h.c1, ?_, ?_, ?_, h.m.c0, ?_, ?_, ?_⟩
    ·have := h.c2
     rw [show (lookP p).refs.length = p.ts.length from HR.out] at this
     exact this
    ·have := h.c3
     rw [h.tl] at this
     exact this
    ·have := h.c4
     rw [h.vl] at this
     exact this
    ·have := h.m.c2
     rw [HL.out.ord]
     exact this
    ·have := h.m.c3
     rw [h.m.hsl] at this
     rw [HL.out.rl]
     exact this
    ·have := h.m.c4
     rw [HL.out.tr]
     exact this
   have HC := Lib.hid hcells
   have hord : ∀ w', Same w5 w' → Calls Tryz.prog 25 #[.pointer (some ⟨q'.kp, 0, none⟩)] w' (RetL w' p.k.ord) := fun w' hs => korder_any (hPr.same hs).k HOL.out
   have hsm := fun w' (hs : Same w5 w') (A : Option Addr) (C : Nat) (ho : OwnI w' 3 A p.k.ord.length C p.k.ord) => psame_any A q'.b.oA p.k.ord.length p.k.ord.length C q'.b.oC p.k.ord p.k.ord w' ho.il (by have := (hPr.same hs).m.ord.il; rw [HL.out.ord]; exact this) (by have := HOL.out; omega) (by have := HOL.out; omega)
   simp only [decide_true] at hsm
   have htr : ∀ w', Same w5 w' → Calls Tryz.prog 35 #[.pointer (some ⟨q'.kp, 0, none⟩)] w' fun e w'' => e = .returned (.int .i64 p.k.tr.length) ∧ w' = w'' := fun w' hs => ktrail_any (hPr.same hs).k
   have hlv : ∀ w', Same w5 w' → Calls Tryz.prog 18 #[.pointer (some ⟨q'.kp, 0, none⟩)] w' fun e w'' => e = .returned (.int .i64 ((liveM p.m).length : Nat)) ∧ w' = w'' := fun w' hs => by
    have h := klive2_any (hPr.same hs).k HAC.out
    rw [show (((lookP p).k.ac : Nat) : Int) - 2 = ((liveM p.m).length : Nat) from HL.out.live] at h
    exact h
   have hwd : ∀ (v : Nat), v < p.m.n → ∀ w', Same w5 w' → Calls Tryz.prog 32 #[.pointer (some ⟨q'.kp, 0, none⟩), .int .i64 v] w' fun e w'' => e = .returned (.tuple #[.int .i64 (widthM p.m v), .int .i64 0]) ∧ w' = w'' := fun v hv w' hs => by
    have h := kwidth_any (hPr.same hs).k v
    rw [show wdR (lookP p).k v = widthM p.m v from (HL.out.wd v hv).1, show lvlE (lookP p).k v = 0 from (HL.out.wd v hv).2.2] at h
    exact h
   have hle : ∀ (v : Nat), v < p.m.n → ∀ w', Same w5 w' → Calls Tryz.prog 33 #[.pointer (some ⟨q'.kp, 0, none⟩), .int .i64 v] w' fun e w'' => e = .returned (.tuple #[.int .i64 (levelL p.m.ord v), .int .i64 0]) ∧ w' = w'' := fun v hv w' hs => by
    have h := klevel_any (hPr.same hs).k HK.out.lv v
    rw [show lvlR (lookP p).k v = levelL p.m.ord v from (HL.out.wd v hv).2.1, show lvlE (lookP p).k v = 0 from (HL.out.wd v hv).2.2] at h
    exact h
   have hwm : ∀ (v : Nat) w', Same w5 w' → Calls Tryz.prog 67 #[.pointer (some ⟨q'.mp, 0, none⟩), .int .i64 v] w' fun e w'' => e = .returned (.int .i64 (widthM p.m v)) ∧ Same w' w'' := fun v w' hs => width9_any (hPr.same hs).m HO.out v
   have hlm : ∀ (v : Nat) w', Same w5 w' → Calls Tryz.prog 68 #[.pointer (some ⟨q'.mp, 0, none⟩), .int .i64 v] w' fun e w'' => e = .returned (.int .i64 (levelL p.m.ord v)) ∧ Same w' w'' := fun v w' hs => levelOf_any (hPr.same hs).m v
   have hrt : ∀ w', Same w5 w' → Calls Tryz.prog 22 #[.pointer (some ⟨q'.kp, 0, none⟩)] w' fun e w'' => ∃ A C, e = .returned (.slice A (rootsK p.k).length C) ∧ Row1 w'' 28 rc A (rootsK p.k).length C (rootsK p.k) ∧ Fresh w'.heap.size A ∧ Same w' w'' := fun w' hs => kroots_any (hPr.same hs).k HK.out.bk
   have hhd : ∀ (r : Int), 0 ≤ r → r < 4294967296 → ∀ w', Same w5 w' → Calls Tryz.prog 17 #[.pointer (some ⟨q'.kp, 0, none⟩), .int .u32 r] w' fun e w'' => e = .returned (.int .i64 (p.k.hs.getD r.toNat 0)) ∧ w' = w'' := fun r h0 h1 w' hs => kheld_any (hPr.same hs).k r h0 h1 (fun x hx => ⟨(HK.out.bk.hol _ x hx).1, (HK.out.bk.hol _ x hx).2.1⟩)
   have htb : ∀ (r : Int) (t : List Nat), 0 ≤ r → r < 4294967296 → tabK p.k p.m.n (p.m.n + 1) r = some t → ∀ w', Same w5 w' → Calls Tryz.prog 69 #[.pointer (some ⟨q'.kp, 0, none⟩), .int .u32 r, .int .i64 p.m.n, .int .i64 0] w' fun e w'' => ∃ A C, e = .returned (.tuple #[.agg #[.int .i64 p.m.n, .slice A t.length C], .bool true]) ∧ NewT w' t A C w'' := fun r t h0 h1 ht w' hs => by
    have h := table_law (hPr.same hs).k HG.out HN16.out (p.m.n + 1) r h0 h1 (Nat.le_refl _) w' (Frm.refl _ _)
    rw [show tabK (lookP p).k p.m.n (p.m.n + 1) r = some t from ht, Nat.sub_self] at h
    exact h
   have hho : ∀ (A : Option Addr) (C : Nat) (t : List Nat), FormN p.m.n t → Small t → ∀ w', Same w5 w' → OwnW w' A t.length C t → Calls Tryz.prog 70 #[.pointer (some ⟨q'.mp, 0, none⟩), .agg #[.int .i64 p.m.n, .slice A t.length C]] w' fun e w'' => e = .returned (.int .i64 (holdsL p.m.held t)) ∧ Same w' w'' := fun A C t h1 h2 w' hs hO => by
    have h := holds_any (t := ⟨p.m.n, A, C, t⟩) (hPr.same hs).m ⟨rfl, hO, h1, h2⟩
    exact h
   have hls := fun (i : Int) w' (hs : Same w5 w') => lives_law (hPr.same hs) (by unfold lookP; simp [countP]) (show (liveM p.m).length ≤ 2097152000000 from HLL.out) i
   have htw := fun w' (hs : Same w5 w') => (hPr.same hs).tt
   have hrows : ∀ w', Same w5 w' → Row1 w' 28 rc q'.rA p.refs.length q'.rC p.refs := fun w' hs => (hPr.same hs).refs
   have htab : ∀ w', Same w5 w' → Go.Tk.Own w' 108 2 Tb.cells q'.tA q'.tt.length q'.tC q'.tt ∧ ∀ t ∈ q'.tt, TW w' p.m.n t := fun w' hs => ⟨(hPr.same hs).ts, (hPr.same hs).tt⟩
   have htte : q'.tt.map Tb.ws = p.ts := hPr.te
   have HORD := Lib.hid hord
   have HSM := Lib.hid hsm
   have HTR := Lib.hid htr
   have HLV := Lib.hid hlv
   have HWD := Lib.hid hwd
   have HLE := Lib.hid hle
   have HWM := Lib.hid hwm
   have HLM := Lib.hid hlm
   have HRT := Lib.hid hrt
   have HHD := Lib.hid hhd
   have HTB := Lib.hid htb
   have HHO := Lib.hid hho
   have HLS := Lib.hid hls
   have HROW := Lib.hid hrows
   have HTAB := Lib.hid htab
   have HTTE := Lib.hid htte
   have HFIN := Lib.hid (⟨_, hPr⟩ : ∃ q', PW B w5 pp (lookP p) q')
   have HUF := Lib.hid hU
   have HS := Lib.hid (Frm.refl (fun _ => False) w5 : Same w5 w5)
   clear hord hsm htr hlv hwd hle hwm hlm hrt hhd htb hho hls htw hrows htab htte hPr hU hcells
   go_upto_region 7 with fail
   obtain ⟨hpl, hml, c0, c1, c2, c3, c4, m0, m2, m3, m4⟩ := HC.out _ HS.out
   refine wp_phS (fun _ => False) [([0, 1, 2, 3, 5, 6, 7, 8, 9, 10, 11], 4), ([], 12), ([13, 14, 15, 16, 17, 18, 20, 21, 22, 23, 24, 25, 26, 27], 19), ([28, 29, 30, 31, 32, 33, 34, 36, 37, 38, 39, 40], 35), ([41], 42)] (by kernel_rfl) (by kernel_rfl) ?_
   have hs : Same w5 w5.drew := (Frm.refl _ _).drew
   rw [wpPh_go_eq]
   simp only [pick, List.map_cons, List.map_nil, List.getD_cons_zero, List.getD_cons_succ]
   repeat go_big_quiet_step (fail)
   refine wpQuiet_nil ?_
   refine effStep_plain rfl fun K hK => ?_
   go_simp
   refine (HORD.out _ hs).mono ?_
   rintro e w6 ⟨Ao, Co, rfl, hO6, hF6, hs6⟩
   have HS6 := Lib.hid (hs.trans hs6 (fun _ _ h => h))
   refine hK _ _ (Lat.mk_ HS6.out) ?_
   clear hK K
   have HO6 := Lib.hid hO6
   clear hO6 hF6 hs6 hs
   rw [wpPh_go_eq]
   simp only [pick, List.map_nil, List.getD_cons_zero, List.getD_cons_succ]
   repeat go_big_quiet_step (fail)
   refine wpQuiet_nil ?_
   refine effStep_plain rfl fun K hK => ?_
   go_simp
   refine (HSM.out _ HS6.out Ao Co HO6.out).mono ?_
   rintro e w7 ⟨rfl, hs7⟩
   have HS7 := Lib.hid (HS6.out.trans hs7 (fun _ _ h => h))
   refine hK _ _ (Lat.mk_ HS7.out) ?_
   clear hK K hs7
   rw [wpPh_go_eq]
   simp only [pick, List.map_cons, List.map_nil, List.getD_cons_zero, List.getD_cons_succ]
   repeat go_big_quiet_step (fail)
   refine wpQuiet_nil ?_
   refine effStep_on (by rfl) fun K hK => ?_
   go_simp
   refine (HTR.out _ HS7.out).mono ?_
   rintro e w8 ⟨rfl, rfl⟩
   refine hK _ _ (Lat.mk_ HS7.out) ?_
   clear hK K
   rw [wpPh_go_eq]
   simp only [pick, List.map_cons, List.map_nil, List.getD_cons_zero, List.getD_cons_succ]
   repeat go_big_quiet_step (fail)
   refine wpQuiet_nil ?_
   refine effStep_on (by rfl) fun K hK => ?_
   go_simp
   refine (HLV.out _ HS7.out).mono ?_
   rintro e w8 ⟨rfl, rfl⟩
   refine hK _ _ (Lat.mk_ HS7.out) ?_
   clear hK K
   rw [wpPh_end_eq]
   simp only [pick, List.map_cons, List.map_nil, List.getD_cons_zero, List.getD_cons_succ]
   repeat go_big_quiet_step (fail)
   rw [wpQuiet_nil_eq]
   clear hpl hml c0 c1 c2 c3 c4 m0 m2 m3 m4 HO6 HS6
   go_wp2_with (fail)
   go_loopw [4] (fun i wx => ∃ v : Nat, v ≤ p.m.n ∧ i = .int .i64 v ∧ Same w5 wx) (fun i _ => p.m.n - (intOf i).toNat)
   case atStart => exact ⟨0, Nat.zero_le _, rfl, HS7.out⟩
   case round =>
    as_aux_lemma =>
    obtain ⟨v, hv, rfl, hsx⟩ := hrel
    by_cases hlt : v < p.m.n
    ·have hJ : (v : Int) < (p.m.n : Int) := by omega
     have hn16 := HN16.out
     have HSX := Lib.hid hsx
     clear hsx
     obtain ⟨hpl, hml, c0, c1, c2, c3, c4, m0, m2, m3, m4⟩ := HC.out _ HSX.out
     have h1 := HWD.out v hlt
     have h2 := HLE.out v hlt
     have h3 := HWM.out v
     have h4 := HLM.out v
     obtain ⟨a1, ha1⟩ : ∃ z, widthM p.m v = z := ⟨_, rfl⟩
     obtain ⟨a2, ha2⟩ : ∃ z, levelL p.m.ord v = z := ⟨_, rfl⟩
     replace h3 : ∀ w', Same w5 w' → Calls Tryz.prog 67 #[.pointer (some ⟨q'.mp, 0, none⟩), .int .i64 v] w' fun e w'' => e = .returned (.int .i64 a1) ∧ Same w' w'' := by rw [← ha1]; exact h3
     replace h4 : ∀ w', Same w5 w' → Calls Tryz.prog 68 #[.pointer (some ⟨q'.mp, 0, none⟩), .int .i64 v] w' fun e w'' => e = .returned (.int .i64 a2) ∧ Same w' w'' := by rw [← ha2]; exact h4
     rw [ha1] at h1
     rw [ha2] at h2
     have H1 := Lib.hid h1
     have H2 := Lib.hid h2
     have H3 := Lib.hid h3
     have H4 := Lib.hid h4
     clear h1 h2 h3 h4 ha1 ha2
     go_wp2_with (fail)
     refine (H1.out _ HSX.out).mono ?_
     rintro e wy ⟨rfl, rfl⟩
     go_wp2_with (fail)
     refine (H2.out _ HSX.out).mono ?_
     rintro e wy ⟨rfl, rfl⟩
     go_wp2_with (fail)
     refine (H3.out _ HSX.out).mono ?_
     rintro e wy ⟨rfl, hsy⟩
     have HSY := Lib.hid (HSX.out.trans hsy (fun _ _ h => h))
     clear hsy hpl hml c0 c1 c2 c3 c4 m0 m2 m3 m4
     obtain ⟨hpl, hml, c0, c1, c2, c3, c4, m0, m2, m3, m4⟩ := HC.out _ HSY.out
     go_wp2_with (fail)
     refine (H4.out _ HSY.out).mono ?_
     rintro e wz ⟨rfl, hsz⟩
     have HSZ := Lib.hid (HSY.out.trans hsz (fun _ _ h => h))
     clear hsz hpl hml c0 c1 c2 c3 c4 m0 m2 m3 m4
     go_wp2
     go_roundw
     case rel => exact ⟨v + 1, by omega, by go_num, HSZ.out⟩
     case measure => simp [intOf] <;> omega
    ·obtain rfl : v = p.m.n := by omega
     have hJ : ¬ ((p.m.n : Nat) : Int) < (p.m.n : Int) := by omega
     have HSX := Lib.hid hsx
     clear hsx
     obtain ⟨hpl, hml, c0, c1, c2, c3, c4, m0, m2, m3, m4⟩ := HC.out _ HSX.out
     go_wp2_with (fail)
     refine (HRT.out _ HSX.out).mono ?_
     rintro e wa ⟨Ar, Cr, rfl, hRr, hFr, hsr⟩
     have HSA := Lib.hid (HSX.out.trans hsr (fun _ _ h => h))
     have HRR := Lib.hid (show Row1 wa 28 rc Ar (rootsK p.k).length Cr (rootsK p.k) from hRr)
     clear hsr hRr hFr hpl hml c0 c1 c2 c3 c4 m0 m2 m3 m4
     obtain ⟨hpl, hml, c0, c1, c2, c3, c4, m0, m2, m3, m4⟩ := HC.out _ HSA.out
     have hrge : ∀ x ∈ rootsK p.k, 0 ≤ x ∧ x < 4294967296 := roots_range HK.out
     have HRGE := Lib.hid hrge
     have HLRT := Lib.hid HL.out.rt
     have hrlb : (rootsK p.k).length ≤ 1048576 := roots_len HK.out
     clear hrge
     obtain ⟨RL, hRL⟩ : ∃ z, rootsK p.k = z := ⟨_, rfl⟩
     rw [hRL] at HRR HRGE HLRT m3 hrlb ⊢
     clear hRL
     have e7 : (RL.length != RL.length) = false := by simp
     go_wp2_with (fail)
     go_loopw [155] (fun i wx => ∃ k : Nat, k ≤ RL.length ∧ i = .int .i64 k ∧ Same wa wx) (fun i _ => RL.length - (intOf i).toNat)
     case atStart => exact ⟨0, Nat.zero_le _, rfl, Frm.refl _ _⟩
     case round =>
      as_aux_lemma =>
      clear hpl hml c0 c1 c2 c3 c4 m0 m2 m3 m4
      obtain ⟨k, hk, rfl, hsk⟩ := hrel
      have HSK := Lib.hid (HSA.out.trans hsk (fun _ _ h => h))
      by_cases hlt : k < RL.length
      ·have hI3 : (k : Int) < (RL.length : Int) := by omega
       obtain ⟨r, hr⟩ : ∃ r, RL[k]? = some r := ⟨_, List.getElem?_eq_getElem hlt⟩
       have hRk := HRR.out.frm hsk (fun _ _ => id)
       obtain ⟨sb, hA1, hsb, d0⟩ := hRk.at1 (c := rc) hr
       obtain ⟨t, ht, hnz, hhs, hup⟩ := HLRT.out k hlt
       have hrd : RL.getD k 0 = r := by rw [List.getD_eq_getElem?_getD, hr]; rfl
       rw [hrd] at ht hhs hup
       obtain ⟨hr0, hr1⟩ := HRGE.out r (List.mem_of_getElem? hr)
       obtain ⟨hf1, hf2⟩ := tabK_form HN16.out _ _ _ ht
       have htb := HTB.out r t hr0 hr1 ht
       have hho := fun A C => HHO.out A C t hf1 hf2
       have hhd := HHD.out r hr0 hr1
       rw [hhs] at hhd
       obtain ⟨hc, hhc⟩ : ∃ z, holdsL p.m.held t = z := ⟨_, rfl⟩
       rw [hhc] at hho hhd hnz
       have e0 : (hc == 0) = false := by simpa using hnz
       have e1 : (hc != hc) = false := by simp
       unfold rc at d0
       have hprev : k = 0 ∨ ∃ k' r', k = k' + 1 ∧ RL[k']? = some r' ∧ ¬ r ≤ r' := by
        rcases hup with h | h
        ·exact .inl h
        ·by_cases h0 : k = 0
         ·exact .inl h0
         ·refine .inr ⟨k - 1, RL.getD (k - 1) 0, by omega, ?_, by rw [List.getD_eq_getElem?_getD] at h ⊢; omega⟩
          rw [List.getD_eq_getElem?_getD, List.getElem?_eq_getElem (by omega)]
          rfl
       have HTBr := Lib.hid htb
       have HHOr := Lib.hid hho
       have HHDr := Lib.hid hhd
       have HPRV := Lib.hid hprev
       have HRK := Lib.hid hRk
       have HSKA := Lib.hid hsk
       have HA1 := Lib.hid hA1
       clear htb hho hhd hprev hRk hsk hhs hhc hup hrd hr ht hf1 hf2
       subst hA1
       obtain ⟨hpl, hml, c0, c1, c2, c3, c4, m0, m2, m3, m4⟩ := HC.out _ HSK.out
       go_upto_region 22 with fail
       go_cut [12, 13] (fun s1 s2 wx => ∃ (T : Nat) (A : Option Addr) (C : Nat), s1 = .pointer (some ⟨T, 0, none⟩) ∧ s2 = .bool true ∧ Blk wx T 108 #[.int .i64 p.m.n, .slice A t.length C] ∧ OwnW wx A t.length C t ∧ Same wr wx)
       case first =>
        as_aux_lemma =>
        refine wp_tS (fun _ => False) (.q [0,1,2,3,4,5,6,7,8,9,10,11] (.fork 12 (.q [13,14,15] (.step 16 (.step 17 (.last 18)))) 16 (.step 12 (.q [13,14,15] (.step 17 (.last 18)))))) (by kernel_rfl) (by kernel_rfl) ?_
        simp only [wpT, pick, List.map_cons, List.map_nil, List.getD_cons_zero, List.getD_cons_succ]
        have hs : Same wr wr.drew := (Frm.refl _ _).drew
        repeat go_big_quiet_step (fail)
        refine wpQuiet_nil ?_
        refine ⟨?_, ?_⟩
        ·refine effStep_plain rfl fun K hK => ?_
         go_simp
         refine (HTBr.out _ (HSK.out.trans hs (fun _ _ h => h))).mono ?_
         rintro e wa ⟨A5, C5, rfl, hO5, hF5, hs5⟩
         have hsa := hs.trans hs5 (fun _ _ h => h)
         refine hK _ _ (Lat.mk_ hsa) ?_
         clear hK K
         have HSA := Lib.hid hsa
         have HO5 := Lib.hid hO5
         clear hsa hO5 hs5 hF5 hs
         repeat go_big_quiet_step (fail)
         refine wpQuiet_nil ?_
         refine effStep_plain rfl fun K hK => ?_
         go_simp
         refine hK _ _ (Lat.mk_ (HSA.out.alloc _)) ?_
         clear hK K
         refine effStep_plain rfl fun K hK => ?_
         go_simp
         refine hK _ _ (Lat.mk_ (HSA.out.alloc _)) ?_
         clear hK K
         go_wp2_with fail
         go_meet
         exact ⟨wa.heap.size, A5, C5, rfl, rfl, Blk.new wa _ _, HO5.out.frm (S := fun _ => False) ((Frm.refl _ _).alloc _) (fun _ _ => id), HSA.out.alloc _⟩
        ·refine effStep_plain rfl fun K hK => ?_
         go_simp
         have hT := (Blk.new wr 108 #[.int .i64 0, .slice none 0 0]).drew
         have hsa : Same wr (wr.alloc (.cells #[.int .i64 0, .slice none 0 0] 108)).drew := ((Frm.refl _ _).alloc _).drew
         refine hK _ _ (Lat.mk_ hsa) ?_
         clear hK K
         generalize (wr.alloc (.cells #[.int .i64 0, .slice none 0 0] 108)).drew = wa at hT hsa ⊢
         refine effStep_plain rfl fun K hK => ?_
         go_simp
         refine (HTBr.out _ (HSK.out.trans hsa (fun _ _ h => h))).mono ?_
         rintro e wb ⟨A5, C5, rfl, hO5, hF5, hs5⟩
         have hsb := hsa.trans hs5 (fun _ _ h => h)
         refine hK _ _ (Lat.mk_ hsb) ?_
         clear hK K
         have hT5 := hT.frm hs5 id
         have hnA : ∀ x, A5 = some x → x.block ≠ wr.heap.size := fun x hx h => hO5.ne_blk hT5 (by decide) x hx h
         have t0 := hT5.cell 0
         have t1 := hT5.cell 1
         have tl := hT5.lt
         have u0 := hT5.free 0
         have u1 := hT5.free 1
         simp at t0 t1
         have HSB := Lib.hid hsb
         have HO5 := Lib.hid hO5
         have HT5 := Lib.hid hT5
         have HNA := Lib.hid hnA
         clear hsb hO5 hs5 hF5 hT hT5 hsa hs hnA
         repeat go_big_quiet_step (fail)
         refine wpQuiet_nil ?_
         refine effStep_plain rfl fun K hK => ?_
         go_simp
         refine hK _ _ (Lat.mk_ ((HSB.out.setNew 0 _ (Nat.le_refl _)).setNew 1 _ (Nat.le_refl _))) ?_
         clear hK K
         go_wp2_with fail
         go_meet
         refine ⟨wr.heap.size, A5, C5, rfl, rfl, ?_, (Own.far (p := ⟨wr.heap.size, 0, none⟩) HO5.out HNA.out _).far (p := ⟨wr.heap.size, 1, none⟩) HNA.out _, (HSB.out.setNew 0 _ (Nat.le_refl _)).setNew 1 _ (Nat.le_refl _)⟩
         have := (HT5.out.set 0 (.int .i64 p.m.n)).set 1 (.slice A5 t.length C5)
         simpa using this
       case rest =>
        as_aux_lemma =>
        obtain ⟨T, A5, C5, rfl, rfl, hT, hO5, hs5⟩ := hcut
        have HS5 := Lib.hid (HSK.out.trans hs5 (fun _ _ h => h))
        have HSK5 := Lib.hid (HSKA.out.trans hs5 (fun _ _ h => h))
        have HT := Lib.hid hT
        have HO5 := Lib.hid hO5
        clear hpl hml c0 c1 c2 c3 c4 m0 m2 m3 m4 d0 hsb hs5 hT hO5
        obtain ⟨hpl, hml, c0, c1, c2, c3, c4, m0, m2, m3, m4⟩ := HC.out _ HS5.out
        have t0 := HT.out.cell 0
        have t1 := HT.out.cell 1
        have tl := HT.out.lt
        simp at t0 t1
        go_upto_region 23 with fail
        have hs : Same wc wc.drew := (Frm.refl _ _).drew
        have key : ∀ (G : Prop), (k = 0 → G) → (∀ k' r', k = k' + 1 → RL[k']? = some r' → ¬ r ≤ r' → G) → G := fun G h1 h2 => by
         rcases HPRV.out with h | ⟨k', r', a, b, c⟩
         ·exact h1 h
         ·exact h2 k' r' a b c
        refine wp_phS (fun _ => False) [([0, 1, 2, 3, 4, 5, 6, 7], 8), ([9, 10, 11, 12, 13, 14, 15, 16, 18, 19, 20, 21, 22], 17), ([], 23), ([24, 25, 26, 27, 28, 29, 30, 31, 32, 33, 34, 35, 36, 37], 38)] (by kernel_rfl) (by kernel_rfl) ?_
        rw [wpPh_go_eq]
        simp only [pick, List.map_cons, List.map_nil, List.getD_cons_zero, List.getD_cons_succ]
        repeat go_big_quiet_step (fail)
        refine wpQuiet_nil ?_
        refine effStep_on (by rfl) fun K hK => ?_
        go_simp
        refine (HHOr.out A5 C5 _ (HS5.out.trans hs (fun _ _ h => h)) (HO5.out.frm hs (fun _ _ => id))).mono ?_
        rintro e wd ⟨rfl, hsd⟩
        have hsd' := hs.trans hsd (fun _ _ h => h)
        refine hK _ _ (Lat.mk_ hsd') ?_
        clear hK K
        have HSD := Lib.hid hsd'
        have HS6 := Lib.hid (HS5.out.trans hsd' (fun _ _ h => h))
        have HT6 := Lib.hid (HT.out.frm hsd' id)
        have HO6 := Lib.hid (HO5.out.frm hsd' (fun _ _ => id))
        clear hsd hsd' hs
        rw [wpPh_go_eq]
        simp only [pick, List.map_cons, List.map_nil, List.getD_cons_zero, List.getD_cons_succ]
        repeat go_big_quiet_step (fail)
        refine wpQuiet_nil ?_
        refine effStep_on (by rfl) fun K hK => ?_
        go_simp
        refine (HHDr.out _ HS6.out).mono ?_
        rintro e we ⟨rfl, rfl⟩
        refine hK _ _ (Lat.mk_ HSD.out) ?_
        clear hK K
        rw [wpPh_go_eq]
        simp only [pick, List.map_nil, List.getD_cons_zero, List.getD_cons_succ]
        repeat go_big_quiet_step (fail)
        refine wpQuiet_nil ?_
        refine effStep_on (by rfl) fun K hK => ?_
        go_simp
        refine (HHOr.out A5 C5 _ HS6.out HO6.out).mono ?_
        rintro e wf ⟨rfl, hsf⟩
        have HSF := Lib.hid (HSD.out.trans hsf (fun _ _ h => h))
        have HS7 := Lib.hid (HS6.out.trans hsf (fun _ _ h => h))
        have HSK7 := Lib.hid (HSK5.out.trans HSF.out (fun _ _ h => h))
        refine hK _ _ (Lat.mk_ HSF.out) ?_
        clear hK K hsf
        rcases HPRV.out with rfl | ⟨k', r', rfl, hr', hrr⟩
        ·clear key
         rw [wpPh_end_eq]
         simp only [pick, List.map_cons, List.map_nil, List.getD_cons_zero, List.getD_cons_succ]
         repeat go_big_quiet_step (fail)
         rw [wpQuiet_nil_eq]
         go_wp2
         go_roundw
         case rel => exact ⟨1, by omega, by go_num, HSK7.out⟩
         case measure => simp [intOf] <;> omega
        ·clear key
         obtain ⟨sb', hA', hsb, d0⟩ := (HRR.out.frm HSK5.out (fun _ _ => id)).at1 (c := rc) hr'
         injection hA' with hA'
         injection hA' with hA'
         subst hA'
         unfold rc at d0
         have hk1 : (0 : Int) < (k' : Int) + 1 := by omega
         have hk2 : (k' : Int) < RL.length := by omega
         rw [wpPh_end_eq]
         simp only [pick, List.map_cons, List.map_nil, List.getD_cons_zero, List.getD_cons_succ]
         repeat go_big_quiet_step (fail)
         rw [wpQuiet_nil_eq]
         go_wp2
         go_roundw
         case rel => exact ⟨k' + 2, by omega, by go_num, HSK7.out⟩
         case measure => simp [intOf] <;> omega
      ·obtain rfl : k = RL.length := by omega
       have hI3 : ¬ ((RL.length : Nat) : Int) < (RL.length : Int) := by omega
       clear hsk
       go_wp2_with (fail)
       go_loopw [14] (fun i wx => ∃ k : Nat, k ≤ p.ts.length ∧ i = .int .i64 k ∧ Same w5 wx) (fun i _ => p.ts.length - (intOf i).toNat)
       case atStart => exact ⟨0, Nat.zero_le _, rfl, HSK.out⟩
       case round =>
        as_aux_lemma =>
        obtain ⟨k, hk, rfl, hsk⟩ := hrel
        have HSK4 := Lib.hid hsk
        obtain ⟨hpl, hml, c0, c1, c2, c3, c4, m0, m2, m3, m4⟩ := HC.out _ hsk
        clear hsk
        by_cases hlt : k < p.ts.length
        ·have hI4 : (k : Int) < (p.ts.length : Int) := by omega
         have hls := HLS.out k
         obtain ⟨lb, hlb⟩ : ∃ z, livesB (lookP p) k = z := ⟨_, rfl⟩
         rw [hlb] at hls
         have HLK := Lib.hid hls
         clear hls
         go_wp2_with (fail)
         refine (HLK.out _ HSK4.out).mono ?_
         rintro e wl ⟨rfl, hsl⟩
         have HSL := Lib.hid (HSK4.out.trans hsl (fun _ _ h => h))
         clear hsl hpl hml c0 c1 c2 c3 c4 m0 m2 m3 m4
         cases lb with
         | false =>
          clear hlb
          go_wp2
          go_roundw
          case rel => exact ⟨k + 1, by omega, by go_num, HSL.out⟩
          case measure => simp [intOf] <;> omega
         | true =>
          obtain ⟨ht, hfn⟩ := HL.out.fn k hlt hlb
          obtain ⟨r, hr⟩ : ∃ r, p.refs[k]? = some r := ⟨_, List.getElem?_eq_getElem (by rw [HR.out]; exact hlt)⟩
          obtain ⟨u, hu⟩ : ∃ u, q'.tt[k]? = some u := ⟨_, List.getElem?_eq_getElem (by have := congrArg List.length HTTE.out; rw [List.length_map] at this; omega)⟩
          have hur : p.ts.getD k [] = u.ws := by rw [List.getD_eq_getElem?_getD, ← HTTE.out, List.getElem?_map, hu]; rfl
          have hrd : p.refs.getD k 0 = r := by rw [List.getD_eq_getElem?_getD, hr]; rfl
          rw [hur] at ht hfn
          rw [hrd] at ht hfn
          obtain ⟨hr0, hr1⟩ := HRG.out r (List.mem_of_getElem? hr)
          have htb := HTB.out r u.ws hr0 hr1 ht
          obtain ⟨hpl, hml, c0, c1, c2, c3, c4, m0, m2, m3, m4⟩ := HC.out _ HSL.out
          obtain ⟨rb, hrb, hrbl, d0⟩ := (HROW.out _ HSL.out).at1 (c := rc) hr
          rw [hrb] at c2
          unfold rc at d0
          have HTBr := Lib.hid htb
          have HHR := Lib.hid hr
          have HHU := Lib.hid hu
          have HFN := Lib.hid hfn
          have HRB := Lib.hid hrb
          clear htb hr hu hfn hrb ht hur hrd hlb
          go_upto_region 30 with fail
          go_cut [15, 16] (fun s1 s2 wx => ∃ (T : Nat) (A : Option Addr) (C : Nat), s1 = .pointer (some ⟨T, 0, none⟩) ∧ s2 = .bool true ∧ Blk wx T 108 #[.int .i64 p.m.n, .slice A u.ws.length C] ∧ OwnW wx A u.ws.length C u.ws ∧ Same wl wx)
          case first =>
           as_aux_lemma =>
           refine wp_tS (fun _ => False) (.q [0,1,2,3,4,5,6,7,8,9,10,11,12,13,14,15,16,17] (.fork 18 (.q [19,20,21] (.step 22 (.step 23 (.last 24)))) 22 (.step 18 (.q [19,20,21] (.step 23 (.last 24)))))) (by kernel_rfl) (by kernel_rfl) ?_
           simp only [wpT, pick, List.map_cons, List.map_nil, List.getD_cons_zero, List.getD_cons_succ]
           have hs : Same wl wl.drew := (Frm.refl _ _).drew
           repeat go_big_quiet_step (fail)
           refine wpQuiet_nil ?_
           refine ⟨?_, ?_⟩
           ·refine effStep_plain rfl fun K hK => ?_
            go_simp
            refine (HTBr.out _ (HSL.out.trans hs (fun _ _ h => h))).mono ?_
            rintro e wa ⟨A5, C5, rfl, hO5, hF5, hs5⟩
            have hsa := hs.trans hs5 (fun _ _ h => h)
            refine hK _ _ (Lat.mk_ hsa) ?_
            clear hK K
            have HSA := Lib.hid hsa
            have HO5 := Lib.hid hO5
            clear hsa hO5 hs5 hF5 hs
            repeat go_big_quiet_step (fail)
            refine wpQuiet_nil ?_
            refine effStep_plain rfl fun K hK => ?_
            go_simp
            refine hK _ _ (Lat.mk_ (HSA.out.alloc _)) ?_
            clear hK K
            refine effStep_plain rfl fun K hK => ?_
            go_simp
            refine hK _ _ (Lat.mk_ (HSA.out.alloc _)) ?_
            clear hK K
            go_wp2_with fail
            go_meet
            exact ⟨wa.heap.size, A5, C5, rfl, rfl, Blk.new wa _ _, HO5.out.frm (S := fun _ => False) ((Frm.refl _ _).alloc _) (fun _ _ => id), HSA.out.alloc _⟩
           ·refine effStep_plain rfl fun K hK => ?_
            go_simp
            have hT := (Blk.new wl 108 #[.int .i64 0, .slice none 0 0]).drew
            have hsa : Same wl (wl.alloc (.cells #[.int .i64 0, .slice none 0 0] 108)).drew := ((Frm.refl _ _).alloc _).drew
            refine hK _ _ (Lat.mk_ hsa) ?_
            clear hK K
            generalize (wl.alloc (.cells #[.int .i64 0, .slice none 0 0] 108)).drew = wa at hT hsa ⊢
            refine effStep_plain rfl fun K hK => ?_
            go_simp
            refine (HTBr.out _ (HSL.out.trans hsa (fun _ _ h => h))).mono ?_
            rintro e wb ⟨A5, C5, rfl, hO5, hF5, hs5⟩
            have hsb := hsa.trans hs5 (fun _ _ h => h)
            refine hK _ _ (Lat.mk_ hsb) ?_
            clear hK K
            have hT5 := hT.frm hs5 id
            have hnA : ∀ x, A5 = some x → x.block ≠ wl.heap.size := fun x hx h => hO5.ne_blk hT5 (by decide) x hx h
            have t0 := hT5.cell 0
            have t1 := hT5.cell 1
            have tl := hT5.lt
            have u0 := hT5.free 0
            have u1 := hT5.free 1
            simp at t0 t1
            have HSB := Lib.hid hsb
            have HO5 := Lib.hid hO5
            have HT5 := Lib.hid hT5
            have HNA := Lib.hid hnA
            clear hsb hO5 hs5 hF5 hT hT5 hsa hs hnA
            repeat go_big_quiet_step (fail)
            refine wpQuiet_nil ?_
            refine effStep_plain rfl fun K hK => ?_
            go_simp
            refine hK _ _ (Lat.mk_ ((HSB.out.setNew 0 _ (Nat.le_refl _)).setNew 1 _ (Nat.le_refl _))) ?_
            clear hK K
            go_wp2_with fail
            go_meet
            refine ⟨wl.heap.size, A5, C5, rfl, rfl, ?_, (Own.far (p := ⟨wl.heap.size, 0, none⟩) HO5.out HNA.out _).far (p := ⟨wl.heap.size, 1, none⟩) HNA.out _, (HSB.out.setNew 0 _ (Nat.le_refl _)).setNew 1 _ (Nat.le_refl _)⟩
            have := (HT5.out.set 0 (.int .i64 p.m.n)).set 1 (.slice A5 u.ws.length C5)
            simpa using this
          case rest =>
           as_aux_lemma =>
           obtain ⟨T, A5, C5, rfl, rfl, hT, hO5, hs5⟩ := hcut
           have HS5 := Lib.hid (HSL.out.trans hs5 (fun _ _ h => h))
           have HT := Lib.hid hT
           have HO5 := Lib.hid hO5
           clear hpl hml c0 c1 c2 c3 c4 m0 m2 m3 m4 d0 hrbl hs5 hT hO5
           obtain ⟨hpl, hml, c0, c1, c2, c3, c4, m0, m2, m3, m4⟩ := HC.out _ HS5.out
           have t0 := HT.out.cell 0
           have t1 := HT.out.cell 1
           have tl := HT.out.lt
           simp at t0 t1
           obtain ⟨tb, htb, htbl, y0, y1⟩ := tab_at (HTAB.out _ HS5.out).1 (HTAB.out _ HS5.out).2 HHU.out
           rw [htb] at c3
           have hwl := ((HTAB.out _ HS5.out).2 u (List.mem_of_getElem? HHU.out)).fm.len
           have hsm := fun w' (hs : Same wc w') => tsame_any p.m.n A5 u.ws.length C5 u.ws p.m.n u.A u.ws.length u.C u.ws w' ((HO5.out.frm hs (fun _ _ => id)).sl ucell_len) (((HTAB.out _ (HS5.out.trans hs (fun _ _ h => h))).2 u (List.mem_of_getElem? HHU.out)).ok.wl) (by rw [hwl]; have := nw_le HN16.out; omega)
           have esm : sm p.m.n p.m.n u.ws u.ws = true := by unfold sm; simp
           rw [esm] at hsm
           have HSMk := Lib.hid hsm
           have HTBK := Lib.hid htb
           clear esm hsm hwl htb
           go_upto_region 31 with fail
           have hs : Same wc wc.drew := (Frm.refl _ _).drew
           refine wp_phS (fun _ => False) [([0, 1, 2, 3, 4, 5, 6, 7, 8, 9, 10], 11), ([12], 13)] (by kernel_rfl) (by kernel_rfl) ?_
           rw [wpPh_go_eq]
           simp only [pick, List.map_cons, List.map_nil, List.getD_cons_zero, List.getD_cons_succ]
           repeat go_big_quiet_step (fail)
           refine wpQuiet_nil ?_
           refine effStep_on (by rfl) fun K hK => ?_
           go_simp
           refine (HSMk.out _ hs).mono ?_
           rintro e wd ⟨rfl, hsd⟩
           have hsd' := hs.trans hsd (fun _ _ h => h)
           refine hK _ _ (Lat.mk_ hsd') ?_
           clear hK K
           have HSD := Lib.hid (HS5.out.trans hsd' (fun _ _ h => h))
           clear hsd hsd' hs HSMk HT HO5 HTBr HLK
           rw [wpPh_end_eq]
           simp only [pick, List.map_cons, List.map_nil, List.getD_cons_zero, List.getD_cons_succ]
           repeat go_big_quiet_step (fail)
           rw [wpQuiet_nil_eq]
           clear hpl hml c0 c1 c2 c3 c4 m0 m2 m3 m4 t0 t1 tl htbl y0 y1
           go_wp2_with (fail)
           go_loopw [17] (fun i wx => ∃ j : Nat, j ≤ k ∧ i = .int .i64 j ∧ Same w5 wx) (fun i _ => k - (intOf i).toNat)
           case atStart => exact ⟨0, Nat.zero_le _, rfl, HSD.out⟩
           case round =>
            as_aux_lemma =>
            obtain ⟨j, hj, rfl, hsj⟩ := hrel
            have HSJ := Lib.hid hsj
            clear hsj
            by_cases hjk : j < k
            ·have hI5 : (j : Int) < (k : Int) := by omega
             have hI6 : (j : Int) < (p.ts.length : Int) := by omega
             have hjt : j < p.ts.length := by omega
             have hls := HLS.out j
             obtain ⟨lj, hlj⟩ : ∃ z, livesB (lookP p) j = z := ⟨_, rfl⟩
             rw [hlj] at hls
             have HLJ := Lib.hid hls
             obtain ⟨rj, hrj⟩ : ∃ r, p.refs[j]? = some r := ⟨_, List.getElem?_eq_getElem (by rw [HR.out]; exact hjt)⟩
             obtain ⟨v, hv⟩ : ∃ u, q'.tt[j]? = some u := ⟨_, List.getElem?_eq_getElem (by have := congrArg List.length HTTE.out; rw [List.length_map] at this; omega)⟩
             have hvr : p.ts.getD j [] = v.ws := by rw [List.getD_eq_getElem?_getD, ← HTTE.out, List.getElem?_map, hv]; rfl
             have hrjd : p.refs.getD j 0 = rj := by rw [List.getD_eq_getElem?_getD, hrj]; rfl
             have hfj := HFN.out j hjk
             rw [hvr, hrjd, hlj] at hfj
             have hwl := ((HTAB.out _ HSJ.out).2 u (List.mem_of_getElem? HHU.out)).fm.len
             have hsm := fun w' (hs : Same w5 w') => tsame_any p.m.n u.A u.ws.length u.C u.ws p.m.n v.A v.ws.length v.C v.ws w' (((HTAB.out _ hs).2 u (List.mem_of_getElem? HHU.out)).ok.wl) (((HTAB.out _ hs).2 v (List.mem_of_getElem? hv)).ok.wl) (by rw [hwl]; have := nw_le HN16.out; omega)
             have esm : sm p.m.n p.m.n u.ws v.ws = decide (u.ws = v.ws) := by unfold sm; simp
             rw [esm] at hsm
             have HVR := Lib.hid hvr
             have HFJ := Lib.hid hfj
             have HSMj := Lib.hid hsm
             have HRJ := Lib.hid hrj
             have HHV := Lib.hid hv
             clear hls hlj hrj hv hvr hrjd hfj hwl hsm esm
             obtain ⟨hpl, hml, c0, c1, c2, c3, c4, m0, m2, m3, m4⟩ := HC.out _ HSJ.out
             go_upto_region 36 with fail
             have hs : Same wr wr.drew := (Frm.refl _ _).drew
             cases lj with
             | false =>
              refine wp_phS (fun _ => False) [([0, 1], 2), ([3, 4, 5, 6, 7, 8, 9, 10, 11, 12, 13, 14, 15, 16, 17, 19, 20, 21, 22, 23, 24, 25, 26, 27, 28, 29, 30, 31, 32, 33], 18), ([34], 35)] (by kernel_rfl) (by kernel_rfl) ?_
              rw [wpPh_go_eq]
              simp only [pick, List.map_cons, List.map_nil, List.getD_cons_zero, List.getD_cons_succ]
              repeat go_big_quiet_step (fail)
              refine wpQuiet_nil ?_
              refine effStep_plain rfl fun K hK => ?_
              go_simp
              refine (HLJ.out _ (HSJ.out.trans hs (fun _ _ h => h))).mono ?_
              rintro e wy ⟨rfl, hsy⟩
              have hsy' := hs.trans hsy (fun _ _ h => h)
              refine hK _ _ (Lat.mk_ hsy') ?_
              clear hK K
              have HSY := Lib.hid (HSJ.out.trans hsy' (fun _ _ h => h))
              clear hsy hsy' hs
              rw [wpPh_go_eq]
              simp only [pick, List.map_cons, List.map_nil, List.getD_cons_zero, List.getD_cons_succ]
              repeat go_big_quiet_step (fail)
              rw [wpQuiet_nil_eq]
              rw [effStep_skip_eq]
              rotate_left
              ·rfl
              rw [wpPh_end_eq]
              simp only [pick, List.map_cons, List.map_nil, List.getD_cons_zero, List.getD_cons_succ, Act.put, List.setIfInBounds_toArray, List.set_cons_succ, List.set_cons_zero]
              repeat go_big_quiet_step (fail)
              rw [wpQuiet_nil_eq]
              go_wp2
              go_roundw
              case rel => exact ⟨j + 1, by omega, by go_num, HSY.out⟩
              case measure => simp [intOf] <;> omega
             | true =>
              have hfj := HFJ.out rfl
              obtain ⟨bj, hbj⟩ : ∃ z, decide (u.ws = v.ws) = z := ⟨_, rfl⟩
              rw [hbj] at HSMj hfj
              have HFJ2 := Lib.hid hfj
              clear hfj hbj
              obtain ⟨tb2, htb2, htbl, y0, y1⟩ := tab_at (HTAB.out _ HSJ.out).1 (HTAB.out _ HSJ.out).2 HHU.out
              obtain ⟨tb3, htb3, _, z0, z1⟩ := tab_at (HTAB.out _ HSJ.out).1 (HTAB.out _ HSJ.out).2 HHV.out
              rw [htb2] at htb3 c3
              injection htb3 with htb3
              injection htb3 with htb3
              subst htb3
              obtain ⟨rb2, hrb2, hrbl, d0⟩ := (HROW.out _ HSJ.out).at1 (c := rc) HHR.out
              obtain ⟨rb3, hrb3, _, d1⟩ := (HROW.out _ HSJ.out).at1 (c := rc) HRJ.out
              rw [hrb2] at hrb3 c2
              injection hrb3 with hrb3
              injection hrb3 with hrb3
              subst hrb3
              unfold rc at d0 d1
              clear htb2 hrb2
              refine wp_phS (fun _ => False) [([0, 1], 2), ([3, 4, 5, 6, 7, 8, 9, 10, 11, 12, 13, 14, 15, 16, 17, 19, 20, 21, 22, 23, 24, 25, 26, 27, 28, 29, 30, 31, 32, 33], 18), ([34], 35)] (by kernel_rfl) (by kernel_rfl) ?_
              rw [wpPh_go_eq]
              simp only [pick, List.map_cons, List.map_nil, List.getD_cons_zero, List.getD_cons_succ]
              repeat go_big_quiet_step (fail)
              refine wpQuiet_nil ?_
              refine effStep_plain rfl fun K hK => ?_
              go_simp
              refine (HLJ.out _ (HSJ.out.trans hs (fun _ _ h => h))).mono ?_
              rintro e wy ⟨rfl, hsy⟩
              have hsy' := hs.trans hsy (fun _ _ h => h)
              refine hK _ _ (Lat.mk_ hsy') ?_
              clear hK K
              have HSYX := Lib.hid hsy'
              have HSY := Lib.hid (HSJ.out.trans hsy' (fun _ _ h => h))
              clear hsy hsy' hs
              rw [wpPh_go_eq]
              simp only [pick, List.map_cons, List.map_nil, List.getD_cons_zero, List.getD_cons_succ]
              repeat go_big_quiet_step (fail)
              refine wpQuiet_nil ?_
              refine effStep_on (by rfl) fun K hK => ?_
              go_simp
              refine (HSMj.out _ HSY.out).mono ?_
              rintro e wz ⟨rfl, hsz⟩
              have HSZ := Lib.hid (HSY.out.trans hsz (fun _ _ h => h))
              refine hK _ _ (Lat.mk_ (HSYX.out.trans hsz (fun _ _ h => h))) ?_
              clear hK K hsz
              by_cases hrr : r = rj
              ·have hb : bj = true := by rw [HFJ2.out]; simpa using hrr
               subst hb
               subst hrr
               rw [wpPh_end_eq]
               simp only [pick, List.map_cons, List.map_nil, List.getD_cons_zero, List.getD_cons_succ]
               repeat go_big_quiet_step (fail)
               rw [wpQuiet_nil_eq]
               go_wp2
               go_roundw
               case rel => exact ⟨j + 1, by omega, by go_num, HSZ.out⟩
               case measure => simp [intOf] <;> omega
              ·have hb : bj = false := by rw [HFJ2.out]; simpa using hrr
               subst hb
               rw [wpPh_end_eq]
               simp only [pick, List.map_cons, List.map_nil, List.getD_cons_zero, List.getD_cons_succ]
               repeat go_big_quiet_step (fail)
               rw [wpQuiet_nil_eq]
               go_wp2
               go_roundw
               case rel => exact ⟨j + 1, by omega, by go_num, HSZ.out⟩
               case measure => simp [intOf] <;> omega
            ·obtain rfl : j = k := by omega
             have hI5 : ¬ (j : Int) < (j : Int) := by omega
             obtain ⟨hpl, hml, c0, c1, c2, c3, c4, m0, m2, m3, m4⟩ := HC.out _ HSJ.out
             go_wp2
             go_roundw
             case rel => exact ⟨j + 1, by omega, by go_num, HSJ.out⟩
             case measure => simp [intOf] <;> omega
        ·obtain rfl : k = p.ts.length := by omega
         have hI4 : ¬ ((p.ts.length : Nat) : Int) < (p.ts.length : Int) := by omega
         go_wp2
         go_ret
         obtain ⟨q9, h9⟩ := HFIN.out
         exact ⟨rfl, ⟨q9, h9.same HSK4.out⟩, HUF.out.trans (Up.ofSame HSK4.out)⟩
end
end Go.Proofs.YtiomgckodmecbaaGreat


/- The law's play: the four calls of awake. -/
namespace Go.Proofs.YtiomgckodmecbaaGreat
open Go.RowKit Go.Tk
set_option maxRecDepth 100000
theorem ki_st0 : KI st0.k := ki_new (n := 2) (c := 5) (by decide) (by decide) (by decide) (by decide)
theorem st1_k : st1.k = (makeK st0.k (mkNd st0 1 0 1)).2.2 := by
 unfold st1 countP makeP
 split <;> rfl
theorem st2_k : st2.k = (makeK st1.k (mkNd st1 0 0 2)).2.2 := by
 unfold st2 countP makeP
 split <;> rfl
theorem ki_st1 : KI st1.k := by
 rw [st1_k]
 exact ki_make ki_st0 (by decide +kernel) (by decide +kernel)
theorem ki_st2 : KI st2.k := by
 rw [st2_k]
 exact ki_make ki_st1 (by decide +kernel) (by decide +kernel)
theorem ki_st3 : KI st3.k := ki_drop ki_st2 (by decide +kernel)
/-- what a play needs for its calls, beside KI -/
structure PC (p : PS) : Prop where
 ord : OrdOk p.m
 hc : HcOk p.m
 hh : p.m.held.length < 1500000
 hd : p.dead.length = p.ts.length
 hr : p.refs.length = p.ts.length
 hll : p.live.length ≤ 2097152000000
 hrg : ∀ x ∈ p.refs, 0 ≤ x ∧ x < 4294967296
 htl : p.ts.length ≤ 4000000000000
 hon : p.m.ord.length = p.m.n
 htm : p.m.tr.length < 10000000000000
theorem pc_st0 : PC st0 := ⟨by unfold OrdOk; decide +kernel, by unfold HcOk; decide +kernel, by decide +kernel, by decide +kernel, by decide +kernel, by decide +kernel, by decide +kernel, by decide +kernel, by decide +kernel, by decide +kernel⟩
theorem pc_st1 : PC st1 := ⟨by unfold OrdOk; decide +kernel, by unfold HcOk; decide +kernel, by decide +kernel, by decide +kernel, by decide +kernel, by decide +kernel, by decide +kernel, by decide +kernel, by decide +kernel, by decide +kernel⟩
theorem pc_st2 : PC st2 := ⟨by unfold OrdOk; decide +kernel, by unfold HcOk; decide +kernel, by decide +kernel, by decide +kernel, by decide +kernel, by decide +kernel, by decide +kernel, by decide +kernel, by decide +kernel, by decide +kernel⟩
theorem pc_st3 : PC st3 := ⟨by unfold OrdOk; decide +kernel, by unfold HcOk; decide +kernel, by decide +kernel, by decide +kernel, by decide +kernel, by decide +kernel, by decide +kernel, by decide +kernel, by decide +kernel, by decide +kernel⟩
/-- the calls, and what stands ahead of each -/
def opsA : List (Int × Int × Int × Int) := [(1, 1, 0, 1), (1, 0, 0, 2), (3, 2, 0, 0), (4, 0, 0, 0)]
def opc (o : Int × Int × Int × Int) : List Value := [.int .i64 o.1, .int .i64 o.2.1, .int .i64 o.2.2.1, .int .i64 o.2.2.2]
theorem opc_len (o : Int × Int × Int × Int) : (opc o).length = 4 := rfl
def preA : Nat → PS
 | 0 => beginP 2 5
 | 1 => makeP st0 1 0 1
 | 2 => makeP st1 0 0 2
 | 3 => dropP st2 2
 | _ => exchP st3 0
theorem ord_pre (k : Nat) : OrdOk (preA k).m := by
 match k with
 | 0 => unfold OrdOk; decide +kernel
 | 1 => unfold OrdOk; decide +kernel
 | 2 => unfold OrdOk; decide +kernel
 | 3 => unfold OrdOk; decide +kernel
 | _ + 4 => unfold OrdOk; show ∀ v ∈ (exchP st3 0).m.ord, 0 ≤ v ∧ v < (exchP st3 0).m.n; decide +kernel
section
variable {w w' : World} {B : Nat → Prop} {pp : Nat} {q : PA}
abbrev DoesTo (B : Nat → Prop) (w : World) (pp : Nat) (p' : PS) (e : Ending) (w' : World) : Prop := e = .returned (.bool true) ∧ (∃ q', PW B w' pp p' q') ∧ Up B w w'
theorem step0 (hP : PW B w pp st0 q) (hB : ∀ b, B b → b < w.heap.size) :
  Calls Tryz.prog 31 #[.pointer (some ⟨pp, 0, none⟩), .agg #[.int .i64 1, .int .i64 1, .int .i64 0, .int .i64 1]] w (DoesTo B w pp (makeP st0 1 0 1)) := by
 refine (does_make pp 1 0 1 (fun w' _ w'' => (∃ q', PW B w'' pp (makeP st0 1 0 1) q') ∧ Up B w' w'') (fun w' hs => ?_)).mono ?_
 ·exact make_law (hP.same hs) (fun b hb => Nat.lt_of_lt_of_le (hB b hb) hs.size) ki_st0 pc_st0.ord pc_st0.hc pc_st0.hh pc_st0.hd pc_st0.hr pc_st0.hll pc_st0.hrg pc_st0.htl 1 1 0 1 run_l0.1 run_l0.2 run_a1 (fun h => absurd run_n1.2.2 h) run_n1.1 run_n1.2.1
 ·rintro e w'' ⟨rfl, w', hs, hq, hu⟩
  exact ⟨rfl, hq, (Up.ofSame hs).trans hu⟩
theorem step1 (hP : PW B w pp st1 q) (hB : ∀ b, B b → b < w.heap.size) :
  Calls Tryz.prog 31 #[.pointer (some ⟨pp, 0, none⟩), .agg #[.int .i64 1, .int .i64 0, .int .i64 0, .int .i64 2]] w (DoesTo B w pp (makeP st1 0 0 2)) := by
 refine (does_make pp 0 0 2 (fun w' _ w'' => (∃ q', PW B w'' pp (makeP st1 0 0 2) q') ∧ Up B w' w'') (fun w' hs => ?_)).mono ?_
 ·exact make_law (hP.same hs) (fun b hb => Nat.lt_of_lt_of_le (hB b hb) hs.size) ki_st1 pc_st1.ord pc_st1.hc pc_st1.hh pc_st1.hd pc_st1.hr pc_st1.hll pc_st1.hrg pc_st1.htl 1 0 0 2 run_l1.1 run_l1.2 run_a2 (fun h => absurd run_n2.2.2 h) run_n2.1 run_n2.2.1
 ·rintro e w'' ⟨rfl, w', hs, hq, hu⟩
  exact ⟨rfl, hq, (Up.ofSame hs).trans hu⟩
theorem step2 (hP : PW B w pp st2 q) (hB : ∀ b, B b → b < w.heap.size) :
  Calls Tryz.prog 31 #[.pointer (some ⟨pp, 0, none⟩), .agg #[.int .i64 3, .int .i64 2, .int .i64 0, .int .i64 0]] w (DoesTo B w pp (dropP st2 2)) :=
 does_drop hP hB ki_st2.bk pc_st2.hc pc_st2.hd pc_st2.hr pc_st2.hll pc_st2.hrg 2 0 0 run_l2 run_a3 run_n3.1 run_n3.2
theorem step3 (hP : PW B w pp st3 q) (hB : ∀ b, B b → b < w.heap.size) :
  Calls Tryz.prog 31 #[.pointer (some ⟨pp, 0, none⟩), .agg #[.int .i64 4, .int .i64 0, .int .i64 0, .int .i64 0]] w (DoesTo B w pp (exchP st3 0)) := by
 refine does_exch hP hB 0 0 0 (by decide +kernel) (fun _ h1 => ?_) (by decide +kernel) pc_st3.ord pc_st3.hon pc_st3.htm run_a4 run_n4.1 run_n4.2
 obtain ⟨x, y, h⟩ := xy_of (l := (0 : Int).toNat) ki_st3 (by decide +kernel)
 exact ⟨x, y, turn_ok h ki_st3⟩
theorem step_law (k : Nat) (o : Int × Int × Int × Int) (ho : opsA[k]? = some o) (hP : PW B w pp (countP (preA k)) q) (hB : ∀ b, B b → b < w.heap.size) :
  Calls Tryz.prog 31 #[.pointer (some ⟨pp, 0, none⟩), .agg #[.int .i64 o.1, .int .i64 o.2.1, .int .i64 o.2.2.1, .int .i64 o.2.2.2]] w (DoesTo B w pp (preA (k + 1))) := by
 match k with
 | 0 => injection ho with ho; subst ho; exact step0 hP hB
 | 1 => injection ho with ho; subst ho; exact step1 hP hB
 | 2 => injection ho with ho; subst ho; exact step2 hP hB
 | 3 => injection ho with ho; subst ho; exact step3 hP hB
 | _ + 4 => cases ho
end
theorem run_look5 : lookB (exchP st3 0) = true := by decide +kernel
end Go.Proofs.YtiomgckodmecbaaGreat


/- The law's play: awake. -/
namespace Go.Proofs.YtiomgckodmecbaaGreat
open Go.RowKit Go.Tk
section
variable {w w' : World} {B : Nat → Prop} {pp : Nat} {p : PS} {q : PA}
theorem Up.kept {g : Nat} {ty : TypeId} {cs : Array Value} (h : Up B w w') (hb : Blk w g ty cs) (hg : B g) : Blk w' g ty cs := hb.frm h (fun hn => hn hg)
set_option maxRecDepth 100000
theorem ki_st5 : KI (exchP st3 0).k := ki_exch ki_st3 0
theorem pc_st5 : PC (exchP st3 0) := ⟨by unfold OrdOk; decide +kernel, by unfold HcOk; decide +kernel, by decide +kernel, by decide +kernel, by decide +kernel, by decide +kernel, by decide +kernel, by decide +kernel, by decide +kernel, by decide +kernel⟩
theorem st5_len : (exchP st3 0).refs.length = 4 := by decide +kernel
theorem st5_tr : (exchP st3 0).k.tr.length = 1 := by decide +kernel
theorem st5_ac : (exchP st3 0).k.ac = 4 := by decide +kernel
theorem st5_ord : (exchP st3 0).k.ord.length ≤ 64 := by decide +kernel
set_option maxRecDepth 100000 in
set_option maxHeartbeats 8000000 in
theorem awake9_law (w : World) : Calls Tryz.prog 12 #[] w fun e w' => e = .returned (.bool true) ∧ Same w w' := by
 have hbg := begin_law 2 5 (by decide) (by decide) (by decide) (by decide) w
 have HBG := Lib.hid hbg
 clear hbg
 go_enter Tryz.func12, Tryz.ntmps12
 go_wp2_with (fail)
 refine HBG.out.mono ?_
 rintro e w1 ⟨pp, q1, rfl, hP1, hs1⟩
 have HP1 := Lib.hid hP1
 have HS1 := Lib.hid hs1
 clear hP1 hs1
 go_wp2_with (fail)
 refine wp_world fun w2 hw2 => ?_
 have hSB := Blk.new w1 60 #[.int .i64 1, .int .i64 1, .int .i64 0, .int .i64 1, .int .i64 1, .int .i64 0, .int .i64 0, .int .i64 2, .int .i64 3, .int .i64 2, .int .i64 0, .int .i64 0, .int .i64 4, .int .i64 0, .int .i64 0, .int .i64 0]
 have hs2 : Same w1 w2 := by rw [hw2]; exact (Frm.refl _ _).alloc _
 rw [← hw2] at hSB
 clear hw2
 have hP2 : PW (fun b => b < w.heap.size ∨ b = w1.heap.size) w2 pp (beginP 2 5) q1 := (HP1.out.same hs2).keepB (fun b hb hn => by
  rcases hn with hn | hn
  ·exact HP1.out.base b hb hn
  ·have := HP1.out.all_lt b hb
   omega)
 have hW1 := HS1.out.size
 obtain ⟨SB, hSBe⟩ : ∃ z, w1.heap.size = z := ⟨_, rfl⟩
 rw [hSBe] at hSB hP2 ⊢
 have hS12 : Same w w2 := HS1.out.trans hs2 (fun _ _ h => h)
 have hB2 : ∀ b, (b < w.heap.size ∨ b = SB) → b < w2.heap.size := fun b hb => by
  have := hSB.lt
  have := hs2.size
  omega
 have HSB := Lib.hid hSB
 have HP2 := Lib.hid hP2
 have HS12 := Lib.hid hS12
 have HB2 := Lib.hid hB2
 clear hSB hP2 hS12 hB2 hs2 hSBe hW1
 go_loopw [17] (fun i wr => ∃ k : Nat, k ≤ 4 ∧ i = .int .i64 k ∧ (∃ q', PW (fun b => b < w.heap.size ∨ b = SB) wr pp (preA k) q') ∧ Up (fun b => b < w.heap.size ∨ b = SB) w2 wr) (fun i _ => 4 - (intOf i).toNat)
 case atStart => exact ⟨0, by omega, rfl, ⟨q1, HP2.out⟩, Frm.refl _ _⟩
 case round =>
  obtain ⟨k, hk, rfl, ⟨q', hPr⟩, hU⟩ := hrel
  have hSBr := hU.kept HSB.out (.inr rfl)
  have hBr : ∀ b, (b < w.heap.size ∨ b = SB) → b < wr.heap.size := fun b hb => Nat.lt_of_lt_of_le (HB2.out b hb) hU.size
  by_cases hlt : k < 4
  ·have hI : (k : Int) < 4 := by omega
   obtain ⟨o, ho⟩ : ∃ o, opsA[k]? = some o := ⟨_, List.getElem?_eq_getElem (by exact hlt)⟩
   have hrow : Go.Tk.Own wr 60 4 opc (some ⟨SB, 0, none⟩) opsA.length opsA.length opsA := Own.ofBlk opc_len hSBr opsA (by decide) rfl
   obtain ⟨b', hb', hbl, hc⟩ := hrow.get opc_len ho
   injection hb' with hb'
   injection hb' with hb'
   subst hb'
   have c0 : wr.cell? ⟨SB, k * 4, none⟩ = some (.int .i64 o.1) := hc 0 (by omega)
   have c1 : wr.cell? ⟨SB, k * 4 + 1, none⟩ = some (.int .i64 o.2.1) := hc 1 (by omega)
   have c2 : wr.cell? ⟨SB, k * 4 + 2, none⟩ = some (.int .i64 o.2.2.1) := hc 2 (by omega)
   have c3 : wr.cell? ⟨SB, k * 4 + 3, none⟩ = some (.int .i64 o.2.2.2) := hc 3 (by omega)
   have HO := Lib.hid ho
   have HPR := Lib.hid hPr
   have HU := Lib.hid hU
   have HBR := Lib.hid hBr
   clear ho hPr hU hBr hrow hSBr hc
   go_upto_region 7 with fail
   refine wp_world fun w3 hw3 => ?_
   have hT := Blk.new wr 60 #[.int .i64 o.1, .int .i64 o.2.1, .int .i64 o.2.2.1, .int .i64 o.2.2.2]
   have hs3 : Same wr w3 := by rw [hw3]; exact (Frm.refl _ _).alloc _
   rw [← hw3] at hT
   clear hw3
   have hP3 : PW (fun b => (b < w.heap.size ∨ b = SB) ∨ b = wr.heap.size) w3 pp (preA k) q' := (HPR.out.same hs3).keepB (fun b hb hn => by
    rcases hn with hn | hn
    ·exact HPR.out.base b hb hn
    ·have := HPR.out.all_lt b hb
     omega)
   have hB3 : ∀ b, ((b < w.heap.size ∨ b = SB) ∨ b = wr.heap.size) → b < w3.heap.size := fun b hb => by
    have := hT.lt
    have := hs3.size
    rcases hb with hb | hb
    ·have := HBR.out b hb
     omega
    ·omega
   have hU3 : Up (fun b => b < w.heap.size ∨ b = SB) w2 w3 := HU.out.trans (Up.ofSame hs3)
   have hcl := count_law hP3 (ord_pre k) hB3
   have HCL := Lib.hid hcl
   have HB3 := Lib.hid hB3
   have HT := Lib.hid hT
   have HU3 := Lib.hid hU3
   clear hT hs3 hP3 hB3 hU3 hcl c0 c1 c2 c3 hbl HPR HU HBR
   go_wp2_with (fail)
   refine HCL.out.mono ?_
   rintro e w4 ⟨rfl, ⟨q4, hP4⟩, hU4⟩
   have hT4 := hU4.kept HT.out (.inr rfl)
   have hB4 : ∀ b, ((b < w.heap.size ∨ b = SB) ∨ b = wr.heap.size) → b < w4.heap.size := fun b hb => Nat.lt_of_lt_of_le (HB3.out b hb) hU4.size
   have hst := step_law k o HO.out hP4 hB4
   have HST := Lib.hid hst
   have hU24 : Up (fun b => b < w.heap.size ∨ b = SB) w2 w4 := HU3.out.trans (Frm.mono hU4 (fun b _ hn hb => hn (.inl hb)))
   have HU4 := Lib.hid hU24
   have t0 := hT4.cell 0
   have t1 := hT4.cell 1
   have t2 := hT4.cell 2
   have t3 := hT4.cell 3
   have tl := hT4.lt
   simp at t0 t1 t2 t3
   clear hP4 hU4 hT4 hB4 hst hU24
   go_wp2_with (fail)
   refine HST.out.mono ?_
   rintro e w5 ⟨rfl, ⟨q5, hP5⟩, hU5⟩
   have HP5 := Lib.hid (hP5.keepB (B' := fun b => b < w.heap.size ∨ b = SB) (fun b hb hn => hP5.base b hb (.inl hn)))
   have HU5 := Lib.hid (show Up (fun b => b < w.heap.size ∨ b = SB) w2 w5 from HU4.out.trans (Frm.mono hU5 (fun b _ hn hb => hn (.inl hb))))
   clear hP5 hU5 t0 t1 t2 t3 tl
   go_wp2
   go_roundw
   case rel => exact ⟨k + 1, by omega, by go_num, ⟨q5, HP5.out⟩, HU5.out⟩
   case measure => simp [intOf] <;> omega
  ·obtain rfl : k = 4 := by omega
   have hP5 : PW (fun b => b < w.heap.size ∨ b = SB) wr pp (exchP st3 0) q' := hPr
   have hlk := looks_law hP5 hBr ki_st5 (rng_ki ki_st5) pc_st5.ord pc_st5.hd pc_st5.hr pc_st5.hrg pc_st5.htl st5_ord (by rw [st5_ac] <;> decide) (look_facts run_look5)
   have HLK := Lib.hid hlk
   have c2 := hP5.c2
   rw [st5_len] at c2
   have hpl := hP5.blk.lt
   have HU := Lib.hid hU
   clear hPr hP5 hlk hBr hSBr hU
   go_wp2_with (fail)
   refine HLK.out.mono ?_
   rintro e w6 ⟨rfl, ⟨q6, hP6⟩, hU6⟩
   clear c2 hpl
   have hlv : Calls Tryz.prog 18 #[.pointer (some ⟨q6.kp, 0, none⟩)] w6 fun e w'' => e = .returned (.int .i64 2) ∧ w6 = w'' := by
    have h := klive2_any hP6.k (by rw [show (lookP (exchP st3 0)).k.ac = 4 from st5_ac] <;> decide)
    rw [show (((lookP (exchP st3 0)).k.ac : Nat) : Int) - 2 = 2 from by rw [show (lookP (exchP st3 0)).k.ac = 4 from st5_ac]; rfl] at h
    exact h
   have htr : Calls Tryz.prog 35 #[.pointer (some ⟨q6.kp, 0, none⟩)] w6 fun e w'' => e = .returned (.int .i64 1) ∧ w6 = w'' := by
    have h := ktrail_any hP6.k
    rw [show (lookP (exchP st3 0)).k.tr.length = 1 from st5_tr] at h
    exact h
   have hpl := hP6.blk.lt
   have c0 := hP6.c0
   have HLV := Lib.hid hlv
   have HTR := Lib.hid htr
   have hfin : Same w w6 := by
    have h1 := HU.out.trans hU6
    exact HS12.out.trans (Frm.mono h1 (fun b _ h => h)) (fun b hb hn => hn (.inl hb))
   have HFIN := Lib.hid hfin
   clear hlv htr hP6 hU6 hfin
   go_wp2_with (fail)
   refine HLV.out.mono ?_
   rintro e w7 ⟨rfl, rfl⟩
   go_wp2_with (fail)
   refine HTR.out.mono ?_
   rintro e w7 ⟨rfl, rfl⟩
   go_wp2
   go_ret
   exact ⟨rfl, HFIN.out⟩
end
end Go.Proofs.YtiomgckodmecbaaGreat


/- The calls of a nil kernel. -/
namespace Go.Proofs.YtiomgckodmecbaaGreat
open Go.RowKit Go.Tk

theorem kn_vars_nil (w : World) : Calls Tryz.prog 29 #[.pointer none] w fun e w' => e = .returned (.int .i64 0) ∧ Same w w' := by
 go_enter Tryz.func29, Tryz.ntmps29
 go_wp2
 first | go_ret | go_ret2 | go_end0
 exact ⟨rfl, by first | exact Frm.refl _ _ | exact (Frm.refl _ _).alloc _⟩
theorem kn_nodes_nil (w : World) : Calls Tryz.prog 30 #[.pointer none] w fun e w' => e = .returned (.int .i64 0) ∧ Same w w' := by
 go_enter Tryz.func30, Tryz.ntmps30
 go_wp2
 first | go_ret | go_ret2 | go_end0
 exact ⟨rfl, by first | exact Frm.refl _ _ | exact (Frm.refl _ _).alloc _⟩
theorem kn_order_nil (w : World) : Calls Tryz.prog 25 #[.pointer none] w fun e w' => e = .returned (.slice none 0 0) ∧ Same w w' := by
 go_enter Tryz.func25, Tryz.ntmps25
 go_wp2
 first | go_ret | go_ret2 | go_end0
 exact ⟨rfl, by first | exact Frm.refl _ _ | exact (Frm.refl _ _).alloc _⟩
theorem kn_level_nil (v : Int) (w : World) : Calls Tryz.prog 33 #[.pointer none, .int .i64 v] w fun e w' => e = .returned (.tuple #[.int .i64 0, .int .i64 10]) ∧ Same w w' := by
 go_enter Tryz.func33, Tryz.ntmps33
 go_wp2
 first | go_ret | go_ret2 | go_end0
 exact ⟨rfl, by first | exact Frm.refl _ _ | exact (Frm.refl _ _).alloc _⟩
theorem kn_make_nil (v lo hi : Int) (w : World) : Calls Tryz.prog 14 #[.pointer none, .int .i64 v, .int .u32 lo, .int .u32 hi] w fun e w' => e = .returned (.tuple #[.int .u32 0, .int .i64 10]) ∧ Same w w' := by
 go_enter Tryz.func14, Tryz.ntmps14
 go_wp2
 first | go_ret | go_ret2 | go_end0
 exact ⟨rfl, by first | exact Frm.refl _ _ | exact (Frm.refl _ _).alloc _⟩
theorem kn_find_nil (v lo hi : Int) (w : World) : Calls Tryz.prog 16 #[.pointer none, .int .i64 v, .int .u32 lo, .int .u32 hi] w fun e w' => e = .returned (.tuple #[.int .u32 0, .bool false]) ∧ Same w w' := by
 go_enter Tryz.func16, Tryz.ntmps16
 go_wp2
 first | go_ret | go_ret2 | go_end0
 exact ⟨rfl, by first | exact Frm.refl _ _ | exact (Frm.refl _ _).alloc _⟩
theorem kn_node_nil (r : Int) (w : World) : Calls Tryz.prog 20 #[.pointer none, .int .u32 r] w fun e w' => e = .returned (.tuple #[.agg #[.int .i64 0, .int .u32 0, .int .u32 0], .int .i64 10]) ∧ Same w w' := by
 go_enter Tryz.func20, Tryz.ntmps20
 go_wp2
 have hb := Blk.new w 37 #[.int .i64 0, .int .u32 0, .int .u32 0]
 have d0 := (hb.cell 0).trans (show _ = some (.int .i64 0) from rfl)
 have d1 := (hb.cell 1).trans (show _ = some (.int .u32 0) from rfl)
 have d2 := (hb.cell 2).trans (show _ = some (.int .u32 0) from rfl)
 refine bodyPost_ret (v := .tuple #[.agg #[.int .i64 0, .int .u32 0, .int .u32 0], .int .i64 10]) (by simp [results, Tryz.results20, go_sem, d0, d1, d2]) rfl ?_
 exact ⟨rfl, by first | exact Frm.refl _ _ | exact (Frm.refl _ _).alloc _⟩
theorem kn_keep_nil (r : Int) (w : World) : Calls Tryz.prog 15 #[.pointer none, .int .u32 r] w fun e w' => e = .returned (.int .i64 10) ∧ Same w w' := by
 go_enter Tryz.func15, Tryz.ntmps15
 go_wp2
 first | go_ret | go_ret2 | go_end0
 exact ⟨rfl, by first | exact Frm.refl _ _ | exact (Frm.refl _ _).alloc _⟩
theorem kn_drop_nil (r : Int) (w : World) : Calls Tryz.prog 19 #[.pointer none, .int .u32 r] w fun e w' => e = .returned (.int .i64 10) ∧ Same w w' := by
 go_enter Tryz.func19, Tryz.ntmps19
 go_wp2
 first | go_ret | go_ret2 | go_end0
 exact ⟨rfl, by first | exact Frm.refl _ _ | exact (Frm.refl _ _).alloc _⟩
theorem kn_held_nil (r : Int) (w : World) : Calls Tryz.prog 17 #[.pointer none, .int .u32 r] w fun e w' => e = .returned (.int .i64 0) ∧ Same w w' := by
 go_enter Tryz.func17, Tryz.ntmps17
 go_wp2
 first | go_ret | go_ret2 | go_end0
 exact ⟨rfl, by first | exact Frm.refl _ _ | exact (Frm.refl _ _).alloc _⟩
theorem kn_roots_nil (w : World) : Calls Tryz.prog 22 #[.pointer none] w fun e w' => e = .returned (.slice none 0 0) ∧ Same w w' := by
 go_enter Tryz.func22, Tryz.ntmps22
 go_wp2
 first | go_ret | go_ret2 | go_end0
 exact ⟨rfl, by first | exact Frm.refl _ _ | exact (Frm.refl _ _).alloc _⟩
theorem kn_live_nil (w : World) : Calls Tryz.prog 18 #[.pointer none] w fun e w' => e = .returned (.int .i64 0) ∧ Same w w' := by
 go_enter Tryz.func18, Tryz.ntmps18
 go_wp2
 first | go_ret | go_ret2 | go_end0
 exact ⟨rfl, by first | exact Frm.refl _ _ | exact (Frm.refl _ _).alloc _⟩
theorem kn_width_nil (v : Int) (w : World) : Calls Tryz.prog 32 #[.pointer none, .int .i64 v] w fun e w' => e = .returned (.tuple #[.int .i64 0, .int .i64 10]) ∧ Same w w' := by
 go_enter Tryz.func32, Tryz.ntmps32
 go_wp2
 first | go_ret | go_ret2 | go_end0
 exact ⟨rfl, by first | exact Frm.refl _ _ | exact (Frm.refl _ _).alloc _⟩
theorem kn_collect_nil (w : World) : Calls Tryz.prog 34 #[.pointer none] w fun e w' => e = .returned (.tuple #[]) ∧ Same w w' := by
 go_enter Tryz.func34, Tryz.ntmps34
 go_wp2
 first | go_ret | go_ret2 | go_end0
 exact ⟨rfl, by first | exact Frm.refl _ _ | exact (Frm.refl _ _).alloc _⟩
theorem kn_trail_nil (w : World) : Calls Tryz.prog 35 #[.pointer none] w fun e w' => e = .returned (.int .i64 0) ∧ Same w w' := by
 go_enter Tryz.func35, Tryz.ntmps35
 go_wp2
 first | go_ret | go_ret2 | go_end0
 exact ⟨rfl, by first | exact Frm.refl _ _ | exact (Frm.refl _ _).alloc _⟩
theorem kn_exchange_nil (l : Int) (w : World) : Calls Tryz.prog 24 #[.pointer none, .int .i64 l] w fun e w' => e = .returned (.int .i64 10) ∧ Same w w' := by
 go_enter Tryz.func24, Tryz.ntmps24
 go_wp2
 first | go_ret | go_ret2 | go_end0
 exact ⟨rfl, by first | exact Frm.refl _ _ | exact (Frm.refl _ _).alloc _⟩
theorem kn_undo_nil (w : World) : Calls Tryz.prog 26 #[.pointer none] w fun e w' => e = .returned (.tuple #[.int .i64 0, .int .i64 10]) ∧ Same w w' := by
 go_enter Tryz.func26, Tryz.ntmps26
 go_wp2
 first | go_ret | go_ret2 | go_end0
 exact ⟨rfl, by first | exact Frm.refl _ _ | exact (Frm.refl _ _).alloc _⟩
end Go.Proofs.YtiomgckodmecbaaGreat


/- KernelNews walked (printed by gen/knnews.py). -/
namespace Go.Proofs.YtiomgckodmecbaaGreat
open Go.RowKit Go.Tk
theorem exch_new_bad {n c : Nat} {l : Int} (h : l < 0 ∨ (n : Int) - 2 < l) : exchK (newK n c) l = (1, newK n c) := by
 unfold exchK
 have h' : l < 0 ∨ ((newK n c).n : Int) - 2 < l := h
 rw [if_pos h']
theorem turn_new {n c : Nat} (h : 2 ≤ c) (l : Nat) : turnK (newK n c) l = (true, swapK (newK n c) l ((rng n).getD l 0) ((rng n).getD (l + 1) 0)) := by
 have h1 : ∀ x y, crsT (newK n c) x y = [] := fun x y => by
  unfold crsT
  have : ofv (newK n c).L x.toNat = [] := rfl
  rw [this, show rising [] = [] from by unfold rising; simp]
  rfl
 unfold turnK turnR turnT
 rw [h1]
 have h2 : (newK n c).ac + (freshL (newK n c) ((newK n c).ord.getD l 0) []).length ≤ (newK n c).c := h
 rw [if_pos (by rw [decide_eq_true_eq]; exact h2)]
 rfl
theorem exch_new_ok {n c : Nat} {l : Int} (hc : 2 ≤ c) (h0 : 0 ≤ l) (h1 : l ≤ (n : Int) - 2) : (exchK (newK n c) l).1 = 0 ∧ (exchK (newK n c) l).2.tr.length = 1 ∧ (exchK (newK n c) l).2.ord = swp (rng n) l.toNat := by
 unfold exchK
 rw [if_neg (show ¬ (l < 0 ∨ ((newK n c).n : Int) - 2 < l) from fun h => by
  have : ((newK n c).n : Int) = n := rfl
  omega), turn_new hc]
 exact ⟨rfl, rfl, rfl⟩
theorem knew_kept {w w1 w2 : World} {n kp : Nat} {a a' : KA} (hs : Same w w1) (hg : KGo n kp w1 a w2 a') (hf : ∀ b, KFp n kp a b → w.heap.size ≤ b) : Same w w2 :=
 hs.trans hg.frm (fun b hb hk => by
  have := hf b hk
  omega)
section
variable {w w' : World}
set_option maxRecDepth 100000 in
set_option maxHeartbeats 16000000 in
theorem kernelNews_any (v c l : Int) (w : World) : Calls Tryz.prog 6 #[.int .i64 v, .int .i64 c, .int .i64 l] w fun e w' => e = .returned (.bool true) ∧ Same w w' := by
 go_enter Tryz.func6, Tryz.ntmps6
 go_wp2_with (fail)
 refine (awake9_law _).mono ?_
 rintro e w1 ⟨rfl, hs1⟩
 have HS := Lib.hid hs1
 clear hs1
 go_wp2_with (fail)
 refine (kn_make_nil 0 0 1 _).mono ?_
 rintro e w2 ⟨rfl, hs⟩
 replace HS := Lib.hid (HS.out.trans hs (fun _ _ h => h))
 clear hs
 go_wp2_with (fail)
 refine (kn_node_nil 0 _).mono ?_
 rintro e w3 ⟨rfl, hs⟩
 replace HS := Lib.hid (HS.out.trans hs (fun _ _ h => h))
 clear hs
 go_wp2_with (fail)
 refine (kn_undo_nil _).mono ?_
 rintro e w4 ⟨rfl, hs⟩
 replace HS := Lib.hid (HS.out.trans ((Frm.refl _ _).alloc _ |>.trans hs (fun _ _ h => h)) (fun _ _ h => h))
 clear hs
 go_wp2_with (fail)
 refine (kn_width_nil l _).mono ?_
 rintro e w5 ⟨rfl, hs⟩
 replace HS := Lib.hid (HS.out.trans hs (fun _ _ h => h))
 clear hs
 go_wp2_with (fail)
 refine (kn_level_nil l _).mono ?_
 rintro e w6 ⟨rfl, hs⟩
 replace HS := Lib.hid (HS.out.trans hs (fun _ _ h => h))
 clear hs
 go_wp2_with (fail)
 refine (kn_find_nil 0 0 0 _).mono ?_
 rintro e w7 ⟨rfl, hs⟩
 replace HS := Lib.hid (HS.out.trans hs (fun _ _ h => h))
 clear hs
 go_wp2_with (fail)
 refine (kn_collect_nil _).mono ?_
 rintro e w8 ⟨rfl, hs⟩
 replace HS := Lib.hid (HS.out.trans hs (fun _ _ h => h))
 clear hs
 go_wp2_with (fail)
 refine (kn_keep_nil 1 _).mono ?_
 rintro e w9 ⟨rfl, hs⟩
 replace HS := Lib.hid (HS.out.trans hs (fun _ _ h => h))
 clear hs
 go_wp2_with (fail)
 refine (kn_drop_nil 0 _).mono ?_
 rintro e w10 ⟨rfl, hs⟩
 replace HS := Lib.hid (HS.out.trans hs (fun _ _ h => h))
 clear hs
 go_wp2_with (fail)
 refine (kn_exchange_nil l _).mono ?_
 rintro e w11 ⟨rfl, hs⟩
 replace HS := Lib.hid (HS.out.trans hs (fun _ _ h => h))
 clear hs
 go_wp2_with (fail)
 refine (kn_vars_nil _).mono ?_
 rintro e w12 ⟨rfl, hs⟩
 replace HS := Lib.hid (HS.out.trans hs (fun _ _ h => h))
 clear hs
 go_wp2_with (fail)
 refine (kn_nodes_nil _).mono ?_
 rintro e w13 ⟨rfl, hs⟩
 replace HS := Lib.hid (HS.out.trans hs (fun _ _ h => h))
 clear hs
 go_wp2_with (fail)
 refine (kn_live_nil _).mono ?_
 rintro e w14 ⟨rfl, hs⟩
 replace HS := Lib.hid (HS.out.trans hs (fun _ _ h => h))
 clear hs
 go_wp2_with (fail)
 refine (kn_trail_nil _).mono ?_
 rintro e w15 ⟨rfl, hs⟩
 replace HS := Lib.hid (HS.out.trans hs (fun _ _ h => h))
 clear hs
 go_wp2_with (fail)
 refine (kn_held_nil 1 _).mono ?_
 rintro e w16 ⟨rfl, hs⟩
 replace HS := Lib.hid (HS.out.trans hs (fun _ _ h => h))
 clear hs
 go_wp2_with (fail)
 refine (kn_order_nil _).mono ?_
 rintro e w17 ⟨rfl, hs⟩
 replace HS := Lib.hid (HS.out.trans hs (fun _ _ h => h))
 clear hs
 go_wp2_with (fail)
 refine (kn_roots_nil _).mono ?_
 rintro e w18 ⟨rfl, hs⟩
 replace HS := Lib.hid (HS.out.trans hs (fun _ _ h => h))
 clear hs
 by_cases hb : v < 1 ∨ 64 < v ∨ c < 2 ∨ 1048576 < c
 ·go_wp2_with (fail)
  refine (knew_bad v c hb).mono ?_
  rintro e wa ⟨rfl, hs⟩
  replace HS := Lib.hid (HS.out.trans hs (fun _ _ h => h))
  clear hs
  go_wp2_with (fail)
  refine (docNew_bad v c _ hb).mono ?_
  rintro e wb ⟨rfl, hs⟩
  replace HS := Lib.hid (HS.out.trans hs (fun _ _ h => h))
  clear hs
  go_wp2_with (fail)
  refine (docNew_bad v c _ hb).mono ?_
  rintro e wd ⟨rfl, hs⟩
  replace HS := Lib.hid (HS.out.trans hs (fun _ _ h => h))
  clear hs
  go_wp2
  go_ret
  exact ⟨rfl, HS.out⟩
 ·obtain ⟨N, rfl⟩ := Int.eq_ofNat_of_zero_le (show 0 ≤ v by omega)
  obtain ⟨M, rfl⟩ := Int.eq_ofNat_of_zero_le (show 0 ≤ c by omega)
  have n1 : 1 ≤ N := by omega
  have n64 : N ≤ 64 := by omega
  have m2 : 2 ≤ M := by omega
  have mM : M ≤ 1048576 := by omega
  have hK := ki_new (n := N) (c := M) n1 n64 m2 mM
  have HK := Lib.hid hK
  clear hK
  go_wp2_with (fail)
  refine (knew_any (w := w18) N M n1 n64 m2 mM).mono ?_
  rintro e wa ⟨kp, a, rfl, hk, hs, hf⟩
  have HKW := Lib.hid hk
  have HKF := Lib.hid hf
  have HS0 := Lib.hid HS.out
  replace HS := Lib.hid (HS.out.trans hs (fun _ _ h => h))
  have HSN := Lib.hid hs
  clear hs hk hf
  go_wp2_with (fail)
  refine (docNew_ok N M _ (by omega) (by omega) (by omega) (by omega)).mono ?_
  rintro e wb ⟨rfl, hs⟩
  replace HKW := Lib.hid (HKW.out.same hs)
  replace HS := Lib.hid (HS.out.trans hs (fun _ _ h => h))
  replace HSN := Lib.hid (HSN.out.trans hs (fun _ _ h => h))
  clear hs
  go_wp2_with (fail)
  refine (docIdentity_any N _).mono ?_
  rintro e wc ⟨Ai, Ci, rfl, hOi, hFi, hs⟩
  have hid : idR (N : Int) = rng N := by unfold idR; rw [if_neg (by omega), Int.toNat_natCast]
  have hie : idE (N : Int) = 0 := by unfold idE; rw [if_neg (by omega)]
  rw [hid] at hOi ⊢
  rw [hie]
  have HOI := Lib.hid hOi
  have HFI := Lib.hid (show ∀ b, rowOf Ai b → ¬ KFp N kp a b from fun b hb hk => by
   have h1 := hFi b hb
   have h2 := HKW.out.lt hk
   omega)
  replace HKW := Lib.hid (HKW.out.same hs)
  replace HS := Lib.hid (HS.out.trans hs (fun _ _ h => h))
  replace HSN := Lib.hid (HSN.out.trans hs (fun _ _ h => h))
  have hrl : (rng N).length = N := rng_len N
  have HRL := Lib.hid hrl
  rw [hrl] at HOI ⊢
  clear hs hOi hFi hid hie hrl
  rcases Int.lt_or_le l 0 with h0 | h0
  ·have hE : lvlE (newK N M) l = 2 := by unfold lvlE; rw [if_neg (fun h => by omega)]
   have hX := exch_new_bad (n := N) (c := M) (l := l) (.inl h0)
   have hle := fun w' (h : KW w' kp (newK N M) a) => klevel_any h HK.out.lv l
   have hwd := fun w' (h : KW w' kp (newK N M) a) => kwidth_any h l
   rw [hE] at hle hwd
   obtain ⟨z1, hz1⟩ : ∃ z, lvlR (newK N M) l = z := ⟨_, rfl⟩
   obtain ⟨z2, hz2⟩ : ∃ z, wdR (newK N M) l = z := ⟨_, rfl⟩
   rw [hz1] at hle
   rw [hz2] at hwd
   have HLE := Lib.hid hle
   have HWD := Lib.hid hwd
   have HX := Lib.hid hX
   clear hle hwd hz1 hz2 hE hX
   go_wp2_with (fail)
   refine (HLE.out _ HKW.out).mono ?_
   rintro e wd ⟨rfl, rfl⟩
   go_wp2_with (fail)
   refine (HWD.out _ HKW.out).mono ?_
   rintro e wd ⟨rfl, rfl⟩
   go_wp2_with (fail)
   refine (kvars_any HKW.out).mono ?_
   rintro e wd ⟨rfl, rfl⟩
   have en : (((newK N M).n : Nat) : Int) = N := rfl
   rw [en]
   clear en
   go_wp2_with (fail)
   refine (knodes_any HKW.out).mono ?_
   rintro e wd ⟨rfl, rfl⟩
   have ec : (((newK N M).c : Nat) : Int) = M := rfl
   rw [ec]
   clear ec
   go_wp2_with (fail)
   refine (klive2_any HKW.out (show 2 ≤ 4000000 by decide)).mono ?_
   rintro e wd ⟨rfl, rfl⟩
   have ea : (((newK N M).ac : Nat) : Int) - 2 = 0 := rfl
   rw [ea]
   clear ea
   go_wp2_with (fail)
   refine (ktrail_any HKW.out).mono ?_
   rintro e wd ⟨rfl, rfl⟩
   have et : (((newK N M).tr.length : Nat) : Int) = 0 := rfl
   rw [et]
   clear et
   go_wp2_with (fail)
   refine (kroots_any HKW.out HK.out.bk).mono ?_
   rintro e wd ⟨Ar, Cr, rfl, hr, hf, hs⟩
   have er : (rootsK (newK N M)).length = 0 := rfl
   rw [er]
   replace HKW := Lib.hid (HKW.out.same hs)
   replace HS := Lib.hid (HS.out.trans hs (fun _ _ h => h))
   replace HSN := Lib.hid (HSN.out.trans hs (fun _ _ h => h))
   replace HOI := Lib.hid (HOI.out.frm hs (fun _ _ => id))
   clear er hr hf hs
   go_wp2_with (fail)
   refine (korder_any HKW.out (by show (rng N).length ≤ 64; rw [HRL.out]; exact n64)).mono ?_
   rintro e we ⟨Ao, Co, rfl, hOo, hFo, hs⟩
   have hOo' : OwnI we 3 Ao N Co (rng N) := by have h : OwnI we 3 Ao (rng N).length Co (rng N) := hOo; rw [HRL.out] at h; exact h
   have eo : (newK N M).ord.length = N := HRL.out
   rw [eo]
   replace HKW := Lib.hid (HKW.out.same hs)
   replace HS := Lib.hid (HS.out.trans hs (fun _ _ h => h))
   replace HSN := Lib.hid (HSN.out.trans hs (fun _ _ h => h))
   replace HOI := Lib.hid (HOI.out.frm hs (fun _ _ => id))
   have hsm := psame_any Ao Ai N N Co Ci (rng N) (rng N) we hOo'.il HOI.out.il (by omega) (by omega)
   rw [decide_eq_true rfl] at hsm
   have HSM := Lib.hid hsm
   clear eo hOo hOo' hFo hs hsm
   go_wp2_with (fail)
   refine HSM.out.mono ?_
   rintro e wf ⟨rfl, hs⟩
   replace HKW := Lib.hid (HKW.out.same hs)
   replace HS := Lib.hid (HS.out.trans hs (fun _ _ h => h))
   replace HSN := Lib.hid (HSN.out.trans hs (fun _ _ h => h))
   replace HOI := Lib.hid (HOI.out.frm hs (fun _ _ => id))
   clear hs HSM
   have hke := kexch_any HKW.out n64 l (fun a0 a1 => by
    have a2 : l ≤ (N : Int) - 2 := a1
    obtain ⟨x, y, h⟩ := xy_of (l := l.toNat) HK.out (show l.toNat + 1 < N by omega)
    exact ⟨x, y, turn_ok h HK.out⟩) (by show (0 + 1) * 8 ≤ 140737488355328; decide)
   rw [HX.out] at hke
   have HKE := Lib.hid hke
   clear hke
   go_wp2_with (fail)
   refine HKE.out.mono ?_
   rintro e wg ⟨rfl, a', hk', hg⟩
   have htr := ktrail_any hk'
   have et : (((newK N M).tr.length : Nat) : Int) = 0 := rfl
   rw [et] at htr
   have HTR := Lib.hid htr
   have HG := Lib.hid hg
   clear hk' hg htr et
   go_wp2_with (fail)
   refine HTR.out.mono ?_
   rintro e wh ⟨rfl, rfl⟩
   go_wp2
   go_ret
   exact ⟨rfl, HS0.out.trans (knew_kept HSN.out HG.out HKF.out) (fun _ _ h => h)⟩
  ·rcases Int.lt_or_le l N with h1 | h1
   ·have hE : lvlE (newK N M) l = 0 := by unfold lvlE; rw [if_pos ⟨h0, h1⟩]
    rcases Int.lt_or_le ((N : Int) - 2) l with h2 | h2
    ·have hX := exch_new_bad (n := N) (c := M) (l := l) (.inr h2)
     have hle := fun w' (h : KW w' kp (newK N M) a) => klevel_any h HK.out.lv l
     have hwd := fun w' (h : KW w' kp (newK N M) a) => kwidth_any h l
     rw [hE] at hle hwd
     obtain ⟨z1, hz1⟩ : ∃ z, lvlR (newK N M) l = z := ⟨_, rfl⟩
     obtain ⟨z2, hz2⟩ : ∃ z, wdR (newK N M) l = z := ⟨_, rfl⟩
     rw [hz1] at hle
     rw [hz2] at hwd
     have HLE := Lib.hid hle
     have HWD := Lib.hid hwd
     have HX := Lib.hid hX
     clear hle hwd hz1 hz2 hE hX
     go_wp2_with (fail)
     refine (HLE.out _ HKW.out).mono ?_
     rintro e wd ⟨rfl, rfl⟩
     go_wp2_with (fail)
     refine (HWD.out _ HKW.out).mono ?_
     rintro e wd ⟨rfl, rfl⟩
     go_wp2_with (fail)
     refine (kvars_any HKW.out).mono ?_
     rintro e wd ⟨rfl, rfl⟩
     have en : (((newK N M).n : Nat) : Int) = N := rfl
     rw [en]
     clear en
     go_wp2_with (fail)
     refine (knodes_any HKW.out).mono ?_
     rintro e wd ⟨rfl, rfl⟩
     have ec : (((newK N M).c : Nat) : Int) = M := rfl
     rw [ec]
     clear ec
     go_wp2_with (fail)
     refine (klive2_any HKW.out (show 2 ≤ 4000000 by decide)).mono ?_
     rintro e wd ⟨rfl, rfl⟩
     have ea : (((newK N M).ac : Nat) : Int) - 2 = 0 := rfl
     rw [ea]
     clear ea
     go_wp2_with (fail)
     refine (ktrail_any HKW.out).mono ?_
     rintro e wd ⟨rfl, rfl⟩
     have et : (((newK N M).tr.length : Nat) : Int) = 0 := rfl
     rw [et]
     clear et
     go_wp2_with (fail)
     refine (kroots_any HKW.out HK.out.bk).mono ?_
     rintro e wd ⟨Ar, Cr, rfl, hr, hf, hs⟩
     have er : (rootsK (newK N M)).length = 0 := rfl
     rw [er]
     replace HKW := Lib.hid (HKW.out.same hs)
     replace HS := Lib.hid (HS.out.trans hs (fun _ _ h => h))
     replace HSN := Lib.hid (HSN.out.trans hs (fun _ _ h => h))
     replace HOI := Lib.hid (HOI.out.frm hs (fun _ _ => id))
     clear er hr hf hs
     go_wp2_with (fail)
     refine (korder_any HKW.out (by show (rng N).length ≤ 64; rw [HRL.out]; exact n64)).mono ?_
     rintro e we ⟨Ao, Co, rfl, hOo, hFo, hs⟩
     have hOo' : OwnI we 3 Ao N Co (rng N) := by have h : OwnI we 3 Ao (rng N).length Co (rng N) := hOo; rw [HRL.out] at h; exact h
     have eo : (newK N M).ord.length = N := HRL.out
     rw [eo]
     replace HKW := Lib.hid (HKW.out.same hs)
     replace HS := Lib.hid (HS.out.trans hs (fun _ _ h => h))
     replace HSN := Lib.hid (HSN.out.trans hs (fun _ _ h => h))
     replace HOI := Lib.hid (HOI.out.frm hs (fun _ _ => id))
     have hsm := psame_any Ao Ai N N Co Ci (rng N) (rng N) we hOo'.il HOI.out.il (by omega) (by omega)
     rw [decide_eq_true rfl] at hsm
     have HSM := Lib.hid hsm
     clear eo hOo hOo' hFo hs hsm
     go_wp2_with (fail)
     refine HSM.out.mono ?_
     rintro e wf ⟨rfl, hs⟩
     replace HKW := Lib.hid (HKW.out.same hs)
     replace HS := Lib.hid (HS.out.trans hs (fun _ _ h => h))
     replace HSN := Lib.hid (HSN.out.trans hs (fun _ _ h => h))
     replace HOI := Lib.hid (HOI.out.frm hs (fun _ _ => id))
     clear hs HSM
     have hke := kexch_any HKW.out n64 l (fun a0 a1 => by
      have a2 : l ≤ (N : Int) - 2 := a1
      obtain ⟨x, y, h⟩ := xy_of (l := l.toNat) HK.out (show l.toNat + 1 < N by omega)
      exact ⟨x, y, turn_ok h HK.out⟩) (by show (0 + 1) * 8 ≤ 140737488355328; decide)
     rw [HX.out] at hke
     have HKE := Lib.hid hke
     clear hke
     go_wp2_with (fail)
     refine HKE.out.mono ?_
     rintro e wg ⟨rfl, a', hk', hg⟩
     have htr := ktrail_any hk'
     have et : (((newK N M).tr.length : Nat) : Int) = 0 := rfl
     rw [et] at htr
     have HTR := Lib.hid htr
     have HG := Lib.hid hg
     clear hk' hg htr et
     go_wp2_with (fail)
     refine HTR.out.mono ?_
     rintro e wh ⟨rfl, rfl⟩
     go_wp2
     go_ret
     exact ⟨rfl, HS0.out.trans (knew_kept HSN.out HG.out HKF.out) (fun _ _ h => h)⟩
    ·have hX := exch_new_ok (n := N) (c := M) (l := l) m2 h0 h2
     have hle := fun w' (h : KW w' kp (newK N M) a) => klevel_any h HK.out.lv l
     have hwd := fun w' (h : KW w' kp (newK N M) a) => kwidth_any h l
     rw [hE] at hle hwd
     obtain ⟨z1, hz1⟩ : ∃ z, lvlR (newK N M) l = z := ⟨_, rfl⟩
     obtain ⟨z2, hz2⟩ : ∃ z, wdR (newK N M) l = z := ⟨_, rfl⟩
     rw [hz1] at hle
     rw [hz2] at hwd
     have HLE := Lib.hid hle
     have HWD := Lib.hid hwd
     have HX := Lib.hid hX
     clear hle hwd hz1 hz2 hE hX
     go_wp2_with (fail)
     refine (HLE.out _ HKW.out).mono ?_
     rintro e wd ⟨rfl, rfl⟩
     go_wp2_with (fail)
     refine (HWD.out _ HKW.out).mono ?_
     rintro e wd ⟨rfl, rfl⟩
     go_wp2_with (fail)
     refine (kvars_any HKW.out).mono ?_
     rintro e wd ⟨rfl, rfl⟩
     have en : (((newK N M).n : Nat) : Int) = N := rfl
     rw [en]
     clear en
     go_wp2_with (fail)
     refine (knodes_any HKW.out).mono ?_
     rintro e wd ⟨rfl, rfl⟩
     have ec : (((newK N M).c : Nat) : Int) = M := rfl
     rw [ec]
     clear ec
     go_wp2_with (fail)
     refine (klive2_any HKW.out (show 2 ≤ 4000000 by decide)).mono ?_
     rintro e wd ⟨rfl, rfl⟩
     have ea : (((newK N M).ac : Nat) : Int) - 2 = 0 := rfl
     rw [ea]
     clear ea
     go_wp2_with (fail)
     refine (ktrail_any HKW.out).mono ?_
     rintro e wd ⟨rfl, rfl⟩
     have et : (((newK N M).tr.length : Nat) : Int) = 0 := rfl
     rw [et]
     clear et
     go_wp2_with (fail)
     refine (kroots_any HKW.out HK.out.bk).mono ?_
     rintro e wd ⟨Ar, Cr, rfl, hr, hf, hs⟩
     have er : (rootsK (newK N M)).length = 0 := rfl
     rw [er]
     replace HKW := Lib.hid (HKW.out.same hs)
     replace HS := Lib.hid (HS.out.trans hs (fun _ _ h => h))
     replace HSN := Lib.hid (HSN.out.trans hs (fun _ _ h => h))
     replace HOI := Lib.hid (HOI.out.frm hs (fun _ _ => id))
     clear er hr hf hs
     go_wp2_with (fail)
     refine (korder_any HKW.out (by show (rng N).length ≤ 64; rw [HRL.out]; exact n64)).mono ?_
     rintro e we ⟨Ao, Co, rfl, hOo, hFo, hs⟩
     have hOo' : OwnI we 3 Ao N Co (rng N) := by have h : OwnI we 3 Ao (rng N).length Co (rng N) := hOo; rw [HRL.out] at h; exact h
     have eo : (newK N M).ord.length = N := HRL.out
     rw [eo]
     replace HKW := Lib.hid (HKW.out.same hs)
     replace HS := Lib.hid (HS.out.trans hs (fun _ _ h => h))
     replace HSN := Lib.hid (HSN.out.trans hs (fun _ _ h => h))
     replace HOI := Lib.hid (HOI.out.frm hs (fun _ _ => id))
     have hsm := psame_any Ao Ai N N Co Ci (rng N) (rng N) we hOo'.il HOI.out.il (by omega) (by omega)
     rw [decide_eq_true rfl] at hsm
     have HSM := Lib.hid hsm
     clear eo hOo hOo' hFo hs hsm
     go_wp2_with (fail)
     refine HSM.out.mono ?_
     rintro e wf ⟨rfl, hs⟩
     replace HKW := Lib.hid (HKW.out.same hs)
     replace HS := Lib.hid (HS.out.trans hs (fun _ _ h => h))
     replace HSN := Lib.hid (HSN.out.trans hs (fun _ _ h => h))
     replace HOI := Lib.hid (HOI.out.frm hs (fun _ _ => id))
     clear hs HSM
     have hke := kexch_any HKW.out n64 l (fun a0 a1 => by
      have a2 : l ≤ (N : Int) - 2 := a1
      obtain ⟨x, y, h⟩ := xy_of (l := l.toNat) HK.out (show l.toNat + 1 < N by omega)
      exact ⟨x, y, turn_ok h HK.out⟩) (by show (0 + 1) * 8 ≤ 140737488355328; decide)
     obtain ⟨x0, x1, x2⟩ := HX.out
     obtain ⟨⟨E, k'⟩, hkk⟩ : ∃ z, exchK (newK N M) l = z := ⟨_, rfl⟩
     rw [hkk] at hke x0 x1 x2
     simp only at x0 x1 x2 hke
     subst x0
     have HKE := Lib.hid hke
     have HX1 := Lib.hid x1
     have HX2 := Lib.hid x2
     clear hke x1 x2 hkk HX
     go_wp2_with (fail)
     refine HKE.out.mono ?_
     rintro e wg ⟨rfl, a', hk', hg⟩
     have hko := korder_any hk' (by rw [HX2.out, swp_len, HRL.out]; exact n64)
     rw [HX2.out] at hko
     have hko' : ∀ w', Same wg w' → Calls Tryz.prog 35 #[.pointer (some ⟨kp, 0, none⟩)] w' fun e w'' => e = .returned (.int .i64 1) ∧ w' = w'' := fun w' hs => by
      have h := ktrail_any (hk'.same hs)
      rw [HX1.out] at h
      exact h
     have HKO := Lib.hid hko
     have HTR := Lib.hid hko'
     have hkeep := knew_kept HSN.out hg HKF.out
     have HKEEP := Lib.hid hkeep
     replace HOI := Lib.hid (HOI.out.frm hg.frm (fun x hx => HFI.out _ ⟨x, hx, rfl⟩))
     clear hko hko' hk' hg hkeep HKW
     go_wp2_with (fail)
     refine HKO.out.mono ?_
     rintro e wh ⟨Ah, Ch, rfl, hOh, hFh, hs⟩
     have hsl : (swp (rng N) l.toNat).length = N := by rw [swp_len, HRL.out]
     rw [hsl] at hOh ⊢
     replace HOI := Lib.hid (HOI.out.frm hs (fun _ _ => id))
     have HOH := Lib.hid hOh
     have HS5 := Lib.hid hs
     replace HKEEP := Lib.hid (HKEEP.out.trans hs (fun _ _ h => h))
     clear hOh hFh hs hsl
     go_wp2_with (fail)
     refine (HTR.out _ HS5.out).mono ?_
     rintro e wi ⟨rfl, rfl⟩
     obtain ⟨m, rfl⟩ := Int.eq_ofNat_of_zero_le h0
     have htu := turned_any Ai N Ci (rng N) m wh HOI.out.il (by omega) (by omega)
     have HTU := Lib.hid htu
     clear htu
     go_wp2_with (fail)
     refine HTU.out.mono ?_
     rintro e wj ⟨At, Ct, rfl, hOt, hFt, hs⟩
     have hsl : (swp (rng N) m).length = N := by rw [swp_len, HRL.out]
     rw [hsl] at hOt ⊢
     have hOh := HOH.out.frm hs (fun _ _ => id)
     rw [Int.toNat_natCast] at hOh
     have hsm := psame_any Ah At N N Ch Ct (swp (rng N) m) (swp (rng N) m) wj hOh.il hOt.il (by omega) (by omega)
     rw [decide_eq_true rfl] at hsm
     have HSM := Lib.hid hsm
     replace HKEEP := Lib.hid (HKEEP.out.trans hs (fun _ _ h => h))
     clear hsm hOh hOt hFt hs hsl
     go_wp2_with (fail)
     refine HSM.out.mono ?_
     rintro e wk ⟨rfl, hs⟩
     replace HKEEP := Lib.hid (HKEEP.out.trans hs (fun _ _ h => h))
     clear hs
     go_wp2
     go_ret
     exact ⟨rfl, HS0.out.trans HKEEP.out (fun _ _ h => h)⟩
   ·have hE : lvlE (newK N M) l = 2 := by unfold lvlE; rw [if_neg (fun h => by have h' : l < (N : Int) := h.2; omega)]
    have h2 : (N : Int) - 2 < l := by omega
    have hX := exch_new_bad (n := N) (c := M) (l := l) (.inr h2)
    have hle := fun w' (h : KW w' kp (newK N M) a) => klevel_any h HK.out.lv l
    have hwd := fun w' (h : KW w' kp (newK N M) a) => kwidth_any h l
    rw [hE] at hle hwd
    obtain ⟨z1, hz1⟩ : ∃ z, lvlR (newK N M) l = z := ⟨_, rfl⟩
    obtain ⟨z2, hz2⟩ : ∃ z, wdR (newK N M) l = z := ⟨_, rfl⟩
    rw [hz1] at hle
    rw [hz2] at hwd
    have HLE := Lib.hid hle
    have HWD := Lib.hid hwd
    have HX := Lib.hid hX
    clear hle hwd hz1 hz2 hE hX
    go_wp2_with (fail)
    refine (HLE.out _ HKW.out).mono ?_
    rintro e wd ⟨rfl, rfl⟩
    go_wp2_with (fail)
    refine (HWD.out _ HKW.out).mono ?_
    rintro e wd ⟨rfl, rfl⟩
    go_wp2_with (fail)
    refine (kvars_any HKW.out).mono ?_
    rintro e wd ⟨rfl, rfl⟩
    have en : (((newK N M).n : Nat) : Int) = N := rfl
    rw [en]
    clear en
    go_wp2_with (fail)
    refine (knodes_any HKW.out).mono ?_
    rintro e wd ⟨rfl, rfl⟩
    have ec : (((newK N M).c : Nat) : Int) = M := rfl
    rw [ec]
    clear ec
    go_wp2_with (fail)
    refine (klive2_any HKW.out (show 2 ≤ 4000000 by decide)).mono ?_
    rintro e wd ⟨rfl, rfl⟩
    have ea : (((newK N M).ac : Nat) : Int) - 2 = 0 := rfl
    rw [ea]
    clear ea
    go_wp2_with (fail)
    refine (ktrail_any HKW.out).mono ?_
    rintro e wd ⟨rfl, rfl⟩
    have et : (((newK N M).tr.length : Nat) : Int) = 0 := rfl
    rw [et]
    clear et
    go_wp2_with (fail)
    refine (kroots_any HKW.out HK.out.bk).mono ?_
    rintro e wd ⟨Ar, Cr, rfl, hr, hf, hs⟩
    have er : (rootsK (newK N M)).length = 0 := rfl
    rw [er]
    replace HKW := Lib.hid (HKW.out.same hs)
    replace HS := Lib.hid (HS.out.trans hs (fun _ _ h => h))
    replace HSN := Lib.hid (HSN.out.trans hs (fun _ _ h => h))
    replace HOI := Lib.hid (HOI.out.frm hs (fun _ _ => id))
    clear er hr hf hs
    go_wp2_with (fail)
    refine (korder_any HKW.out (by show (rng N).length ≤ 64; rw [HRL.out]; exact n64)).mono ?_
    rintro e we ⟨Ao, Co, rfl, hOo, hFo, hs⟩
    have hOo' : OwnI we 3 Ao N Co (rng N) := by have h : OwnI we 3 Ao (rng N).length Co (rng N) := hOo; rw [HRL.out] at h; exact h
    have eo : (newK N M).ord.length = N := HRL.out
    rw [eo]
    replace HKW := Lib.hid (HKW.out.same hs)
    replace HS := Lib.hid (HS.out.trans hs (fun _ _ h => h))
    replace HSN := Lib.hid (HSN.out.trans hs (fun _ _ h => h))
    replace HOI := Lib.hid (HOI.out.frm hs (fun _ _ => id))
    have hsm := psame_any Ao Ai N N Co Ci (rng N) (rng N) we hOo'.il HOI.out.il (by omega) (by omega)
    rw [decide_eq_true rfl] at hsm
    have HSM := Lib.hid hsm
    clear eo hOo hOo' hFo hs hsm
    go_wp2_with (fail)
    refine HSM.out.mono ?_
    rintro e wf ⟨rfl, hs⟩
    replace HKW := Lib.hid (HKW.out.same hs)
    replace HS := Lib.hid (HS.out.trans hs (fun _ _ h => h))
    replace HSN := Lib.hid (HSN.out.trans hs (fun _ _ h => h))
    replace HOI := Lib.hid (HOI.out.frm hs (fun _ _ => id))
    clear hs HSM
    have hke := kexch_any HKW.out n64 l (fun a0 a1 => by
     have a2 : l ≤ (N : Int) - 2 := a1
     obtain ⟨x, y, h⟩ := xy_of (l := l.toNat) HK.out (show l.toNat + 1 < N by omega)
     exact ⟨x, y, turn_ok h HK.out⟩) (by show (0 + 1) * 8 ≤ 140737488355328; decide)
    rw [HX.out] at hke
    have HKE := Lib.hid hke
    clear hke
    go_wp2_with (fail)
    refine HKE.out.mono ?_
    rintro e wg ⟨rfl, a', hk', hg⟩
    have htr := ktrail_any hk'
    have et : (((newK N M).tr.length : Nat) : Int) = 0 := rfl
    rw [et] at htr
    have HTR := Lib.hid htr
    have HG := Lib.hid hg
    clear hk' hg htr et
    go_wp2_with (fail)
    refine HTR.out.mono ?_
    rintro e wh ⟨rfl, rfl⟩
    go_wp2
    go_ret
    exact ⟨rfl, HS0.out.trans (knew_kept HSN.out HG.out HKF.out) (fun _ _ h => h)⟩
end
end Go.Proofs.YtiomgckodmecbaaGreat


/- The walk of KnNews beside the given rows. -/
