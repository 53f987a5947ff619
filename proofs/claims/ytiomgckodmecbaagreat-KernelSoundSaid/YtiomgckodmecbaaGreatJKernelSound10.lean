/- Contracts and plain laws, put together in one file. No condition. -/
import Derived.Test.YtiomgckodmecbaaGreatJKernelSound9

set_option maxRecDepth 100000
set_option maxHeartbeats 32000000
namespace Go.Proofs.YtiomgckodmecbaaGreat
open Go.RowKit Go.Tk
def deadK (p:PS) (k:Nat):List Bool:=((List.range k).map fun i:Nat=>!livesB (countP p) i) ++ p.dead.drop k
theorem deadK_len {p:PS} {k:Nat} (h:k≤p.dead.length):(deadK p k).length=p.dead.length:=by
 unfold deadK
 simp
 omega
theorem deadK_get {p:PS} {k:Nat}:(deadK p k).getD k true=p.dead.getD k true:=by
 unfold deadK
 rw [List.getD_eq_getElem?_getD,List.getD_eq_getElem?_getD,List.getElem?_append_right (by simp)]
 simp
theorem deadK_set {p:PS} {k:Nat} (h:k < p.dead.length):(deadK p k).set k (!livesB (countP p) k)=deadK p (k+1):=by
 unfold deadK
 rw [List.set_append_right _ _ (by simp),List.length_map,List.length_range,Nat.sub_self,List.range_succ,List.map_append]
 rw [List.drop_eq_getElem_cons h,List.set_cons_zero,List.append_assoc]
 rfl
theorem deadK_all {p:PS} (h:p.dead.length=p.ts.length):{ countP p with dead:=deadK p p.ts.length }=lookP p:=by
 unfold deadK lookP
 rw [List.drop_of_length_le (by omega)]
 simp
theorem livesB_dead {p:PS} {k:Nat}:livesB { countP p with dead:=deadK p k } k=livesB (countP p) k:=by
 unfold livesB
 simp only [Int.toNat_natCast]
 rw [deadK_get]
 rfl
section
variable {w w':World} {B:Nat→Prop} {pp:Nat} {p:PS} {q:PA} {n:Nat} {t:Tb} {kp:Nat} {k:KS} {a:KA}
theorem looks_law (hP:PW B w pp p q) (hB:∀ b,B b→b < w.heap.size) (K:KI p.k) (hg:RngK p.k) (ho:OrdOk p.m) (hd:p.dead.length=p.ts.length) (hr:p.refs.length=p.ts.length) (hrg:∀ x∈p.refs,0≤x∧x < 4294967296)
  (htl:p.ts.length≤4000000000000) (hol:p.k.ord.length≤64) (hac:p.k.ac≤4000000) (L:LookOk p) :
  Calls Tryz.prog 28 #[.pointer (some ⟨pp,0,none⟩)] w fun e w'=>e=.returned (.bool true)∧(∃ q',PW B w' pp (lookP p) q')∧Up B w w':=by
 have hcl:=count_law hP ho hB
 have hn16:=hP.m.n16
 have hl3:=live_len p.m (by have:=hP.m.hl;omega) hP.m.ol p.m.ord.length hP.m.ol
 rw [List.take_of_length_le (by unfold levelsL;rw [levels_len];simp)] at hl3
 have HCL:=Lib.hid hcl
 have HLL:=Lib.hid (show (liveM p.m).length≤2097152000000 from hl3)
 have HD:=Lib.hid hd
 have HR:=Lib.hid hr
 have HRG:=Lib.hid hrg
 have HTLB:=Lib.hid htl
 have HL:=Lib.hid L
 have HK:=Lib.hid K
 have HG:=Lib.hid hg
 have HO:=Lib.hid ho
 have HOL:=Lib.hid hol
 have HAC:=Lib.hid hac
 have HN16:=Lib.hid hn16
 clear hP hcl hl3 hd hr hrg L K hg ho hol hac hn16
 go_enter Tryz.func28,Tryz.ntmps28
 go_wp2_with (fail)
 refine HCL.out.mono ?_
 rintro e w1 ⟨rfl,⟨q1,hP1⟩,hU1⟩
 have hB1:∀ b,B b→b < w1.heap.size:=fun b hb=>by have:=hB b hb;have:=hU1.size;omega
 have hpl:=hP1.blk.lt
 have c3:=hP1.c3
 rw [hP1.tl] at c3
 replace c3:w1.cell? ⟨pp,3,none⟩=some (.slice q1.tA p.ts.length q1.tC):=c3
 have HP1:=Lib.hid hP1
 have HU1:=Lib.hid hU1
 clear hP1 hU1
 go_upto_region 3 with fail
 clear c3 hpl
 go_loopw [25] (fun i wr=>∃ k:Nat,k≤p.ts.length∧i=.int .i64 k∧(∃ q',PW B wr pp { countP p with dead:=deadK p k } q')∧Up B w wr∧w.heap.size≤wr.heap.size) (fun i _=>p.ts.length - (intOf i).toNat)
 case atStart=>exact ⟨0,Nat.zero_le _,rfl,⟨q1,by have:=HP1.out;exact this⟩,HU1.out,HU1.out.size⟩
 case round =>
  as_aux_lemma =>
  obtain ⟨k,hk,rfl,⟨q',hPr⟩,hU,hsz⟩:=hrel
  by_cases hlt:k < p.ts.length
  ·have hI:(k:Int) < (p.ts.length:Int):=by omega
   have hlv:=fun w' (hs:Same wr w')=>lives_law (hPr.same hs) (by rw [deadK_len (by rw [HD.out];exact hk)];exact HD.out) HLL.out k
   rw [livesB_dead] at hlv
   obtain ⟨lb,hlb⟩:∃ z,livesB (countP p) k=z:=⟨_,rfl⟩
   rw [hlb] at hlv
   have hdl:(deadK p k).length=p.ts.length:=by rw [deadK_len (by rw [HD.out];exact hk),HD.out]
   obtain ⟨d,hdd⟩:∃ d,(deadK p k)[k]?=some d:=⟨_,List.getElem?_eq_getElem (by rw [hdl];exact hlt)⟩
   obtain ⟨db,hdb,hdbl,d0⟩:=hPr.ds.at1 (c:=fun b:Bool=>.bool b) hdd
   have hpl:=hPr.blk.lt
   have c5:=hPr.c5
   simp only at c5 hdb
   rw [hdl,hdb] at c5
   have f5:=hPr.ds
   have hst:deadK p (k+1)=(deadK p k).set k (!lb):=by rw [← hlb,deadK_set (by rw [HD.out];exact hlt)]
   have HLV:=Lib.hid hlv
   have HPR:=Lib.hid hPr
   have HU:=Lib.hid hU
   have HST:=Lib.hid hst
   have HDB:=Lib.hid hdb
   have HDL:=Lib.hid hdl
   have HDD:=Lib.hid hdd
   clear hlv hPr hU hst hdb hdl hlb hdd f5
   go_upto_region 5 with fail
   refine wp_phS (fun _=>False) [([0,1,2,3,4,5,6],7),([8,9],10)] (by kernel_rfl) (by kernel_rfl) ?_
   simp only [wpPh,pick,List.map_cons,List.map_nil,List.getD_cons_zero,List.getD_cons_succ]
   have hs:Same wr wr.drew:=(Frm.refl _ _).drew
   repeat (any_goals (first | go_big_quiet_step (fail) | quiet_step (fail)))
   refine wpQuiet_nil ?_
   refine effStep_plain rfl fun K hK=>?_
   go_simp
   refine (HLV.out _ hs).mono ?_
   rintro e w2 ⟨rfl,hs2⟩
   have hs2':=hs.trans hs2 (fun _ _ h=>h)
   refine hK _ _ (Lat.mk_ hs2') ?_
   clear hK K
   have hP2:=HPR.out.same hs2'
   have hdb2:=HDB.out
   have hds:=hP2.ds
   have hB2:∀ b,B b→b < w2.heap.size:=fun b hb=>by have:=hB b hb;have:=hs2'.size;omega
   have hsz2:=hs2'.size
   clear d0 hdbl
   have hne:pp≠db:=fun h=>hP2.ds.ne_blk hP2.blk (by decide) _ hdb2 h.symm
   have hdl':(deadK p (k+1)).length=p.ts.length:=by rw [deadK_len (by rw [HD.out];exact hlt),HD.out]
   simp only at hds
   rw [hdb2] at hds
   have fk:=Own.free hds k
   obtain ⟨db',hdb',hdbl,d0⟩:=hds.at1 (c:=fun b:Bool=>.bool b) HDD.out
   injection hdb' with hdb'
   injection hdb' with hdb'
   subst hdb'
   have hpt:=Own.put1 (c:=fun b:Bool=>.bool b) hds (i:=k) (by rw [HDL.out];exact hlt) (!lb)
   rw [← HST.out,HDL.out,← hdl',← hdb2] at hpt
   have hto:=hP2.ds_to (w':=w2.setCell ⟨db,k,none⟩ (.bool (!lb))) (ds:=deadK p (k+1)) (A2:=q'.dA) (C2:=q'.dC) ((Frm.refl _ _).set k _ (.inr ⟨_,hdb2,rfl⟩)) (by
    have hb:=hP2.blk.far (p:=⟨db,k,none⟩) hne (.bool (!lb))
    simpa [pcells,HDL.out,hdl'] using hb) hpt (fun b hb=>.inl hb) hB2
   have HTO:=Lib.hid hto
   have HS2:=Lib.hid hs2'
   clear hto hpt hds hP2 hne hdb2 hB2 hs hs2 hs2' hdl' c5 hpl
   repeat (any_goals (first | go_big_quiet_step (fail) | quiet_step (fail)))
   refine wpQuiet_nil ?_
   go_wp2
   go_roundw
   case rel=>exact ⟨k+1,by omega,by go_num,⟨_,HTO.out.1⟩,(HU.out.trans (Up.ofSame HS2.out)).trans HTO.out.2,by rw [size_setCell];omega⟩
   case measure=>simp [intOf] <;> omega
  ·obtain rfl:k=p.ts.length:=by omega
   have hI:¬ ((p.ts.length:Nat):Int) < (p.ts.length:Int):=by omega
   rw [deadK_all HD.out] at hPr
   obtain ⟨w5,rfl⟩:∃ z,z=wr:=⟨_,rfl⟩
   have hcells:∀ w',Same w5 w'→pp < w'.heap.size∧q'.mp < w'.heap.size∧w'.cell? ⟨pp,0,none⟩=some (.pointer (some ⟨q'.kp,0,none⟩))∧w'.cell? ⟨pp,1,none⟩=some (.pointer (some ⟨q'.mp,0,none⟩))∧w'.cell? ⟨pp,2,none⟩=some (.slice q'.rA p.ts.length q'.rC)∧w'.cell? ⟨pp,3,none⟩=some (.slice q'.tA p.ts.length q'.tC)∧w'.cell? ⟨pp,4,none⟩=some (.slice q'.vA (liveM p.m).length q'.vC) ∧
     w'.cell? ⟨q'.mp,0,none⟩=some (.int .i64 p.m.n)∧w'.cell? ⟨q'.mp,2,none⟩=some (.slice q'.b.oA p.k.ord.length q'.b.oC)∧w'.cell? ⟨q'.mp,3,none⟩=some (.slice q'.b.hA (rootsK p.k).length q'.b.hC)∧w'.cell? ⟨q'.mp,4,none⟩=some (.slice q'.b.tA p.k.tr.length q'.b.tC):=by
    intro w' hs
    have h:=hPr.same hs
    refine ⟨h.blk.lt,h.m.blk.lt,h.c0,h.c1,?_,?_,?_,h.m.c0,?_,?_,?_⟩
    ·have:=h.c2
     rw [show (lookP p).refs.length=p.ts.length from HR.out] at this
     exact this
    ·have:=h.c3
     rw [h.tl] at this
     exact this
    ·have:=h.c4
     rw [h.vl] at this
     exact this
    ·have:=h.m.c2
     rw [HL.out.ord]
     exact this
    ·have:=h.m.c3
     rw [h.m.hsl] at this
     rw [HL.out.rl]
     exact this
    ·have:=h.m.c4
     rw [HL.out.tr]
     exact this
   have HC:=Lib.hid hcells
   have hord:∀ w',Same w5 w'→Calls Tryz.prog 25 #[.pointer (some ⟨q'.kp,0,none⟩)] w' (RetL w' p.k.ord):=fun w' hs=>korder_any (hPr.same hs).k HOL.out
   have hsm:=fun w' (hs:Same w5 w') (A:Option Addr) (C:Nat) (ho:OwnI w' 3 A p.k.ord.length C p.k.ord)=>psame_any A q'.b.oA p.k.ord.length p.k.ord.length C q'.b.oC p.k.ord p.k.ord w' ho.il (by have:=(hPr.same hs).m.ord.il;rw [HL.out.ord];exact this) (by have:=HOL.out;omega) (by have:=HOL.out;omega)
   simp only [decide_true] at hsm
   have htr:∀ w',Same w5 w'→Calls Tryz.prog 35 #[.pointer (some ⟨q'.kp,0,none⟩)] w' fun e w''=>e=.returned (.int .i64 p.k.tr.length)∧w'=w'':=fun w' hs=>ktrail_any (hPr.same hs).k
   have hlv:∀ w',Same w5 w'→Calls Tryz.prog 18 #[.pointer (some ⟨q'.kp,0,none⟩)] w' fun e w''=>e=.returned (.int .i64 ((liveM p.m).length:Nat))∧w'=w'':=fun w' hs=>by
    have h:=klive2_any (hPr.same hs).k HAC.out
    rw [show (((lookP p).k.ac:Nat):Int) - 2=((liveM p.m).length:Nat) from HL.out.live] at h
    exact h
   have hwd:∀ (v:Nat),v < p.m.n→∀ w',Same w5 w'→Calls Tryz.prog 32 #[.pointer (some ⟨q'.kp,0,none⟩),.int .i64 v] w' fun e w''=>e=.returned (.tuple #[.int .i64 (widthM p.m v),.int .i64 0])∧w'=w'':=fun v hv w' hs=>by
    have h:=kwidth_any (hPr.same hs).k v
    rw [show wdR (lookP p).k v=widthM p.m v from (HL.out.wd v hv).1,show lvlE (lookP p).k v=0 from (HL.out.wd v hv).2.2] at h
    exact h
   have hle:∀ (v:Nat),v < p.m.n→∀ w',Same w5 w'→Calls Tryz.prog 33 #[.pointer (some ⟨q'.kp,0,none⟩),.int .i64 v] w' fun e w''=>e=.returned (.tuple #[.int .i64 (levelL p.m.ord v),.int .i64 0])∧w'=w'':=fun v hv w' hs=>by
    have h:=klevel_any (hPr.same hs).k HK.out.lv v
    rw [show lvlR (lookP p).k v=levelL p.m.ord v from (HL.out.wd v hv).2.1,show lvlE (lookP p).k v=0 from (HL.out.wd v hv).2.2] at h
    exact h
   have hwm:∀ (v:Nat) w',Same w5 w'→Calls Tryz.prog 67 #[.pointer (some ⟨q'.mp,0,none⟩),.int .i64 v] w' fun e w''=>e=.returned (.int .i64 (widthM p.m v))∧Same w' w'':=fun v w' hs=>width9_any (hPr.same hs).m HO.out v
   have hlm:∀ (v:Nat) w',Same w5 w'→Calls Tryz.prog 68 #[.pointer (some ⟨q'.mp,0,none⟩),.int .i64 v] w' fun e w''=>e=.returned (.int .i64 (levelL p.m.ord v))∧Same w' w'':=fun v w' hs=>levelOf_any (hPr.same hs).m v
   have hrt:∀ w',Same w5 w'→Calls Tryz.prog 22 #[.pointer (some ⟨q'.kp,0,none⟩)] w' fun e w''=>∃ A C,e=.returned (.slice A (rootsK p.k).length C)∧Row1 w'' 28 rc A (rootsK p.k).length C (rootsK p.k)∧Fresh w'.heap.size A∧Same w' w'':=fun w' hs=>kroots_any (hPr.same hs).k HK.out.bk
   have hhd:∀ (r:Int),0≤r→r < 4294967296→∀ w',Same w5 w'→Calls Tryz.prog 17 #[.pointer (some ⟨q'.kp,0,none⟩),.int .u32 r] w' fun e w''=>e=.returned (.int .i64 (p.k.hs.getD r.toNat 0))∧w'=w'':=fun r h0 h1 w' hs=>kheld_any (hPr.same hs).k r h0 h1 (fun x hx=>⟨(HK.out.bk.hol _ x hx).1,(HK.out.bk.hol _ x hx).2.1⟩)
   have htb:∀ (r:Int) (t:List Nat),0≤r→r < 4294967296→tabK p.k p.m.n (p.m.n+1) r=some t→∀ w',Same w5 w'→Calls Tryz.prog 69 #[.pointer (some ⟨q'.kp,0,none⟩),.int .u32 r,.int .i64 p.m.n,.int .i64 0] w' fun e w''=>∃ A C,e=.returned (.tuple #[.agg #[.int .i64 p.m.n,.slice A t.length C],.bool true])∧NewT w' t A C w'':=fun r t h0 h1 ht w' hs=>by
    have h:=table_law (hPr.same hs).k HG.out HN16.out (p.m.n+1) r h0 h1 (Nat.le_refl _) w' (Frm.refl _ _)
    rw [show tabK (lookP p).k p.m.n (p.m.n+1) r=some t from ht,Nat.sub_self] at h
    exact h
   have hho:∀ (A:Option Addr) (C:Nat) (t:List Nat),FormN p.m.n t→Small t→∀ w',Same w5 w'→OwnW w' A t.length C t→Calls Tryz.prog 70 #[.pointer (some ⟨q'.mp,0,none⟩),.agg #[.int .i64 p.m.n,.slice A t.length C]] w' fun e w''=>e=.returned (.int .i64 (holdsL p.m.held t))∧Same w' w'':=fun A C t h1 h2 w' hs hO=>by
    have h:=holds_any (t:=⟨p.m.n,A,C,t⟩) (hPr.same hs).m ⟨rfl,hO,h1,h2⟩
    exact h
   have hls:=fun (i:Int) w' (hs:Same w5 w')=>lives_law (hPr.same hs) (by unfold lookP;simp [countP]) (show (liveM p.m).length≤2097152000000 from HLL.out) i
   have htw:=fun w' (hs:Same w5 w')=>(hPr.same hs).tt
   have hrows:∀ w',Same w5 w'→Row1 w' 28 rc q'.rA p.refs.length q'.rC p.refs:=fun w' hs=>(hPr.same hs).refs
   have htab:∀ w',Same w5 w'→Go.Tk.Own w' 108 2 Tb.cells q'.tA q'.tt.length q'.tC q'.tt∧∀ t∈q'.tt,TW w' p.m.n t:=fun w' hs=>⟨(hPr.same hs).ts,(hPr.same hs).tt⟩
   have htte:q'.tt.map Tb.ws=p.ts:=hPr.te
   have HORD:=Lib.hid hord
   have HSM:=Lib.hid hsm
   have HTR:=Lib.hid htr
   have HLV:=Lib.hid hlv
   have HWD:=Lib.hid hwd
   have HLE:=Lib.hid hle
   have HWM:=Lib.hid hwm
   have HLM:=Lib.hid hlm
   have HRT:=Lib.hid hrt
   have HHD:=Lib.hid hhd
   have HTB:=Lib.hid htb
   have HHO:=Lib.hid hho
   have HLS:=Lib.hid hls
   have HROW:=Lib.hid hrows
   have HTAB:=Lib.hid htab
   have HTTE:=Lib.hid htte
   have HFIN:=Lib.hid (⟨_,hPr⟩:∃ q',PW B w5 pp (lookP p) q')
   have HUF:=Lib.hid hU
   have HS:=Lib.hid (Frm.refl (fun _=>False) w5:Same w5 w5)
   clear hord hsm htr hlv hwd hle hwm hlm hrt hhd htb hho hls htw hrows htab htte hPr hU hcells
   go_upto_region 7 with fail
   obtain ⟨hpl,hml,c0,c1,c2,c3,c4,m0,m2,m3,m4⟩:=HC.out _ HS.out
   refine wp_phS (fun _=>False) [([0,1,2,3,5,6,7,8,9,10,11],4),([],12),([13,14,15,16,17,18,20,21,22,23,24,25,26,27],19),([28,29,30,31,32,33,34,36,37,38,39,40],35),([41],42)] (by kernel_rfl) (by kernel_rfl) ?_
   have hs:Same w5 w5.drew:=(Frm.refl _ _).drew
   rw [wpPh_go_eq]
   simp only [pick,List.map_cons,List.map_nil,List.getD_cons_zero,List.getD_cons_succ]
   repeat go_big_quiet_step (fail)
   refine wpQuiet_nil ?_
   refine effStep_plain rfl fun K hK=>?_
   go_simp
   refine (HORD.out _ hs).mono ?_
   rintro e w6 ⟨Ao,Co,rfl,hO6,hF6,hs6⟩
   have HS6:=Lib.hid (hs.trans hs6 (fun _ _ h=>h))
   refine hK _ _ (Lat.mk_ HS6.out) ?_
   clear hK K
   have HO6:=Lib.hid hO6
   clear hO6 hF6 hs6 hs
   rw [wpPh_go_eq]
   simp only [pick,List.map_nil,List.getD_cons_zero,List.getD_cons_succ]
   repeat go_big_quiet_step (fail)
   refine wpQuiet_nil ?_
   refine effStep_plain rfl fun K hK=>?_
   go_simp
   refine (HSM.out _ HS6.out Ao Co HO6.out).mono ?_
   rintro e w7 ⟨rfl,hs7⟩
   have HS7:=Lib.hid (HS6.out.trans hs7 (fun _ _ h=>h))
   refine hK _ _ (Lat.mk_ HS7.out) ?_
   clear hK K hs7
   rw [wpPh_go_eq]
   simp only [pick,List.map_cons,List.map_nil,List.getD_cons_zero,List.getD_cons_succ]
   repeat go_big_quiet_step (fail)
   refine wpQuiet_nil ?_
   refine effStep_on (by rfl) fun K hK=>?_
   go_simp
   refine (HTR.out _ HS7.out).mono ?_
   rintro e w8 ⟨rfl,rfl⟩
   refine hK _ _ (Lat.mk_ HS7.out) ?_
   clear hK K
   rw [wpPh_go_eq]
   simp only [pick,List.map_cons,List.map_nil,List.getD_cons_zero,List.getD_cons_succ]
   repeat go_big_quiet_step (fail)
   refine wpQuiet_nil ?_
   refine effStep_on (by rfl) fun K hK=>?_
   go_simp
   refine (HLV.out _ HS7.out).mono ?_
   rintro e w8 ⟨rfl,rfl⟩
   refine hK _ _ (Lat.mk_ HS7.out) ?_
   clear hK K
   rw [wpPh_end_eq]
   simp only [pick,List.map_cons,List.map_nil,List.getD_cons_zero,List.getD_cons_succ]
   repeat go_big_quiet_step (fail)
   rw [wpQuiet_nil_eq]
   clear hpl hml c0 c1 c2 c3 c4 m0 m2 m3 m4 HO6 HS6
   go_wp2_with (fail)
   go_loopw [4] (fun i wx=>∃ v:Nat,v≤p.m.n∧i=.int .i64 v∧Same w5 wx) (fun i _=>p.m.n - (intOf i).toNat)
   case atStart=>exact ⟨0,Nat.zero_le _,rfl,HS7.out⟩
   case round =>
    as_aux_lemma =>
    obtain ⟨v,hv,rfl,hsx⟩:=hrel
    by_cases hlt:v < p.m.n
    ·have hJ:(v:Int) < (p.m.n:Int):=by omega
     have hn16:=HN16.out
     have HSX:=Lib.hid hsx
     clear hsx
     obtain ⟨hpl,hml,c0,c1,c2,c3,c4,m0,m2,m3,m4⟩:=HC.out _ HSX.out
     have h1:=HWD.out v hlt
     have h2:=HLE.out v hlt
     have h3:=HWM.out v
     have h4:=HLM.out v
     obtain ⟨a1,ha1⟩:∃ z,widthM p.m v=z:=⟨_,rfl⟩
     obtain ⟨a2,ha2⟩:∃ z,levelL p.m.ord v=z:=⟨_,rfl⟩
     replace h3:∀ w',Same w5 w'→Calls Tryz.prog 67 #[.pointer (some ⟨q'.mp,0,none⟩),.int .i64 v] w' fun e w''=>e=.returned (.int .i64 a1)∧Same w' w'':=by rw [← ha1];exact h3
     replace h4:∀ w',Same w5 w'→Calls Tryz.prog 68 #[.pointer (some ⟨q'.mp,0,none⟩),.int .i64 v] w' fun e w''=>e=.returned (.int .i64 a2)∧Same w' w'':=by rw [← ha2];exact h4
     rw [ha1] at h1
     rw [ha2] at h2
     have H1:=Lib.hid h1
     have H2:=Lib.hid h2
     have H3:=Lib.hid h3
     have H4:=Lib.hid h4
     clear h1 h2 h3 h4 ha1 ha2
     go_wp2_with (fail)
     refine (H1.out _ HSX.out).mono ?_
     rintro e wy ⟨rfl,rfl⟩
     go_wp2_with (fail)
     refine (H2.out _ HSX.out).mono ?_
     rintro e wy ⟨rfl,rfl⟩
     go_wp2_with (fail)
     refine (H3.out _ HSX.out).mono ?_
     rintro e wy ⟨rfl,hsy⟩
     have HSY:=Lib.hid (HSX.out.trans hsy (fun _ _ h=>h))
     clear hsy hpl hml c0 c1 c2 c3 c4 m0 m2 m3 m4
     obtain ⟨hpl,hml,c0,c1,c2,c3,c4,m0,m2,m3,m4⟩:=HC.out _ HSY.out
     go_wp2_with (fail)
     refine (H4.out _ HSY.out).mono ?_
     rintro e wz ⟨rfl,hsz⟩
     have HSZ:=Lib.hid (HSY.out.trans hsz (fun _ _ h=>h))
     clear hsz hpl hml c0 c1 c2 c3 c4 m0 m2 m3 m4
     go_wp2
     go_roundw
     case rel=>exact ⟨v+1,by omega,by go_num,HSZ.out⟩
     case measure=>simp [intOf] <;> omega
    ·obtain rfl:v=p.m.n:=by omega
     have hJ:¬ ((p.m.n:Nat):Int) < (p.m.n:Int):=by omega
     have HSX:=Lib.hid hsx
     clear hsx
     obtain ⟨hpl,hml,c0,c1,c2,c3,c4,m0,m2,m3,m4⟩:=HC.out _ HSX.out
     go_wp2_with (fail)
     refine (HRT.out _ HSX.out).mono ?_
     rintro e wa ⟨Ar,Cr,rfl,hRr,hFr,hsr⟩
     have HSA:=Lib.hid (HSX.out.trans hsr (fun _ _ h=>h))
     have HRR:=Lib.hid (show Row1 wa 28 rc Ar (rootsK p.k).length Cr (rootsK p.k) from hRr)
     clear hsr hRr hFr hpl hml c0 c1 c2 c3 c4 m0 m2 m3 m4
     obtain ⟨hpl,hml,c0,c1,c2,c3,c4,m0,m2,m3,m4⟩:=HC.out _ HSA.out
     have hrge:∀ x∈rootsK p.k,0≤x∧x < 4294967296:=roots_range HK.out
     have HRGE:=Lib.hid hrge
     have HLRT:=Lib.hid HL.out.rt
     have hrlb:(rootsK p.k).length≤1048576:=roots_len HK.out
     clear hrge
     obtain ⟨RL,hRL⟩:∃ z,rootsK p.k=z:=⟨_,rfl⟩
     rw [hRL] at HRR HRGE HLRT m3 hrlb ⊢
     clear hRL
     have e7:(RL.length != RL.length)=false:=by simp
     go_wp2_with (fail)
     go_loopw [155] (fun i wx=>∃ k:Nat,k≤RL.length∧i=.int .i64 k∧Same wa wx) (fun i _=>RL.length - (intOf i).toNat)
     case atStart=>exact ⟨0,Nat.zero_le _,rfl,Frm.refl _ _⟩
     case round =>
      as_aux_lemma =>
      clear hpl hml c0 c1 c2 c3 c4 m0 m2 m3 m4
      obtain ⟨k,hk,rfl,hsk⟩:=hrel
      have HSK:=Lib.hid (HSA.out.trans hsk (fun _ _ h=>h))
      by_cases hlt:k < RL.length
      ·have hI3:(k:Int) < (RL.length:Int):=by omega
       obtain ⟨r,hr⟩:∃ r,RL[k]?=some r:=⟨_,List.getElem?_eq_getElem hlt⟩
       have hRk:=HRR.out.frm hsk (fun _ _=>id)
       obtain ⟨sb,hA1,hsb,d0⟩:=hRk.at1 (c:=rc) hr
       obtain ⟨t,ht,hnz,hhs,hup⟩:=HLRT.out k hlt
       have hrd:RL.getD k 0=r:=by rw [List.getD_eq_getElem?_getD,hr];rfl
       rw [hrd] at ht hhs hup
       obtain ⟨hr0,hr1⟩:=HRGE.out r (List.mem_of_getElem? hr)
       obtain ⟨hf1,hf2⟩:=tabK_form HN16.out _ _ _ ht
       have htb:=HTB.out r t hr0 hr1 ht
       have hho:=fun A C=>HHO.out A C t hf1 hf2
       have hhd:=HHD.out r hr0 hr1
       rw [hhs] at hhd
       obtain ⟨hc,hhc⟩:∃ z,holdsL p.m.held t=z:=⟨_,rfl⟩
       rw [hhc] at hho hhd hnz
       have e0:(hc == 0)=false:=by simpa using hnz
       have e1:(hc != hc)=false:=by simp
       unfold rc at d0
       have hprev:k=0∨∃ k' r',k=k'+1∧RL[k']?=some r'∧¬ r≤r':=by
        rcases hup with h | h
        ·exact .inl h
        ·by_cases h0:k=0
         ·exact .inl h0
         ·refine .inr ⟨k - 1,RL.getD (k - 1) 0,by omega,?_,by rw [List.getD_eq_getElem?_getD] at h ⊢;omega⟩
          rw [List.getD_eq_getElem?_getD,List.getElem?_eq_getElem (by omega)]
          rfl
       have HTBr:=Lib.hid htb
       have HHOr:=Lib.hid hho
       have HHDr:=Lib.hid hhd
       have HPRV:=Lib.hid hprev
       have HRK:=Lib.hid hRk
       have HSKA:=Lib.hid hsk
       have HA1:=Lib.hid hA1
       clear htb hho hhd hprev hRk hsk hhs hhc hup hrd hr ht hf1 hf2
       subst hA1
       obtain ⟨hpl,hml,c0,c1,c2,c3,c4,m0,m2,m3,m4⟩:=HC.out _ HSK.out
       go_upto_region 22 with fail
       go_cut [12,13] (fun s1 s2 wx=>∃ (T:Nat) (A:Option Addr) (C:Nat),s1=.pointer (some ⟨T,0,none⟩)∧s2=.bool true∧Blk wx T 108 #[.int .i64 p.m.n,.slice A t.length C]∧OwnW wx A t.length C t∧Same wr wx)
       case first =>
        as_aux_lemma =>
        refine wp_tS (fun _=>False) (.q [0,1,2,3,4,5,6,7,8,9,10,11] (.fork 12 (.q [13,14,15] (.step 16 (.step 17 (.last 18)))) 16 (.step 12 (.q [13,14,15] (.step 17 (.last 18)))))) (by kernel_rfl) (by kernel_rfl) ?_
        simp only [wpT,pick,List.map_cons,List.map_nil,List.getD_cons_zero,List.getD_cons_succ]
        have hs:Same wr wr.drew:=(Frm.refl _ _).drew
        repeat go_big_quiet_step (fail)
        refine wpQuiet_nil ?_
        refine ⟨?_,?_⟩
        ·refine effStep_plain rfl fun K hK=>?_
         go_simp
         refine (HTBr.out _ (HSK.out.trans hs (fun _ _ h=>h))).mono ?_
         rintro e wa ⟨A5,C5,rfl,hO5,hF5,hs5⟩
         have hsa:=hs.trans hs5 (fun _ _ h=>h)
         refine hK _ _ (Lat.mk_ hsa) ?_
         clear hK K
         have HSA:=Lib.hid hsa
         have HO5:=Lib.hid hO5
         clear hsa hO5 hs5 hF5 hs
         repeat go_big_quiet_step (fail)
         refine wpQuiet_nil ?_
         refine effStep_plain rfl fun K hK=>?_
         go_simp
         refine hK _ _ (Lat.mk_ (HSA.out.alloc _)) ?_
         clear hK K
         refine effStep_plain rfl fun K hK=>?_
         go_simp
         refine hK _ _ (Lat.mk_ (HSA.out.alloc _)) ?_
         clear hK K
         go_wp2_with fail
         go_meet
         exact ⟨wa.heap.size,A5,C5,rfl,rfl,Blk.new wa _ _,HO5.out.frm (S:=fun _=>False) ((Frm.refl _ _).alloc _) (fun _ _=>id),HSA.out.alloc _⟩
        ·refine effStep_plain rfl fun K hK=>?_
         go_simp
         have hT:=(Blk.new wr 108 #[.int .i64 0,.slice none 0 0]).drew
         have hsa:Same wr (wr.alloc (.cells #[.int .i64 0,.slice none 0 0] 108)).drew:=((Frm.refl _ _).alloc _).drew
         refine hK _ _ (Lat.mk_ hsa) ?_
         clear hK K
         generalize (wr.alloc (.cells #[.int .i64 0,.slice none 0 0] 108)).drew=wa at hT hsa ⊢
         refine effStep_plain rfl fun K hK=>?_
         go_simp
         refine (HTBr.out _ (HSK.out.trans hsa (fun _ _ h=>h))).mono ?_
         rintro e wb ⟨A5,C5,rfl,hO5,hF5,hs5⟩
         have hsb:=hsa.trans hs5 (fun _ _ h=>h)
         refine hK _ _ (Lat.mk_ hsb) ?_
         clear hK K
         have hT5:=hT.frm hs5 id
         have hnA:∀ x,A5=some x→x.block≠wr.heap.size:=fun x hx h=>hO5.ne_blk hT5 (by decide) x hx h
         have t0:=hT5.cell 0
         have t1:=hT5.cell 1
         have tl:=hT5.lt
         have u0:=hT5.free 0
         have u1:=hT5.free 1
         simp at t0 t1
         have HSB:=Lib.hid hsb
         have HO5:=Lib.hid hO5
         have HT5:=Lib.hid hT5
         have HNA:=Lib.hid hnA
         clear hsb hO5 hs5 hF5 hT hT5 hsa hs hnA
         repeat go_big_quiet_step (fail)
         refine wpQuiet_nil ?_
         refine effStep_plain rfl fun K hK=>?_
         go_simp
         refine hK _ _ (Lat.mk_ ((HSB.out.setNew 0 _ (Nat.le_refl _)).setNew 1 _ (Nat.le_refl _))) ?_
         clear hK K
         go_wp2_with fail
         go_meet
         refine ⟨wr.heap.size,A5,C5,rfl,rfl,?_,(Own.far (p:=⟨wr.heap.size,0,none⟩) HO5.out HNA.out _).far (p:=⟨wr.heap.size,1,none⟩) HNA.out _,(HSB.out.setNew 0 _ (Nat.le_refl _)).setNew 1 _ (Nat.le_refl _)⟩
         have:=(HT5.out.set 0 (.int .i64 p.m.n)).set 1 (.slice A5 t.length C5)
         simpa using this
       case rest =>
        as_aux_lemma =>
        obtain ⟨T,A5,C5,rfl,rfl,hT,hO5,hs5⟩:=hcut
        have HS5:=Lib.hid (HSK.out.trans hs5 (fun _ _ h=>h))
        have HSK5:=Lib.hid (HSKA.out.trans hs5 (fun _ _ h=>h))
        have HT:=Lib.hid hT
        have HO5:=Lib.hid hO5
        clear hpl hml c0 c1 c2 c3 c4 m0 m2 m3 m4 d0 hsb hs5 hT hO5
        obtain ⟨hpl,hml,c0,c1,c2,c3,c4,m0,m2,m3,m4⟩:=HC.out _ HS5.out
        have t0:=HT.out.cell 0
        have t1:=HT.out.cell 1
        have tl:=HT.out.lt
        simp at t0 t1
        go_upto_region 23 with fail
        have hs:Same wc wc.drew:=(Frm.refl _ _).drew
        have key:∀ (G:Prop),(k=0→G)→(∀ k' r',k=k'+1→RL[k']?=some r'→¬ r≤r'→G)→G:=fun G h1 h2=>by
         rcases HPRV.out with h | ⟨k',r',a,b,c⟩
         ·exact h1 h
         ·exact h2 k' r' a b c
        refine wp_phS (fun _=>False) [([0,1,2,3,4,5,6,7],8),([9,10,11,12,13,14,15,16,18,19,20,21,22],17),([],23),([24,25,26,27,28,29,30,31,32,33,34,35,36,37],38)] (by kernel_rfl) (by kernel_rfl) ?_
        rw [wpPh_go_eq]
        simp only [pick,List.map_cons,List.map_nil,List.getD_cons_zero,List.getD_cons_succ]
        repeat go_big_quiet_step (fail)
        refine wpQuiet_nil ?_
        refine effStep_on (by rfl) fun K hK=>?_
        go_simp
        refine (HHOr.out A5 C5 _ (HS5.out.trans hs (fun _ _ h=>h)) (HO5.out.frm hs (fun _ _=>id))).mono ?_
        rintro e wd ⟨rfl,hsd⟩
        have hsd':=hs.trans hsd (fun _ _ h=>h)
        refine hK _ _ (Lat.mk_ hsd') ?_
        clear hK K
        have HSD:=Lib.hid hsd'
        have HS6:=Lib.hid (HS5.out.trans hsd' (fun _ _ h=>h))
        have HT6:=Lib.hid (HT.out.frm hsd' id)
        have HO6:=Lib.hid (HO5.out.frm hsd' (fun _ _=>id))
        clear hsd hsd' hs
        rw [wpPh_go_eq]
        simp only [pick,List.map_cons,List.map_nil,List.getD_cons_zero,List.getD_cons_succ]
        repeat go_big_quiet_step (fail)
        refine wpQuiet_nil ?_
        refine effStep_on (by rfl) fun K hK=>?_
        go_simp
        refine (HHDr.out _ HS6.out).mono ?_
        rintro e we ⟨rfl,rfl⟩
        refine hK _ _ (Lat.mk_ HSD.out) ?_
        clear hK K
        rw [wpPh_go_eq]
        simp only [pick,List.map_nil,List.getD_cons_zero,List.getD_cons_succ]
        repeat go_big_quiet_step (fail)
        refine wpQuiet_nil ?_
        refine effStep_on (by rfl) fun K hK=>?_
        go_simp
        refine (HHOr.out A5 C5 _ HS6.out HO6.out).mono ?_
        rintro e wf ⟨rfl,hsf⟩
        have HSF:=Lib.hid (HSD.out.trans hsf (fun _ _ h=>h))
        have HS7:=Lib.hid (HS6.out.trans hsf (fun _ _ h=>h))
        have HSK7:=Lib.hid (HSK5.out.trans HSF.out (fun _ _ h=>h))
        refine hK _ _ (Lat.mk_ HSF.out) ?_
        clear hK K hsf
        rcases HPRV.out with rfl | ⟨k',r',rfl,hr',hrr⟩
        ·clear key
         rw [wpPh_end_eq]
         simp only [pick,List.map_cons,List.map_nil,List.getD_cons_zero,List.getD_cons_succ]
         repeat go_big_quiet_step (fail)
         rw [wpQuiet_nil_eq]
         go_wp2
         go_roundw
         case rel=>exact ⟨1,by omega,by go_num,HSK7.out⟩
         case measure=>simp [intOf] <;> omega
        ·clear key
         obtain ⟨sb',hA',hsb,d0⟩:=(HRR.out.frm HSK5.out (fun _ _=>id)).at1 (c:=rc) hr'
         injection hA' with hA'
         injection hA' with hA'
         subst hA'
         unfold rc at d0
         have hk1:(0:Int) < (k':Int)+1:=by omega
         have hk2:(k':Int) < RL.length:=by omega
         rw [wpPh_end_eq]
         simp only [pick,List.map_cons,List.map_nil,List.getD_cons_zero,List.getD_cons_succ]
         repeat go_big_quiet_step (fail)
         rw [wpQuiet_nil_eq]
         go_wp2
         go_roundw
         case rel=>exact ⟨k'+2,by omega,by go_num,HSK7.out⟩
         case measure=>simp [intOf] <;> omega
      ·obtain rfl:k=RL.length:=by omega
       have hI3:¬ ((RL.length:Nat):Int) < (RL.length:Int):=by omega
       clear hsk
       go_wp2_with (fail)
       go_loopw [14] (fun i wx=>∃ k:Nat,k≤p.ts.length∧i=.int .i64 k∧Same w5 wx) (fun i _=>p.ts.length - (intOf i).toNat)
       case atStart=>exact ⟨0,Nat.zero_le _,rfl,HSK.out⟩
       case round =>
        as_aux_lemma =>
        obtain ⟨k,hk,rfl,hsk⟩:=hrel
        have HSK4:=Lib.hid hsk
        obtain ⟨hpl,hml,c0,c1,c2,c3,c4,m0,m2,m3,m4⟩:=HC.out _ hsk
        clear hsk
        by_cases hlt:k < p.ts.length
        ·have hI4:(k:Int) < (p.ts.length:Int):=by omega
         have hls:=HLS.out k
         obtain ⟨lb,hlb⟩:∃ z,livesB (lookP p) k=z:=⟨_,rfl⟩
         rw [hlb] at hls
         have HLK:=Lib.hid hls
         clear hls
         go_wp2_with (fail)
         refine (HLK.out _ HSK4.out).mono ?_
         rintro e wl ⟨rfl,hsl⟩
         have HSL:=Lib.hid (HSK4.out.trans hsl (fun _ _ h=>h))
         clear hsl hpl hml c0 c1 c2 c3 c4 m0 m2 m3 m4
         cases lb with
         | false =>
          clear hlb
          go_wp2
          go_roundw
          case rel=>exact ⟨k+1,by omega,by go_num,HSL.out⟩
          case measure=>simp [intOf] <;> omega
         | true =>
          obtain ⟨ht,hfn⟩:=HL.out.fn k hlt hlb
          obtain ⟨r,hr⟩:∃ r,p.refs[k]?=some r:=⟨_,List.getElem?_eq_getElem (by rw [HR.out];exact hlt)⟩
          obtain ⟨u,hu⟩:∃ u,q'.tt[k]?=some u:=⟨_,List.getElem?_eq_getElem (by have:=congrArg List.length HTTE.out;rw [List.length_map] at this;omega)⟩
          have hur:p.ts.getD k []=u.ws:=by rw [List.getD_eq_getElem?_getD,← HTTE.out,List.getElem?_map,hu];rfl
          have hrd:p.refs.getD k 0=r:=by rw [List.getD_eq_getElem?_getD,hr];rfl
          rw [hur] at ht hfn
          rw [hrd] at ht hfn
          obtain ⟨hr0,hr1⟩:=HRG.out r (List.mem_of_getElem? hr)
          have htb:=HTB.out r u.ws hr0 hr1 ht
          obtain ⟨hpl,hml,c0,c1,c2,c3,c4,m0,m2,m3,m4⟩:=HC.out _ HSL.out
          obtain ⟨rb,hrb,hrbl,d0⟩:=(HROW.out _ HSL.out).at1 (c:=rc) hr
          rw [hrb] at c2
          unfold rc at d0
          have HTBr:=Lib.hid htb
          have HHR:=Lib.hid hr
          have HHU:=Lib.hid hu
          have HFN:=Lib.hid hfn
          have HRB:=Lib.hid hrb
          clear htb hr hu hfn hrb ht hur hrd hlb
          go_upto_region 30 with fail
          go_cut [15,16] (fun s1 s2 wx=>∃ (T:Nat) (A:Option Addr) (C:Nat),s1=.pointer (some ⟨T,0,none⟩)∧s2=.bool true∧Blk wx T 108 #[.int .i64 p.m.n,.slice A u.ws.length C]∧OwnW wx A u.ws.length C u.ws∧Same wl wx)
          case first =>
           as_aux_lemma =>
           refine wp_tS (fun _=>False) (.q [0,1,2,3,4,5,6,7,8,9,10,11,12,13,14,15,16,17] (.fork 18 (.q [19,20,21] (.step 22 (.step 23 (.last 24)))) 22 (.step 18 (.q [19,20,21] (.step 23 (.last 24)))))) (by kernel_rfl) (by kernel_rfl) ?_
           simp only [wpT,pick,List.map_cons,List.map_nil,List.getD_cons_zero,List.getD_cons_succ]
           have hs:Same wl wl.drew:=(Frm.refl _ _).drew
           repeat go_big_quiet_step (fail)
           refine wpQuiet_nil ?_
           refine ⟨?_,?_⟩
           ·refine effStep_plain rfl fun K hK=>?_
            go_simp
            refine (HTBr.out _ (HSL.out.trans hs (fun _ _ h=>h))).mono ?_
            rintro e wa ⟨A5,C5,rfl,hO5,hF5,hs5⟩
            have hsa:=hs.trans hs5 (fun _ _ h=>h)
            refine hK _ _ (Lat.mk_ hsa) ?_
            clear hK K
            have HSA:=Lib.hid hsa
            have HO5:=Lib.hid hO5
            clear hsa hO5 hs5 hF5 hs
            repeat go_big_quiet_step (fail)
            refine wpQuiet_nil ?_
            refine effStep_plain rfl fun K hK=>?_
            go_simp
            refine hK _ _ (Lat.mk_ (HSA.out.alloc _)) ?_
            clear hK K
            refine effStep_plain rfl fun K hK=>?_
            go_simp
            refine hK _ _ (Lat.mk_ (HSA.out.alloc _)) ?_
            clear hK K
            go_wp2_with fail
            go_meet
            exact ⟨wa.heap.size,A5,C5,rfl,rfl,Blk.new wa _ _,HO5.out.frm (S:=fun _=>False) ((Frm.refl _ _).alloc _) (fun _ _=>id),HSA.out.alloc _⟩
           ·refine effStep_plain rfl fun K hK=>?_
            go_simp
            have hT:=(Blk.new wl 108 #[.int .i64 0,.slice none 0 0]).drew
            have hsa:Same wl (wl.alloc (.cells #[.int .i64 0,.slice none 0 0] 108)).drew:=((Frm.refl _ _).alloc _).drew
            refine hK _ _ (Lat.mk_ hsa) ?_
            clear hK K
            generalize (wl.alloc (.cells #[.int .i64 0,.slice none 0 0] 108)).drew=wa at hT hsa ⊢
            refine effStep_plain rfl fun K hK=>?_
            go_simp
            refine (HTBr.out _ (HSL.out.trans hsa (fun _ _ h=>h))).mono ?_
            rintro e wb ⟨A5,C5,rfl,hO5,hF5,hs5⟩
            have hsb:=hsa.trans hs5 (fun _ _ h=>h)
            refine hK _ _ (Lat.mk_ hsb) ?_
            clear hK K
            have hT5:=hT.frm hs5 id
            have hnA:∀ x,A5=some x→x.block≠wl.heap.size:=fun x hx h=>hO5.ne_blk hT5 (by decide) x hx h
            have t0:=hT5.cell 0
            have t1:=hT5.cell 1
            have tl:=hT5.lt
            have u0:=hT5.free 0
            have u1:=hT5.free 1
            simp at t0 t1
            have HSB:=Lib.hid hsb
            have HO5:=Lib.hid hO5
            have HT5:=Lib.hid hT5
            have HNA:=Lib.hid hnA
            clear hsb hO5 hs5 hF5 hT hT5 hsa hs hnA
            repeat go_big_quiet_step (fail)
            refine wpQuiet_nil ?_
            refine effStep_plain rfl fun K hK=>?_
            go_simp
            refine hK _ _ (Lat.mk_ ((HSB.out.setNew 0 _ (Nat.le_refl _)).setNew 1 _ (Nat.le_refl _))) ?_
            clear hK K
            go_wp2_with fail
            go_meet
            refine ⟨wl.heap.size,A5,C5,rfl,rfl,?_,(Own.far (p:=⟨wl.heap.size,0,none⟩) HO5.out HNA.out _).far (p:=⟨wl.heap.size,1,none⟩) HNA.out _,(HSB.out.setNew 0 _ (Nat.le_refl _)).setNew 1 _ (Nat.le_refl _)⟩
            have:=(HT5.out.set 0 (.int .i64 p.m.n)).set 1 (.slice A5 u.ws.length C5)
            simpa using this
          case rest =>
           as_aux_lemma =>
           obtain ⟨T,A5,C5,rfl,rfl,hT,hO5,hs5⟩:=hcut
           have HS5:=Lib.hid (HSL.out.trans hs5 (fun _ _ h=>h))
           have HT:=Lib.hid hT
           have HO5:=Lib.hid hO5
           clear hpl hml c0 c1 c2 c3 c4 m0 m2 m3 m4 d0 hrbl hs5 hT hO5
           obtain ⟨hpl,hml,c0,c1,c2,c3,c4,m0,m2,m3,m4⟩:=HC.out _ HS5.out
           have t0:=HT.out.cell 0
           have t1:=HT.out.cell 1
           have tl:=HT.out.lt
           simp at t0 t1
           obtain ⟨tb,htb,htbl,y0,y1⟩:=tab_at (HTAB.out _ HS5.out).1 (HTAB.out _ HS5.out).2 HHU.out
           rw [htb] at c3
           have hwl:=((HTAB.out _ HS5.out).2 u (List.mem_of_getElem? HHU.out)).fm.len
           have hsm:=fun w' (hs:Same wc w')=>tsame_any p.m.n A5 u.ws.length C5 u.ws p.m.n u.A u.ws.length u.C u.ws w' ((HO5.out.frm hs (fun _ _=>id)).sl ucell_len) (((HTAB.out _ (HS5.out.trans hs (fun _ _ h=>h))).2 u (List.mem_of_getElem? HHU.out)).ok.wl) (by rw [hwl];have:=nw_le HN16.out;omega)
           have esm:sm p.m.n p.m.n u.ws u.ws=true:=by unfold sm;simp
           rw [esm] at hsm
           have HSMk:=Lib.hid hsm
           have HTBK:=Lib.hid htb
           clear esm hsm hwl htb
           go_upto_region 31 with fail
           have hs:Same wc wc.drew:=(Frm.refl _ _).drew
           refine wp_phS (fun _=>False) [([0,1,2,3,4,5,6,7,8,9,10],11),([12],13)] (by kernel_rfl) (by kernel_rfl) ?_
           rw [wpPh_go_eq]
           simp only [pick,List.map_cons,List.map_nil,List.getD_cons_zero,List.getD_cons_succ]
           repeat go_big_quiet_step (fail)
           refine wpQuiet_nil ?_
           refine effStep_on (by rfl) fun K hK=>?_
           go_simp
           refine (HSMk.out _ hs).mono ?_
           rintro e wd ⟨rfl,hsd⟩
           have hsd':=hs.trans hsd (fun _ _ h=>h)
           refine hK _ _ (Lat.mk_ hsd') ?_
           clear hK K
           have HSD:=Lib.hid (HS5.out.trans hsd' (fun _ _ h=>h))
           clear hsd hsd' hs HSMk HT HO5 HTBr HLK
           rw [wpPh_end_eq]
           simp only [pick,List.map_cons,List.map_nil,List.getD_cons_zero,List.getD_cons_succ]
           repeat go_big_quiet_step (fail)
           rw [wpQuiet_nil_eq]
           clear hpl hml c0 c1 c2 c3 c4 m0 m2 m3 m4 t0 t1 tl htbl y0 y1
           go_wp2_with (fail)
           go_loopw [17] (fun i wx=>∃ j:Nat,j≤k∧i=.int .i64 j∧Same w5 wx) (fun i _=>k - (intOf i).toNat)
           case atStart=>exact ⟨0,Nat.zero_le _,rfl,HSD.out⟩
           case round =>
            as_aux_lemma =>
            obtain ⟨j,hj,rfl,hsj⟩:=hrel
            have HSJ:=Lib.hid hsj
            clear hsj
            by_cases hjk:j < k
            ·have hI5:(j:Int) < (k:Int):=by omega
             have hI6:(j:Int) < (p.ts.length:Int):=by omega
             have hjt:j < p.ts.length:=by omega
             have hls:=HLS.out j
             obtain ⟨lj,hlj⟩:∃ z,livesB (lookP p) j=z:=⟨_,rfl⟩
             rw [hlj] at hls
             have HLJ:=Lib.hid hls
             obtain ⟨rj,hrj⟩:∃ r,p.refs[j]?=some r:=⟨_,List.getElem?_eq_getElem (by rw [HR.out];exact hjt)⟩
             obtain ⟨v,hv⟩:∃ u,q'.tt[j]?=some u:=⟨_,List.getElem?_eq_getElem (by have:=congrArg List.length HTTE.out;rw [List.length_map] at this;omega)⟩
             have hvr:p.ts.getD j []=v.ws:=by rw [List.getD_eq_getElem?_getD,← HTTE.out,List.getElem?_map,hv];rfl
             have hrjd:p.refs.getD j 0=rj:=by rw [List.getD_eq_getElem?_getD,hrj];rfl
             have hfj:=HFN.out j hjk
             rw [hvr,hrjd,hlj] at hfj
             have hwl:=((HTAB.out _ HSJ.out).2 u (List.mem_of_getElem? HHU.out)).fm.len
             have hsm:=fun w' (hs:Same w5 w')=>tsame_any p.m.n u.A u.ws.length u.C u.ws p.m.n v.A v.ws.length v.C v.ws w' (((HTAB.out _ hs).2 u (List.mem_of_getElem? HHU.out)).ok.wl) (((HTAB.out _ hs).2 v (List.mem_of_getElem? hv)).ok.wl) (by rw [hwl];have:=nw_le HN16.out;omega)
             have esm:sm p.m.n p.m.n u.ws v.ws=decide (u.ws=v.ws):=by unfold sm;simp
             rw [esm] at hsm
             have HVR:=Lib.hid hvr
             have HFJ:=Lib.hid hfj
             have HSMj:=Lib.hid hsm
             have HRJ:=Lib.hid hrj
             have HHV:=Lib.hid hv
             clear hls hlj hrj hv hvr hrjd hfj hwl hsm esm
             obtain ⟨hpl,hml,c0,c1,c2,c3,c4,m0,m2,m3,m4⟩:=HC.out _ HSJ.out
             go_upto_region 36 with fail
             have hs:Same wr wr.drew:=(Frm.refl _ _).drew
             cases lj with
             | false =>
              refine wp_phS (fun _=>False) [([0,1],2),([3,4,5,6,7,8,9,10,11,12,13,14,15,16,17,19,20,21,22,23,24,25,26,27,28,29,30,31,32,33],18),([34],35)] (by kernel_rfl) (by kernel_rfl) ?_
              rw [wpPh_go_eq]
              simp only [pick,List.map_cons,List.map_nil,List.getD_cons_zero,List.getD_cons_succ]
              repeat go_big_quiet_step (fail)
              refine wpQuiet_nil ?_
              refine effStep_plain rfl fun K hK=>?_
              go_simp
              refine (HLJ.out _ (HSJ.out.trans hs (fun _ _ h=>h))).mono ?_
              rintro e wy ⟨rfl,hsy⟩
              have hsy':=hs.trans hsy (fun _ _ h=>h)
              refine hK _ _ (Lat.mk_ hsy') ?_
              clear hK K
              have HSY:=Lib.hid (HSJ.out.trans hsy' (fun _ _ h=>h))
              clear hsy hsy' hs
              rw [wpPh_go_eq]
              simp only [pick,List.map_cons,List.map_nil,List.getD_cons_zero,List.getD_cons_succ]
              repeat go_big_quiet_step (fail)
              rw [wpQuiet_nil_eq]
              rw [effStep_skip_eq]
              rotate_left
              ·rfl
              rw [wpPh_end_eq]
              simp only [pick,List.map_cons,List.map_nil,List.getD_cons_zero,List.getD_cons_succ,Act.put,List.setIfInBounds_toArray,List.set_cons_succ,List.set_cons_zero]
              repeat go_big_quiet_step (fail)
              rw [wpQuiet_nil_eq]
              go_wp2
              go_roundw
              case rel=>exact ⟨j+1,by omega,by go_num,HSY.out⟩
              case measure=>simp [intOf] <;> omega
             | true =>
              have hfj:=HFJ.out rfl
              obtain ⟨bj,hbj⟩:∃ z,decide (u.ws=v.ws)=z:=⟨_,rfl⟩
              rw [hbj] at HSMj hfj
              have HFJ2:=Lib.hid hfj
              clear hfj hbj
              obtain ⟨tb2,htb2,htbl,y0,y1⟩:=tab_at (HTAB.out _ HSJ.out).1 (HTAB.out _ HSJ.out).2 HHU.out
              obtain ⟨tb3,htb3,_,z0,z1⟩:=tab_at (HTAB.out _ HSJ.out).1 (HTAB.out _ HSJ.out).2 HHV.out
              rw [htb2] at htb3 c3
              injection htb3 with htb3
              injection htb3 with htb3
              subst htb3
              obtain ⟨rb2,hrb2,hrbl,d0⟩:=(HROW.out _ HSJ.out).at1 (c:=rc) HHR.out
              obtain ⟨rb3,hrb3,_,d1⟩:=(HROW.out _ HSJ.out).at1 (c:=rc) HRJ.out
              rw [hrb2] at hrb3 c2
              injection hrb3 with hrb3
              injection hrb3 with hrb3
              subst hrb3
              unfold rc at d0 d1
              clear htb2 hrb2
              refine wp_phS (fun _=>False) [([0,1],2),([3,4,5,6,7,8,9,10,11,12,13,14,15,16,17,19,20,21,22,23,24,25,26,27,28,29,30,31,32,33],18),([34],35)] (by kernel_rfl) (by kernel_rfl) ?_
              rw [wpPh_go_eq]
              simp only [pick,List.map_cons,List.map_nil,List.getD_cons_zero,List.getD_cons_succ]
              repeat go_big_quiet_step (fail)
              refine wpQuiet_nil ?_
              refine effStep_plain rfl fun K hK=>?_
              go_simp
              refine (HLJ.out _ (HSJ.out.trans hs (fun _ _ h=>h))).mono ?_
              rintro e wy ⟨rfl,hsy⟩
              have hsy':=hs.trans hsy (fun _ _ h=>h)
              refine hK _ _ (Lat.mk_ hsy') ?_
              clear hK K
              have HSYX:=Lib.hid hsy'
              have HSY:=Lib.hid (HSJ.out.trans hsy' (fun _ _ h=>h))
              clear hsy hsy' hs
              rw [wpPh_go_eq]
              simp only [pick,List.map_cons,List.map_nil,List.getD_cons_zero,List.getD_cons_succ]
              repeat go_big_quiet_step (fail)
              refine wpQuiet_nil ?_
              refine effStep_on (by rfl) fun K hK=>?_
              go_simp
              refine (HSMj.out _ HSY.out).mono ?_
              rintro e wz ⟨rfl,hsz⟩
              have HSZ:=Lib.hid (HSY.out.trans hsz (fun _ _ h=>h))
              refine hK _ _ (Lat.mk_ (HSYX.out.trans hsz (fun _ _ h=>h))) ?_
              clear hK K hsz
              by_cases hrr:r=rj
              ·have hb:bj=true:=by rw [HFJ2.out];simpa using hrr
               subst hb
               subst hrr
               rw [wpPh_end_eq]
               simp only [pick,List.map_cons,List.map_nil,List.getD_cons_zero,List.getD_cons_succ]
               repeat go_big_quiet_step (fail)
               rw [wpQuiet_nil_eq]
               go_wp2
               go_roundw
               case rel=>exact ⟨j+1,by omega,by go_num,HSZ.out⟩
               case measure=>simp [intOf] <;> omega
              ·have hb:bj=false:=by rw [HFJ2.out];simpa using hrr
               subst hb
               rw [wpPh_end_eq]
               simp only [pick,List.map_cons,List.map_nil,List.getD_cons_zero,List.getD_cons_succ]
               repeat go_big_quiet_step (fail)
               rw [wpQuiet_nil_eq]
               go_wp2
               go_roundw
               case rel=>exact ⟨j+1,by omega,by go_num,HSZ.out⟩
               case measure=>simp [intOf] <;> omega
            ·obtain rfl:j=k:=by omega
             have hI5:¬ (j:Int) < (j:Int):=by omega
             obtain ⟨hpl,hml,c0,c1,c2,c3,c4,m0,m2,m3,m4⟩:=HC.out _ HSJ.out
             go_wp2
             go_roundw
             case rel=>exact ⟨j+1,by omega,by go_num,HSJ.out⟩
             case measure=>simp [intOf] <;> omega
        ·obtain rfl:k=p.ts.length:=by omega
         have hI4:¬ ((p.ts.length:Nat):Int) < (p.ts.length:Int):=by omega
         go_wp2
         go_ret
         obtain ⟨q9,h9⟩:=HFIN.out
         exact ⟨rfl,⟨q9,h9.same HSK4.out⟩,HUF.out.trans (Up.ofSame HSK4.out)⟩
end
set_option maxRecDepth 100000
theorem ki_st0:KI st0.k:=ki_new (n:=2) (c:=5) (by decide) (by decide) (by decide) (by decide)
theorem st1_k:st1.k=(makeK st0.k (mkNd st0 1 0 1)).2.2:=by
 unfold st1 countP makeP
 split <;> rfl
theorem st2_k:st2.k=(makeK st1.k (mkNd st1 0 0 2)).2.2:=by
 unfold st2 countP makeP
 split <;> rfl
theorem ki_st1:KI st1.k:=by
 rw [st1_k]
 exact ki_make ki_st0 (by decide +kernel) (by decide +kernel)
theorem ki_st2:KI st2.k:=by
 rw [st2_k]
 exact ki_make ki_st1 (by decide +kernel) (by decide +kernel)
theorem ki_st3:KI st3.k:=ki_drop ki_st2 (by decide +kernel)
structure PC (p:PS):Prop where
 ord:OrdOk p.m
 hc:HcOk p.m
 hh:p.m.held.length < 1500000
 hd:p.dead.length=p.ts.length
 hr:p.refs.length=p.ts.length
 hll:p.live.length≤2097152000000
 hrg:∀ x∈p.refs,0≤x∧x < 4294967296
 htl:p.ts.length≤4000000000000
 hon:p.m.ord.length=p.m.n
 htm:p.m.tr.length < 10000000000000
theorem pc_st0:PC st0:=⟨by unfold OrdOk;decide +kernel,by unfold HcOk;decide +kernel,by decide +kernel,by decide +kernel,by decide +kernel,by decide +kernel,by decide +kernel,by decide +kernel,by decide +kernel,by decide +kernel⟩
theorem pc_st1:PC st1:=⟨by unfold OrdOk;decide +kernel,by unfold HcOk;decide +kernel,by decide +kernel,by decide +kernel,by decide +kernel,by decide +kernel,by decide +kernel,by decide +kernel,by decide +kernel,by decide +kernel⟩
theorem pc_st2:PC st2:=⟨by unfold OrdOk;decide +kernel,by unfold HcOk;decide +kernel,by decide +kernel,by decide +kernel,by decide +kernel,by decide +kernel,by decide +kernel,by decide +kernel,by decide +kernel,by decide +kernel⟩
theorem pc_st3:PC st3:=⟨by unfold OrdOk;decide +kernel,by unfold HcOk;decide +kernel,by decide +kernel,by decide +kernel,by decide +kernel,by decide +kernel,by decide +kernel,by decide +kernel,by decide +kernel,by decide +kernel⟩
def opsA:List (Int × Int × Int × Int):=[(1,1,0,1),(1,0,0,2),(3,2,0,0),(4,0,0,0)]
def opc (o:Int × Int × Int × Int):List Value:=[.int .i64 o.1,.int .i64 o.2.1,.int .i64 o.2.2.1,.int .i64 o.2.2.2]
theorem opc_len (o:Int × Int × Int × Int):(opc o).length=4:=rfl
def preA:Nat→PS
 | 0=>beginP 2 5
 | 1=>makeP st0 1 0 1
 | 2=>makeP st1 0 0 2
 | 3=>dropP st2 2
 | _=>exchP st3 0
theorem ord_pre (k:Nat):OrdOk (preA k).m:=by
 match k with
 | 0=>unfold OrdOk;decide +kernel
 | 1=>unfold OrdOk;decide +kernel
 | 2=>unfold OrdOk;decide +kernel
 | 3=>unfold OrdOk;decide +kernel
 | _+4=>unfold OrdOk;show ∀ v∈(exchP st3 0).m.ord,0≤v∧v < (exchP st3 0).m.n;decide +kernel
section
variable {w w':World} {B:Nat→Prop} {pp:Nat} {q:PA}
abbrev DoesTo (B:Nat→Prop) (w:World) (pp:Nat) (p':PS) (e:Ending) (w':World):Prop:=e=.returned (.bool true)∧(∃ q',PW B w' pp p' q')∧Up B w w'
theorem step0 (hP:PW B w pp st0 q) (hB:∀ b,B b→b < w.heap.size) :
  Calls Tryz.prog 31 #[.pointer (some ⟨pp,0,none⟩),.agg #[.int .i64 1,.int .i64 1,.int .i64 0,.int .i64 1]] w (DoesTo B w pp (makeP st0 1 0 1)):=by
 refine (does_make pp 1 0 1 (fun w' _ w''=>(∃ q',PW B w'' pp (makeP st0 1 0 1) q')∧Up B w' w'') (fun w' hs=>?_)).mono ?_
 ·exact make_law (hP.same hs) (fun b hb=>Nat.lt_of_lt_of_le (hB b hb) hs.size) ki_st0 pc_st0.ord pc_st0.hc pc_st0.hh pc_st0.hd pc_st0.hr pc_st0.hll pc_st0.hrg pc_st0.htl 1 1 0 1 run_l0.1 run_l0.2 run_a1 (fun h=>absurd run_n1.2.2 h) run_n1.1 run_n1.2.1
 ·rintro e w'' ⟨rfl,w',hs,hq,hu⟩
  exact ⟨rfl,hq,(Up.ofSame hs).trans hu⟩
theorem step1 (hP:PW B w pp st1 q) (hB:∀ b,B b→b < w.heap.size) :
  Calls Tryz.prog 31 #[.pointer (some ⟨pp,0,none⟩),.agg #[.int .i64 1,.int .i64 0,.int .i64 0,.int .i64 2]] w (DoesTo B w pp (makeP st1 0 0 2)):=by
 refine (does_make pp 0 0 2 (fun w' _ w''=>(∃ q',PW B w'' pp (makeP st1 0 0 2) q')∧Up B w' w'') (fun w' hs=>?_)).mono ?_
 ·exact make_law (hP.same hs) (fun b hb=>Nat.lt_of_lt_of_le (hB b hb) hs.size) ki_st1 pc_st1.ord pc_st1.hc pc_st1.hh pc_st1.hd pc_st1.hr pc_st1.hll pc_st1.hrg pc_st1.htl 1 0 0 2 run_l1.1 run_l1.2 run_a2 (fun h=>absurd run_n2.2.2 h) run_n2.1 run_n2.2.1
 ·rintro e w'' ⟨rfl,w',hs,hq,hu⟩
  exact ⟨rfl,hq,(Up.ofSame hs).trans hu⟩
theorem step2 (hP:PW B w pp st2 q) (hB:∀ b,B b→b < w.heap.size) :
  Calls Tryz.prog 31 #[.pointer (some ⟨pp,0,none⟩),.agg #[.int .i64 3,.int .i64 2,.int .i64 0,.int .i64 0]] w (DoesTo B w pp (dropP st2 2)) :=
 does_drop hP hB ki_st2.bk pc_st2.hc pc_st2.hd pc_st2.hr pc_st2.hll pc_st2.hrg 2 0 0 run_l2 run_a3 run_n3.1 run_n3.2
theorem step3 (hP:PW B w pp st3 q) (hB:∀ b,B b→b < w.heap.size) :
  Calls Tryz.prog 31 #[.pointer (some ⟨pp,0,none⟩),.agg #[.int .i64 4,.int .i64 0,.int .i64 0,.int .i64 0]] w (DoesTo B w pp (exchP st3 0)):=by
 refine does_exch hP hB 0 0 0 (by decide +kernel) (fun _ h1=>?_) (by decide +kernel) pc_st3.ord pc_st3.hon pc_st3.htm run_a4 run_n4.1 run_n4.2
 obtain ⟨x,y,h⟩:=xy_of (l:=(0:Int).toNat) ki_st3 (by decide +kernel)
 exact ⟨x,y,turn_ok h ki_st3⟩
theorem step_law (k:Nat) (o:Int × Int × Int × Int) (ho:opsA[k]?=some o) (hP:PW B w pp (countP (preA k)) q) (hB:∀ b,B b→b < w.heap.size) :
  Calls Tryz.prog 31 #[.pointer (some ⟨pp,0,none⟩),.agg #[.int .i64 o.1,.int .i64 o.2.1,.int .i64 o.2.2.1,.int .i64 o.2.2.2]] w (DoesTo B w pp (preA (k+1))):=by
 match k with
 | 0=>injection ho with ho;subst ho;exact step0 hP hB
 | 1=>injection ho with ho;subst ho;exact step1 hP hB
 | 2=>injection ho with ho;subst ho;exact step2 hP hB
 | 3=>injection ho with ho;subst ho;exact step3 hP hB
 | _+4=>cases ho
end
theorem run_look5:lookB (exchP st3 0)=true:=by decide +kernel
section
variable {w w':World} {B:Nat→Prop} {pp:Nat} {p:PS} {q:PA}
theorem Up.kept {g:Nat} {ty:TypeId} {cs:Array Value} (h:Up B w w') (hb:Blk w g ty cs) (hg:B g):Blk w' g ty cs:=hb.frm h (fun hn=>hn hg)
set_option maxRecDepth 100000
theorem ki_st5:KI (exchP st3 0).k:=ki_exch ki_st3 0
theorem pc_st5:PC (exchP st3 0):=⟨by unfold OrdOk;decide +kernel,by unfold HcOk;decide +kernel,by decide +kernel,by decide +kernel,by decide +kernel,by decide +kernel,by decide +kernel,by decide +kernel,by decide +kernel,by decide +kernel⟩
theorem st5_len:(exchP st3 0).refs.length=4:=by decide +kernel
theorem st5_tr:(exchP st3 0).k.tr.length=1:=by decide +kernel
theorem st5_ac:(exchP st3 0).k.ac=4:=by decide +kernel
theorem st5_ord:(exchP st3 0).k.ord.length≤64:=by decide +kernel
theorem awake9_law (w:World):Calls Tryz.prog 12 #[] w fun e w'=>e=.returned (.bool true)∧Same w w':=by
 have hbg:=begin_law 2 5 (by decide) (by decide) (by decide) (by decide) w
 have HBG:=Lib.hid hbg
 clear hbg
 go_enter Tryz.func12,Tryz.ntmps12
 go_wp2_with (fail)
 refine HBG.out.mono ?_
 rintro e w1 ⟨pp,q1,rfl,hP1,hs1⟩
 have HP1:=Lib.hid hP1
 have HS1:=Lib.hid hs1
 clear hP1 hs1
 go_wp2_with (fail)
 refine wp_world fun w2 hw2=>?_
 have hSB:=Blk.new w1 60 #[.int .i64 1,.int .i64 1,.int .i64 0,.int .i64 1,.int .i64 1,.int .i64 0,.int .i64 0,.int .i64 2,.int .i64 3,.int .i64 2,.int .i64 0,.int .i64 0,.int .i64 4,.int .i64 0,.int .i64 0,.int .i64 0]
 have hs2:Same w1 w2:=by rw [hw2];exact (Frm.refl _ _).alloc _
 rw [← hw2] at hSB
 clear hw2
 have hP2:PW (fun b=>b < w.heap.size∨b=w1.heap.size) w2 pp (beginP 2 5) q1:=(HP1.out.same hs2).keepB (fun b hb hn=>by
  rcases hn with hn | hn
  ·exact HP1.out.base b hb hn
  ·have:=HP1.out.all_lt b hb
   omega)
 have hW1:=HS1.out.size
 obtain ⟨SB,hSBe⟩:∃ z,w1.heap.size=z:=⟨_,rfl⟩
 rw [hSBe] at hSB hP2 ⊢
 have hS12:Same w w2:=HS1.out.trans hs2 (fun _ _ h=>h)
 have hB2:∀ b,(b < w.heap.size∨b=SB)→b < w2.heap.size:=fun b hb=>by
  have:=hSB.lt
  have:=hs2.size
  omega
 have HSB:=Lib.hid hSB
 have HP2:=Lib.hid hP2
 have HS12:=Lib.hid hS12
 have HB2:=Lib.hid hB2
 clear hSB hP2 hS12 hB2 hs2 hSBe hW1
 go_loopw [17] (fun i wr=>∃ k:Nat,k≤4∧i=.int .i64 k∧(∃ q',PW (fun b=>b < w.heap.size∨b=SB) wr pp (preA k) q')∧Up (fun b=>b < w.heap.size∨b=SB) w2 wr) (fun i _=>4 - (intOf i).toNat)
 case atStart=>exact ⟨0,by omega,rfl,⟨q1,HP2.out⟩,Frm.refl _ _⟩
 case round =>
  obtain ⟨k,hk,rfl,⟨q',hPr⟩,hU⟩:=hrel
  have hSBr:=hU.kept HSB.out (.inr rfl)
  have hBr:∀ b,(b < w.heap.size∨b=SB)→b < wr.heap.size:=fun b hb=>Nat.lt_of_lt_of_le (HB2.out b hb) hU.size
  by_cases hlt:k < 4
  ·have hI:(k:Int) < 4:=by omega
   obtain ⟨o,ho⟩:∃ o,opsA[k]?=some o:=⟨_,List.getElem?_eq_getElem (by exact hlt)⟩
   have hrow:Go.Tk.Own wr 60 4 opc (some ⟨SB,0,none⟩) opsA.length opsA.length opsA:=Own.ofBlk opc_len hSBr opsA (by decide) rfl
   obtain ⟨b',hb',hbl,hc⟩:=hrow.get opc_len ho
   injection hb' with hb'
   injection hb' with hb'
   subst hb'
   have c0:wr.cell? ⟨SB,k * 4,none⟩=some (.int .i64 o.1):=hc 0 (by omega)
   have c1:wr.cell? ⟨SB,k * 4+1,none⟩=some (.int .i64 o.2.1):=hc 1 (by omega)
   have c2:wr.cell? ⟨SB,k * 4+2,none⟩=some (.int .i64 o.2.2.1):=hc 2 (by omega)
   have c3:wr.cell? ⟨SB,k * 4+3,none⟩=some (.int .i64 o.2.2.2):=hc 3 (by omega)
   have HO:=Lib.hid ho
   have HPR:=Lib.hid hPr
   have HU:=Lib.hid hU
   have HBR:=Lib.hid hBr
   clear ho hPr hU hBr hrow hSBr hc
   go_upto_region 7 with fail
   refine wp_world fun w3 hw3=>?_
   have hT:=Blk.new wr 60 #[.int .i64 o.1,.int .i64 o.2.1,.int .i64 o.2.2.1,.int .i64 o.2.2.2]
   have hs3:Same wr w3:=by rw [hw3];exact (Frm.refl _ _).alloc _
   rw [← hw3] at hT
   clear hw3
   have hP3:PW (fun b=>(b < w.heap.size∨b=SB)∨b=wr.heap.size) w3 pp (preA k) q':=(HPR.out.same hs3).keepB (fun b hb hn=>by
    rcases hn with hn | hn
    ·exact HPR.out.base b hb hn
    ·have:=HPR.out.all_lt b hb
     omega)
   have hB3:∀ b,((b < w.heap.size∨b=SB)∨b=wr.heap.size)→b < w3.heap.size:=fun b hb=>by
    have:=hT.lt
    have:=hs3.size
    rcases hb with hb | hb
    ·have:=HBR.out b hb
     omega
    ·omega
   have hU3:Up (fun b=>b < w.heap.size∨b=SB) w2 w3:=HU.out.trans (Up.ofSame hs3)
   have hcl:=count_law hP3 (ord_pre k) hB3
   have HCL:=Lib.hid hcl
   have HB3:=Lib.hid hB3
   have HT:=Lib.hid hT
   have HU3:=Lib.hid hU3
   clear hT hs3 hP3 hB3 hU3 hcl c0 c1 c2 c3 hbl HPR HU HBR
   go_wp2_with (fail)
   refine HCL.out.mono ?_
   rintro e w4 ⟨rfl,⟨q4,hP4⟩,hU4⟩
   have hT4:=hU4.kept HT.out (.inr rfl)
   have hB4:∀ b,((b < w.heap.size∨b=SB)∨b=wr.heap.size)→b < w4.heap.size:=fun b hb=>Nat.lt_of_lt_of_le (HB3.out b hb) hU4.size
   have hst:=step_law k o HO.out hP4 hB4
   have HST:=Lib.hid hst
   have hU24:Up (fun b=>b < w.heap.size∨b=SB) w2 w4:=HU3.out.trans (Frm.mono hU4 (fun b _ hn hb=>hn (.inl hb)))
   have HU4:=Lib.hid hU24
   have t0:=hT4.cell 0
   have t1:=hT4.cell 1
   have t2:=hT4.cell 2
   have t3:=hT4.cell 3
   have tl:=hT4.lt
   simp at t0 t1 t2 t3
   clear hP4 hU4 hT4 hB4 hst hU24
   go_wp2_with (fail)
   refine HST.out.mono ?_
   rintro e w5 ⟨rfl,⟨q5,hP5⟩,hU5⟩
   have HP5:=Lib.hid (hP5.keepB (B':=fun b=>b < w.heap.size∨b=SB) (fun b hb hn=>hP5.base b hb (.inl hn)))
   have HU5:=Lib.hid (show Up (fun b=>b < w.heap.size∨b=SB) w2 w5 from HU4.out.trans (Frm.mono hU5 (fun b _ hn hb=>hn (.inl hb))))
   clear hP5 hU5 t0 t1 t2 t3 tl
   go_wp2
   go_roundw
   case rel=>exact ⟨k+1,by omega,by go_num,⟨q5,HP5.out⟩,HU5.out⟩
   case measure=>simp [intOf] <;> omega
  ·obtain rfl:k=4:=by omega
   have hP5:PW (fun b=>b < w.heap.size∨b=SB) wr pp (exchP st3 0) q':=hPr
   have hlk:=looks_law hP5 hBr ki_st5 (rng_ki ki_st5) pc_st5.ord pc_st5.hd pc_st5.hr pc_st5.hrg pc_st5.htl st5_ord (by rw [st5_ac] <;> decide) (look_facts run_look5)
   have HLK:=Lib.hid hlk
   have c2:=hP5.c2
   rw [st5_len] at c2
   have hpl:=hP5.blk.lt
   have HU:=Lib.hid hU
   clear hPr hP5 hlk hBr hSBr hU
   go_wp2_with (fail)
   refine HLK.out.mono ?_
   rintro e w6 ⟨rfl,⟨q6,hP6⟩,hU6⟩
   clear c2 hpl
   have hlv:Calls Tryz.prog 18 #[.pointer (some ⟨q6.kp,0,none⟩)] w6 fun e w''=>e=.returned (.int .i64 2)∧w6=w'':=by
    have h:=klive2_any hP6.k (by rw [show (lookP (exchP st3 0)).k.ac=4 from st5_ac] <;> decide)
    rw [show (((lookP (exchP st3 0)).k.ac:Nat):Int) - 2=2 from by rw [show (lookP (exchP st3 0)).k.ac=4 from st5_ac];rfl] at h
    exact h
   have htr:Calls Tryz.prog 35 #[.pointer (some ⟨q6.kp,0,none⟩)] w6 fun e w''=>e=.returned (.int .i64 1)∧w6=w'':=by
    have h:=ktrail_any hP6.k
    rw [show (lookP (exchP st3 0)).k.tr.length=1 from st5_tr] at h
    exact h
   have hpl:=hP6.blk.lt
   have c0:=hP6.c0
   have HLV:=Lib.hid hlv
   have HTR:=Lib.hid htr
   have hfin:Same w w6:=by
    have h1:=HU.out.trans hU6
    exact HS12.out.trans (Frm.mono h1 (fun b _ h=>h)) (fun b hb hn=>hn (.inl hb))
   have HFIN:=Lib.hid hfin
   clear hlv htr hP6 hU6 hfin
   go_wp2_with (fail)
   refine HLV.out.mono ?_
   rintro e w7 ⟨rfl,rfl⟩
   go_wp2_with (fail)
   refine HTR.out.mono ?_
   rintro e w7 ⟨rfl,rfl⟩
   go_wp2
   go_ret
   exact ⟨rfl,HFIN.out⟩
end
theorem holdK_st (k:KS) (r:Int):(holdK k r).n=k.n∧(holdK k r).c=k.c:=by
 unfold holdK
 split
 ·exact ⟨useK_n k r,congrArg (fun t=>t.2.1) (useK_kst k r)⟩
 ·exact ⟨rfl,rfl⟩
theorem keepK_st (k:KS) (r:Int):(keepK k r).2.n=k.n∧(keepK k r).2.c=k.c:=by
 unfold keepK
 split
 ·exact ⟨rfl,rfl⟩
 ·split
  ·split
   ·exact ⟨rfl,rfl⟩
   ·exact holdK_st k r
  ·exact ⟨rfl,rfl⟩
theorem relK_st (k:KS) (r:Int):(relK k r).n=k.n∧(relK k r).c=k.c:=⟨relF_n _ k _,congrArg (fun t=>t.2.1) (relF_kst _ k _)⟩
theorem unholdK_st (k:KS) (r:Int):(unholdK k r).n=k.n∧(unholdK k r).c=k.c:=by
 unfold unholdK
 split
 ·exact relK_st _ r
 ·exact ⟨rfl,rfl⟩
theorem dropK_st (k:KS) (r:Int):(dropK k r).2.n=k.n∧(dropK k r).2.c=k.c:=by
 unfold dropK
 split
 ·split
  ·exact ⟨rfl,rfl⟩
  ·exact unholdK_st k r
 ·exact ⟨rfl,rfl⟩
theorem keptK_st (k:KS) (r:Int):(keptK k r).2.2.n=k.n∧(keptK k r).2.2.c=k.c:=by
 unfold keptK
 split
 ·exact keepK_st k r
 ·exact keepK_st k r
theorem makeL_st (k:KS) (n:Nd) (o:Option Int):(makeL k n o).2.2.n=k.n∧(makeL k n o).2.2.c=k.c:=by
 cases o with
 | some r=>exact keptK_st k r
 | none =>
  show (if k.ac+1≤k.c then keptK (takeK k n) (takeR k) else (0,9,k)).2.2.n=k.n∧(if k.ac+1≤k.c then keptK (takeK k n) (takeR k) else (0,9,k)).2.2.c=k.c
  by_cases hc:k.ac+1≤k.c
  ·rw [if_pos hc]
   have h:=keptK_st (takeK k n) (takeR k)
   exact ⟨h.1.trans (takeK_n k n),h.2.trans (congrArg (fun t=>t.2.1) (takeK_kst k n))⟩
  ·rw [if_neg hc]
   exact ⟨rfl,rfl⟩
theorem makeK_st (k:KS) (n:Nd):(makeK k n).2.2.n=k.n∧(makeK k n).2.2.c=k.c:=by
 unfold makeK
 split
 ·exact makeL_st k n _
 ·exact ⟨rfl,rfl⟩
theorem turnK_st (k:KS) (l:Nat):(turnK k l).2.n=k.n∧(turnK k l).2.c=k.c:=by
 refine ⟨turnK_n k l,?_⟩
 unfold turnK
 split
 ·show (turn3 (turn2 (turn1 k _) _ _ _) _).c=k.c
  have h:=fun x y=>((turn3_kst (turn2 (turn1 k (crsT k x y)) x y (crsT k x y)) (crsT k x y)).trans (turn2_kst _ x y _)).trans (turn1_kst k (crsT k x y))
  exact congrArg (fun t=>t.2.1) (h _ _)
 ·rfl
theorem exchK_st (k:KS) (l:Int):(exchK k l).2.n=k.n∧(exchK k l).2.c=k.c:=by
 unfold exchK
 split
 ·exact ⟨rfl,rfl⟩
 ·split
  ·exact turnK_st k _
  ·exact turnK_st k _
theorem undoK_st (k:KS):(undoK k).2.2.n=k.n∧(undoK k).2.2.c=k.c:=by
 unfold undoK
 split
 ·exact ⟨rfl,rfl⟩
 ·exact turnK_st k _
structure KR (B:Nat→Prop) (w:World) (kp:Nat) (k:KS):Prop where
 ex:∃ a,KW w kp k a∧∀ b,KFp k.n kp a b→¬ B b
 ki:KI k
def TrOk (k:KS):Prop:=∀ l∈k.tr,0≤l∧l+1 < k.n
section
variable {w w':World} {B B':Nat→Prop} {kp:Nat} {k:KS}
theorem KR.same (h:KR B w kp k) (hs:Same w w'):KR B w' kp k:=by
 obtain ⟨a,h1,h2⟩:=h.ex
 exact ⟨⟨a,h1.same hs,h2⟩,h.ki⟩
theorem KR.sub (h:KR B w kp k) (hs:∀ b,B' b→B b):KR B' w kp k:=by
 obtain ⟨a,h1,h2⟩:=h.ex
 exact ⟨⟨a,h1,fun b hb hn=>h2 b hb (hs b hn)⟩,h.ki⟩
theorem KR.also (h:KR B w kp k) (hs:Same w w') {C:Nat→Prop} (hC:∀ b,C b→w.heap.size≤b):KR (fun b=>B b∨C b) w' kp k:=by
 obtain ⟨a,h1,h2⟩:=h.ex
 refine ⟨⟨a,h1.same hs,fun b hb hn=>?_⟩,h.ki⟩
 rcases hn with hn | hn
 ·exact h2 b hb hn
 ·have:=hC b hn
  have:=h1.lt hb
  omega
theorem KR.frm (h:KR B w kp k) {S:Nat→Prop} (hf:Frm S w w') (hS:∀ b,S b→B b):KR B w' kp k:=by
 obtain ⟨a,h1,h2⟩:=h.ex
 exact ⟨⟨a,h1.frm hf (fun b hb hn=>h2 b hb (hS b hn)),h2⟩,h.ki⟩
theorem KR.go {a a':KA} {k':KS} (h2:∀ b,KFp k.n kp a b→¬ B b) (hk:KW w' kp k' a') (hg:KGo k.n kp w a w' a') (hn:k'.n=k.n) (K:KI k') (hB:∀ b,B b→b < w.heap.size):KR B w' kp k'∧Up B w w':=by
 refine ⟨⟨⟨a',hk,fun b hb hn'=>?_⟩,K⟩,hg.frm.mono (fun b _ hb=>h2 b hb)⟩
 rw [hn] at hb
 rcases hg.fp b hb with h1 | h1
 ·exact h2 b h1 hn'
 ·have:=hB b hn'
  omega
theorem kr_make (h:KR B w kp k) (hB:∀ b,B b→b < w.heap.size) (n:Nd) (l0:0≤n.lo) (l1:n.lo < 4294967296) (h0:0≤n.hi) (h1:n.hi < 4294967296) :
  Calls Tryz.prog 14 #[.pointer (some ⟨kp,0,none⟩),.int .i64 n.v,.int .u32 n.lo,.int .u32 n.hi] w fun e w'=>e=.returned (.tuple #[.int .u32 (makeK k n).1,.int .i64 (makeK k n).2.1])∧KR B w' kp (makeK k n).2.2∧Up B w w':=by
 obtain ⟨a,k1,k2⟩:=h.ex
 refine (kmake_any k1 h.ki.bk h.ki.lv n l0 l1 h0 h1).mono ?_
 rintro e w' ⟨he,a',hk,hg⟩
 exact ⟨he,KR.go k2 hk hg (makeK_st k n).1 (ki_make h.ki l0 h0) hB⟩
theorem kr_keep (h:KR B w kp k) (hB:∀ b,B b→b < w.heap.size) (r:Int) (h0:0≤r) (h1:r < 4294967296) :
  Calls Tryz.prog 15 #[.pointer (some ⟨kp,0,none⟩),.int .u32 r] w fun e w'=>e=.returned (.int .i64 (keepK k r).1)∧KR B w' kp (keepK k r).2∧Up B w w':=by
 obtain ⟨a,k1,k2⟩:=h.ex
 refine (kkeep_any k1 h.ki.bk r h0 h1).mono ?_
 rintro e w' ⟨he,a',hk,hg⟩
 exact ⟨he,KR.go k2 hk hg (keepK_st k r).1 (ki_keep h.ki h0) hB⟩
theorem kr_drop (h:KR B w kp k) (hB:∀ b,B b→b < w.heap.size) (r:Int) (h0:0≤r) (h1:r < 4294967296) :
  Calls Tryz.prog 19 #[.pointer (some ⟨kp,0,none⟩),.int .u32 r] w fun e w'=>e=.returned (.int .i64 (dropK k r).1)∧KR B w' kp (dropK k r).2∧Up B w w':=by
 obtain ⟨a,k1,k2⟩:=h.ex
 refine (kdrop_any k1 h.ki.bk r h0 h1).mono ?_
 rintro e w' ⟨he,a',hk,hg⟩
 exact ⟨he,KR.go k2 hk hg (dropK_st k r).1 (ki_drop h.ki h0) hB⟩
theorem kr_exch (h:KR B w kp k) (hB:∀ b,B b→b < w.heap.size) (l:Int) (htr:(k.tr.length+1) * 8≤140737488355328) :
  Calls Tryz.prog 24 #[.pointer (some ⟨kp,0,none⟩),.int .i64 l] w fun e w'=>e=.returned (.int .i64 (exchK k l).1)∧KR B w' kp (exchK k l).2∧Up B w w':=by
 obtain ⟨a,k1,k2⟩:=h.ex
 refine (kexch_any k1 h.ki.bk.n64 l (fun a0 a1=>?_) htr).mono ?_
 ·obtain ⟨x,y,hxy⟩:=xy_of (l:=l.toNat) h.ki (by omega)
  exact ⟨x,y,turn_ok hxy h.ki⟩
 ·rintro e w' ⟨he,a',hk,hg⟩
  exact ⟨he,KR.go k2 hk hg (exchK_st k l).1 (ki_exch h.ki l) hB⟩
theorem kr_undo (h:KR B w kp k) (hB:∀ b,B b→b < w.heap.size) (ht:TrOk k) (htr:k.tr.length≤1000000000000000000) :
  Calls Tryz.prog 26 #[.pointer (some ⟨kp,0,none⟩)] w fun e w'=>e=.returned (.tuple #[.int .i64 (undoK k).1,.int .i64 (undoK k).2.1])∧KR B w' kp (undoK k).2.2∧Up B w w':=by
 obtain ⟨a,k1,k2⟩:=h.ex
 have hl:∀ l,k.tr.getLast?=some l→0≤l∧l+1 < k.n:=fun l hl=>ht l (List.mem_of_getLast? hl)
 refine (kundo_any k1 (fun l h1=>?_) htr).mono ?_
 ·obtain ⟨g0,g1⟩:=hl l h1
  have h64:=h.ki.bk.n64
  obtain ⟨x,y,hxy⟩:=xy_of (l:=l.toNat) h.ki (by omega)
  exact ⟨g0,by omega,x,y,turn_ok hxy h.ki⟩
 ·rintro e w' ⟨he,a',hk,hg⟩
  exact ⟨he,KR.go k2 hk hg (undoK_st k).1 (ki_undo h.ki hl) hB⟩
theorem kr_node (h:KR B w kp k) (r:Int) (h0:0≤r) (h1:r < 4294967296) :
  Calls Tryz.prog 20 #[.pointer (some ⟨kp,0,none⟩),.int .u32 r] w fun e w'=>e=.returned (.tuple #[(getN k.ls r).val,.int .i64 (getE k.ls r)])∧Same w w':=by
 obtain ⟨a,k1,k2⟩:=h.ex
 exact knodeq_any k1 r h0 h1
theorem kr_held (h:KR B w kp k) (r:Int) (h0:0≤r) (h1:r < 4294967296) :
  Calls Tryz.prog 17 #[.pointer (some ⟨kp,0,none⟩),.int .u32 r] w fun e w'=>e=.returned (.int .i64 (k.hs.getD r.toNat 0))∧w=w':=by
 obtain ⟨a,k1,k2⟩:=h.ex
 exact kheld_any k1 r h0 h1 (fun x hx=>⟨(h.ki.bk.hol _ x hx).1,(h.ki.bk.hol _ x hx).2.1⟩)
theorem KI.acl (K:KI k):k.ac≤1048576:=by
 have h1:=K.bk.cntl
 have h2:=K.bk.lim
 have h3:=K.bk.cM
 omega
theorem kr_live (h:KR B w kp k):Calls Tryz.prog 18 #[.pointer (some ⟨kp,0,none⟩)] w fun e w'=>e=.returned (.int .i64 ((k.ac:Int) - 2))∧w=w':=by
 obtain ⟨a,k1,k2⟩:=h.ex
 exact klive2_any k1 (by have:=h.ki.acl;omega)
theorem kr_vars (h:KR B w kp k):Calls Tryz.prog 29 #[.pointer (some ⟨kp,0,none⟩)] w fun e w'=>e=.returned (.int .i64 k.n)∧w=w':=by
 obtain ⟨a,k1,k2⟩:=h.ex
 exact kvars_any k1
theorem kr_nodes (h:KR B w kp k):Calls Tryz.prog 30 #[.pointer (some ⟨kp,0,none⟩)] w fun e w'=>e=.returned (.int .i64 k.c)∧w=w':=by
 obtain ⟨a,k1,k2⟩:=h.ex
 exact knodes_any k1
theorem KI.ordl (K:KI k):k.ord.length=k.n:=K.lv.ol
theorem kr_order (h:KR B w kp k):Calls Tryz.prog 25 #[.pointer (some ⟨kp,0,none⟩)] w (RetL w k.ord):=by
 obtain ⟨a,k1,k2⟩:=h.ex
 exact korder_any k1 (by rw [h.ki.ordl];exact h.ki.bk.n64)
theorem kr_roots (h:KR B w kp k):Calls Tryz.prog 22 #[.pointer (some ⟨kp,0,none⟩)] w fun e w'=>∃ A C,e=.returned (.slice A (rootsK k).length C)∧Row1 w' 28 rc A (rootsK k).length C (rootsK k)∧Fresh w.heap.size A∧Same w w':=by
 obtain ⟨a,k1,k2⟩:=h.ex
 exact kroots_any k1 h.ki.bk
theorem kr_width (h:KR B w kp k) (v:Int):Calls Tryz.prog 32 #[.pointer (some ⟨kp,0,none⟩),.int .i64 v] w fun e w'=>e=.returned (.tuple #[.int .i64 (wdR k v),.int .i64 (lvlE k v)])∧w=w':=by
 obtain ⟨a,k1,k2⟩:=h.ex
 exact kwidth_any k1 v
theorem kr_level (h:KR B w kp k) (v:Int):Calls Tryz.prog 33 #[.pointer (some ⟨kp,0,none⟩),.int .i64 v] w fun e w'=>e=.returned (.tuple #[.int .i64 (lvlR k v),.int .i64 (lvlE k v)])∧w=w':=by
 obtain ⟨a,k1,k2⟩:=h.ex
 exact klevel_any k1 h.ki.lv v
theorem kr_new (n c:Nat) (h1:1≤n) (h2:n≤64) (h3:2≤c) (h4:c≤1048576) (w:World):Calls Tryz.prog 13 #[.int .i64 n,.int .i64 c] w fun e w'=>∃ kp,e=.returned (.tuple #[.pointer (some ⟨kp,0,none⟩),.int .i64 0])∧KR (fun b=>b < w.heap.size) w' kp (newK n c)∧Same w w':=by
 refine (knew_any n c h1 h2 h3 h4).mono ?_
 rintro e w' ⟨kp,a,he,hk,hs,hf⟩
 exact ⟨kp,he,⟨⟨a,hk,fun b hb hn=>by have:=hf b hb;omega⟩,ki_new h1 h2 h3 h4⟩,hs⟩
end
section
variable {w w':World} {B:Nat→Prop} {kp:Nat} {k k':KS} {r E:Int}
end
def atI (l:List Int) (r:Int):Int:=if r∈l then (l.idxOf r:Nat) else -1
theorem atI_mem {l:List Int} {r:Int}:0≤atI l r↔r∈l:=by
 unfold atI
 by_cases h:r∈l
 ·rw [if_pos h]
  exact ⟨fun _=>h,fun _=>Int.natCast_nonneg _⟩
 ·rw [if_neg h]
  exact ⟨fun h1=>by omega,fun h1=>absurd h1 h⟩
theorem idxOf_first {l:List Int} {r:Int} {i:Nat} (hi:l[i]?=some r) (h:r ∉ l.take i):l.idxOf r=i:=by
 induction l generalizing i with
 | nil=>simp at hi
 | cons x l ih =>
  cases i with
  | zero =>
   simp at hi
   subst hi
   simp
  | succ i =>
   simp only [List.getElem?_cons_succ] at hi
   simp only [List.take_succ_cons,List.mem_cons,not_or] at h
   have hne:¬ x=r:=fun e=>h.1 e.symm
   have hne':(x == r)=false:=by simpa using hne
   rw [List.idxOf_cons,hne',ih hi h.2]
   rfl
section
variable {w w':World}
theorem at9_any (A:Option Addr) (n C:Nat) (xs:List Int) (r:Int) (w:World) (h:Sl w 1 (fun x=>[rc x]) A n xs) (hb:n≤1000000000000000) :
  Calls Tryz.prog 23 #[.slice A n C,.int .u32 r] w fun e w'=>e=.returned (.int .i64 (atI xs r))∧w=w':=by
 obtain rfl:=h.len
 have H:=Lib.hid h
 obtain ⟨R,hR⟩:∃ z,atI xs r=z:=⟨_,rfl⟩
 rw [hR]
 have HR:=Lib.hid hR
 clear h hR
 go_enter Tryz.func23,Tryz.ntmps23
 go_wp2_with (fail)
 go_loopw [5] (fun s wr=>∃ i:Nat,i≤xs.length∧s=.int .i64 i∧r ∉ xs.take i∧w=wr) (fun s _=>xs.length - (intOf s).toNat)
 case atStart=>exact ⟨0,by omega,rfl,by simp,rfl⟩
 case round =>
  obtain ⟨i,hi,rfl,hn,rfl⟩:=hrel
  have HN:=Lib.hid hn
  clear hn
  by_cases hlt:i < xs.length
  ·have hI:(i:Int) < (xs.length:Int):=by omega
   obtain ⟨x,hx⟩:∃ x,xs[i]?=some x:=⟨_,List.getElem?_eq_getElem hlt⟩
   obtain ⟨b,off,hA,hbl,hc⟩:=H.out.get i x hx
   have c0:w.cell? ⟨b,off+i,none⟩=some (.int .u32 x):=by
    have:=hc 0 (by omega)
    simpa [rc] using this
   have HX:=Lib.hid hx
   have HM:Hid (r∈xs.take (i+1)↔r∈xs.take i∨r=x):=Lib.hid (by
    rw [List.take_add_one,hx]
    simp)
   clear hx hc
   subst hA
   by_cases he:x=r
   ·subst he
    have hres:atI xs x=i:=by
     unfold atI
     rw [if_pos (List.mem_of_getElem? HX.out),idxOf_first HX.out HN.out]
    have hR:R=i:=HR.out.symm.trans hres
    subst hR
    clear hres
    go_wp2
    go_ret
    exact ⟨rfl,rfl⟩
   ·go_wp2
    go_roundw
    case rel=>exact ⟨i+1,by omega,by go_num,fun h=>(HM.out.1 h).elim HN.out (fun h=>he h.symm),trivial⟩
    case measure=>simp [intOf] <;> omega
  ·obtain rfl:i=xs.length:=by omega
   have hI:¬ ((xs.length:Nat):Int) < (xs.length:Int):=by omega
   have hres:atI xs r = -1:=by
    unfold atI
    have:=HN.out
    rw [List.take_length] at this
    rw [if_neg this]
   have hR:R = -1:=HR.out.symm.trans hres
   subst hR
   clear hres
   go_wp2
   go_ret
   exact ⟨rfl,rfl⟩
end
def LiveR (k:KS) (r:Int):Prop:=0≤r∧tk k.ls r=true
structure WInv (k:KS) (list st l:List Int):Prop where
 nd:l.Nodup
 ll:∀ r∈l,LiveR k r
 la:∀ r∈st,LiveR k r
 top:∀ r,(r=0∨r=1∨r∈list)→r∈l∨r∈st
 chl:∀ r∈l,0≤(getN k.ls r).v→((getN k.ls r).lo∈l∨(getN k.ls r).lo∈st)∧((getN k.ls r).hi∈l∨(getN k.ls r).hi∈st)
 len:st.length≤list.length+2+2 * l.length
structure WRes (k:KS) (list l:List Int):Prop where
 nd:l.Nodup
 ll:∀ r∈l,LiveR k r
 top:∀ r,(r=0∨r=1∨r∈list)→r∈l
 chl:∀ r∈l,0≤(getN k.ls r).v→(getN k.ls r).lo∈l∧(getN k.ls r).hi∈l
section
variable {k:KS} {list st l:List Int} {r:Int}
theorem WInv.out (h:WInv k list [] l):WRes k list l :=
 ⟨h.nd,h.ll,fun r hr=>(h.top r hr).elim id (fun h=>by cases h),fun r hr hv=>⟨(h.chl r hr hv).1.elim id (fun h=>by cases h),(h.chl r hr hv).2.elim id (fun h=>by cases h)⟩⟩
theorem WInv.skip (h:WInv k list (r :: st) l) (hr:r∈l):WInv k list st l:=by
 have e:∀ x,(x∈l∨x∈r :: st)→x∈l∨x∈st:=fun x hx=>by
  rcases hx with hx | hx
  ·exact .inl hx
  ·rcases List.mem_cons.1 hx with rfl | hx
   ·exact .inl hr
   ·exact .inr hx
 exact ⟨h.nd,h.ll,fun x hx=>h.la x (List.mem_cons_of_mem _ hx),fun x hx=>e x (h.top x hx),fun x hx hv=>⟨e _ (h.chl x hx hv).1,e _ (h.chl x hx hv).2⟩,by have:=h.len;simp only [List.length_cons] at this;omega⟩
theorem WInv.leaf (h:WInv k list (r :: st) l) (hr:r ∉ l) (hv:¬ 0≤(getN k.ls r).v):WInv k list st (l ++ [r]):=by
 have e:∀ x,(x∈l∨x∈r :: st)→x∈l ++ [r]∨x∈st:=fun x hx=>by
  rcases hx with hx | hx
  ·exact .inl (List.mem_append_left _ hx)
  ·rcases List.mem_cons.1 hx with rfl | hx
   ·exact .inl (by simp)
   ·exact .inr hx
 refine ⟨?_,fun x hx=>?_,fun x hx=>h.la x (List.mem_cons_of_mem _ hx),fun x hx=>e x (h.top x hx),fun x hx hv'=>?_,?_⟩
 ·rw [List.nodup_append]
  exact ⟨h.nd,by simp,fun a ha b hb=>by simp at hb;subst hb;exact fun e=>hr (e ▸ ha)⟩
 ·rcases List.mem_append.1 hx with hx | hx
  ·exact h.ll x hx
  ·simp at hx
   subst hx
   exact h.la x (List.mem_cons_self ..)
 ·rcases List.mem_append.1 hx with hx | hx
  ·exact ⟨e _ (h.chl x hx hv').1,e _ (h.chl x hx hv').2⟩
  ·simp at hx
   subst hx
   exact absurd hv' hv
 ·have:=h.len
  simp at this ⊢
  omega
theorem WInv.node (h:WInv k list (r :: st) l) (hr:r ∉ l) (h1:LiveR k (getN k.ls r).lo) (h2:LiveR k (getN k.ls r).hi):WInv k list ((getN k.ls r).hi :: (getN k.ls r).lo :: st) (l ++ [r]):=by
 have e:∀ x,(x∈l∨x∈r :: st)→x∈l ++ [r]∨x∈(getN k.ls r).hi :: (getN k.ls r).lo :: st:=fun x hx=>by
  rcases hx with hx | hx
  ·exact .inl (List.mem_append_left _ hx)
  ·rcases List.mem_cons.1 hx with rfl | hx
   ·exact .inl (by simp)
   ·exact .inr (by simp [hx])
 refine ⟨?_,fun x hx=>?_,fun x hx=>?_,fun x hx=>e x (h.top x hx),fun x hx hv'=>?_,?_⟩
 ·rw [List.nodup_append]
  exact ⟨h.nd,by simp,fun a ha b hb=>by simp at hb;subst hb;exact fun e=>hr (e ▸ ha)⟩
 ·rcases List.mem_append.1 hx with hx | hx
  ·exact h.ll x hx
  ·simp at hx
   subst hx
   exact h.la x (List.mem_cons_self ..)
 ·simp only [List.mem_cons] at hx
  rcases hx with rfl | rfl | hx
  ·exact h2
  ·exact h1
  ·exact h.la x (List.mem_cons_of_mem _ hx)
 ·rcases List.mem_append.1 hx with hx | hx
  ·exact ⟨e _ (h.chl x hx hv').1,e _ (h.chl x hx hv').2⟩
  ·simp at hx
   subst hx
   exact ⟨.inr (by simp),.inr (by simp)⟩
 ·have:=h.len
  simp at this ⊢
  omega
theorem winv_start (K:KI k) (hl:∀ r∈list,LiveR k r):WInv k list (list.reverse ++ [1,0]) []:=by
 refine ⟨List.nodup_nil,fun r hr=>(by cases hr),fun r hr=>?_,fun r hr=>.inr ?_,fun r hr=>(by cases hr),by simp⟩
 ·rcases List.mem_append.1 hr with h | h
  ·exact hl r (List.mem_reverse.1 h)
  ·simp only [List.mem_cons,List.not_mem_nil,or_false] at h
   rcases h with rfl | rfl
   ·exact ⟨by omega,(K.live (by omega)).2 (.inr (.inl rfl))⟩
   ·exact ⟨by omega,(K.live (by omega)).2 (.inl rfl)⟩
 ·rcases hr with rfl | rfl | hr
  ·simp
  ·simp
  ·exact List.mem_append_left _ (List.mem_reverse.2 hr)
theorem live_len9 (h:l.Nodup) (hl:∀ r∈l,LiveR k r):l.length≤k.ls.length:=by
 have h1:=nodup_len (m:=(List.range k.ls.length).map fun (i:Nat)=>(i:Int)) h (fun r hr=>by
  obtain ⟨h0,h1⟩:=hl r hr
  have h2:=tk_lt h1 h0
  rw [List.mem_map]
  exact ⟨r.toNat,List.mem_range.2 (by omega),by omega⟩)
 simpa using h1
theorem KI.lsl (K:KI k):k.ls.length≤1048576:=Nat.le_trans K.bk.lim K.bk.cM
theorem live_chl (K:KI k) (hr:LiveR k r) (hv:0≤(getN k.ls r).v):LiveR k (getN k.ls r).lo∧LiveR k (getN k.ls r).hi:=by
 rcases (K.live hr.1).1 hr.2 with h | h | ⟨n,hn⟩
 ·rw [K.const (.inl h)] at hv
  omega
 ·rw [K.const (.inr h)] at hv
  omega
 ·obtain ⟨_,hg,_⟩:=K.mem' hn
  rw [hg]
  obtain ⟨_,_,c1,c2,c3,c4,_⟩:=K.bk.chl n r hn
  exact ⟨⟨c1,c3⟩,c2,c4⟩
end
section
variable {w w':World} {B:Nat→Prop} {kp:Nat} {k:KS}
theorem walk9_any (hK:KR B w kp k) (A:Option Addr) (n C:Nat) (list:List Int) (hA:Sl w 1 (fun x=>[rc x]) A n list) (hl:∀ r∈list,LiveR k r) (hb:n≤2000000) :
  Calls Tryz.prog 21 #[.pointer (some ⟨kp,0,none⟩),.slice A n C] w fun e w'=>∃ A' C' l,e=.returned (.tuple #[.slice A' l.length C',.bool true])∧WRes k list l∧Row1 w' 28 rc A' l.length C' l∧Fresh w.heap.size A'∧Same w w':=by
 obtain rfl:=hA.len
 have HK:=Lib.hid hK
 have HA:=Lib.hid hA
 have HL:=Lib.hid hl
 have hls:=hK.ki.lsl
 clear hK hA hl
 go_enter Tryz.func21,Tryz.ntmps21
 go_upto_region 2 with fail
 refine wp_world fun w1 hw1=>?_
 have hs1:Same w w1:=by rw [hw1];exact (Frm.refl _ _).alloc _
 have hT:=Go.Tk.Own.lit w 28 (fun x=>[rc x]) (fun _=>rfl) [0,1] (by simp [maxLen]) (cs:=#[.int .u32 0,.int .u32 1]) (by simp [rc])
 have hT1:Row1 w1 28 rc (some ⟨w.heap.size,0,none⟩) 2 2 [0,1]:=by rw [hw1];exact hT
 clear hw1 hT
 refine wp_read 2 ?_
 simp only [List.take_succ_cons,List.take_zero,List.drop_succ_cons,List.drop_zero]
 repeat (any_goals (first | go_big_quiet_step (fail) | quiet_step (fail)))
 refine wpQuiet_nil ?_
 refine wpList_plain rfl fun K hK=>?_
 refine Own.append_many (.tmp 12) (.tmp 13) _ rfl Tryz.underlying40 info_ref rfl (by omega) rfl hT1 (fun _=>rfl) list A C rfl (fun hne=>Sl.source (m:=1) (f:=fun x=>[rc x]) (fun _=>rfl) Nat.one_pos (HA.out.same hs1) hne) (fun y _=>by simp [rc,Value.oneCell']) (by simp [maxLen] <;> omega) (by simp <;> omega) ?_
 intro A4 C4 w4 hO4 hg4 hat4
 refine hK _ _ ?_
 clear hK K
 have hs4:Same w w4:=hs1.grown hg4 (fun g hg=>.inr (by
  obtain ⟨x,hx,hxb⟩:=ownBlock_row.1 hg
  injection hx with hx
  subst hx
  exact Nat.le_of_eq hxb))
 have hf4:Fresh w.heap.size A4:=fun b hb=>(hat4 b hb).elim (fun h=>by
  obtain ⟨x,hx,hxb⟩:=h
  injection hx with hx
  subst hx
  exact Nat.le_of_eq hxb) (fun h=>by
  have:=hs1.size
  omega)
 obtain ⟨st,hst⟩:∃ z,list.reverse ++ [1,0]=z:=⟨_,rfl⟩
 have hI:=winv_start HK.out.ki HL.out
 rw [hst] at hI
 have e:[0,1] ++ list=st.reverse:=by rw [← hst];simp
 have e2:([0,1] ++ list).length=st.length:=by rw [e,List.length_reverse]
 rw [e2]
 rw [e,List.length_reverse] at hO4
 have HS4:=Lib.hid hs4
 have HF4:=Lib.hid hf4
 have HI:=Lib.hid hI
 have HO5:=Lib.hid hO4
 clear hs4 hf4 hI hO4 hg4 hat4 e e2 hT1 hs1 hst
 go_wp2_with (fail)
 go_loopw [6,7] (fun s6 s7 wr=>∃ (A:Option Addr) (C:Nat) (st:List Int) (A':Option Addr) (C':Nat) (l:List Int),s6=.slice A st.length C∧s7=.slice A' l.length C'∧WInv k list st l∧Row1 wr 28 rc A st.length C st.reverse∧Row1 wr 28 rc A' l.length C' l∧Fresh w.heap.size A∧Fresh w.heap.size A'∧(∀ b,rowOf A b→¬ rowOf A' b)∧Same w wr) (fun s6 s7 _=>3 * (k.ls.length - lenOf s7)+lenOf s6)
 case atStart=>exact ⟨A4,C4,st,none,0,[],rfl,rfl,HI.out,HO5.out,Own.nil _ _ _ _,HF4.out,fresh_none _,(fun b _ h=>by obtain ⟨x,hx,_⟩:=h;cases hx),HS4.out⟩
 case round =>
  clear HI HO5 HF4 HS4
  obtain ⟨A5,C5,st,A6,C6,l,rfl,rfl,hI,hT,hO,hf5,hf6,hdj,hs⟩:=hrel
  have hll:=live_len9 hI.nd hI.ll
  have hsl:=hI.len
  have HI:=Lib.hid hI
  have HT:=Lib.hid hT
  have HO:=Lib.hid hO
  have HF5:=Lib.hid hf5
  have HF6:=Lib.hid hf6
  have HDJ:=Lib.hid hdj
  have HS:=Lib.hid hs
  clear hI hT hO hf5 hf6 hdj hs
  cases st with
  | nil =>
   go_wp2
   go_ret2
   exact ⟨A6,C6,l,rfl,HI.out.out,HO.out,HF6.out,HS.out⟩
  | cons r st =>
   obtain ⟨tb,hA5,tbl,tbc⟩:=HT.out.at1 (i:=st.length) (x:=r) (by simp)
   subst hA5
   have hpop:Row1 wr 28 rc (some ⟨tb,0,none⟩) st.length C5 st.reverse:=by
    have:=HT.out
    rw [List.reverse_cons] at this
    have:=Go.Tk.Own.pop (f:=fun x=>[rc x]) (fun _=>rfl) this
    rwa [List.length_reverse] at this
   have hcp:st.length+1≤C5∧C5 < 9223372036854775808:=by
    have:=HT.out
    simp only [List.length_cons] at this
    rcases this.own.2 with ⟨h0,_⟩ | ⟨_,cap,_,h1,_,_,h3,h4,_⟩
    ·cases h0
    ·injection h1 with _ _ h1
     subst h1
     unfold maxLen at h4
     omega
   obtain ⟨hs1,hs2⟩:=hcp
   replace tbc:wr.cell? ⟨tb,st.length,none⟩=some (.int .u32 r):=tbc
   have hc1:((st.length:Int)+1) > 0:=by omega
   have hlr:=HI.out.la r (List.mem_cons_self ..)
   have hr0:=hlr.1
   have hr1:r < 4294967296:=by have:=tk_lt hlr.2 hr0;omega
   have HPOP:=Lib.hid hpop
   have HLR:=Lib.hid hlr
   simp only [List.length_cons] at hsl ⊢
   clear hpop hlr
   have hat:=at9_any A6 l.length C6 l r wr (HO.out.sl (fun _=>rfl)) (by omega)
   by_cases hm:r∈l
   ·have hz:=atI_mem.2 hm
    obtain ⟨z,hze⟩:∃ z,atI l r=z:=⟨_,rfl⟩
    rw [hze] at hat hz
    have HAT:=Lib.hid hat
    have HM:=Lib.hid hm
    clear hat hm hze
    go_wp2_with (fail)
    refine HAT.out.mono ?_
    rintro e wx ⟨rfl,rfl⟩
    go_wp2
    go_roundw
    case rel=>exact ⟨some ⟨tb,0,none⟩,C5,st,A6,C6,l,rfl,rfl,HI.out.skip HM.out,HPOP.out,HO.out,HF5.out,HF6.out,HDJ.out,HS.out⟩
    case measure=>simp [lenOf,lenAt]
   ·have hz:atI l r = -1:=by unfold atI;rw [if_neg hm]
    rw [hz] at hat
    have hnd:=fun w' (hs:Same wr w')=>kr_node ((HK.out.same HS.out).same hs) r hr0 hr1
    have hE:getE k.ls r=0:=by unfold getE;rw [if_pos HLR.out.2]
    rw [hE] at hnd
    have HAT:=Lib.hid hat
    have HM:=Lib.hid hm
    have HND:=Lib.hid hnd
    clear hat hm hz hnd hE
    go_wp2_with (fail)
    refine HAT.out.mono ?_
    rintro e wx ⟨rfl,rfl⟩
    go_wp2_with (fail)
    refine (HND.out _ (Frm.refl _ _)).mono ?_
    rintro e wy ⟨rfl,hsy⟩
    have HWI:Hid (0≤(getN k.ls r).v→WInv k list ((getN k.ls r).hi :: (getN k.ls r).lo :: st) (l ++ [r])):=Lib.hid (fun hv=>HI.out.node HM.out (live_chl HK.out.ki HLR.out hv).1 (live_chl HK.out.ki HLR.out hv).2)
    have HWL:Hid (¬ 0≤(getN k.ls r).v→WInv k list st (l ++ [r])):=Lib.hid (fun hv=>HI.out.leaf HM.out hv)
    obtain ⟨⟨v,lo,hi⟩,hn⟩:∃ z,getN k.ls r=z:=⟨_,rfl⟩
    rw [hn] at HWI HWL ⊢
    simp only at HWI HWL
    unfold Nd.val
    have HSY:=Lib.hid (HS.out.trans hsy (fun _ _ h=>h))
    have HSYX:=Lib.hid hsy
    replace HPOP:=Lib.hid (HPOP.out.frm hsy (fun _ _=>id))
    replace HO:=Lib.hid (HO.out.frm hsy (fun _ _=>id))
    clear hsy hn HND HAT
    go_upto_region 11 with fail
    refine wp_world fun w9 hw9=>?_
    have hN:=Blk.new wy 37 #[.int .i64 v,.int .u32 lo,.int .u32 hi]
    have hs9:Same wy w9:=by rw [hw9];exact (Frm.refl _ _).alloc _
    rw [← hw9] at hN
    clear hw9
    refine wp_read 2 ?_
    simp only [List.take_succ_cons,List.take_zero,List.drop_succ_cons,List.drop_zero]
    repeat (any_goals (first | go_big_quiet_step (fail) | quiet_step (fail)))
    refine wpQuiet_nil ?_
    refine wpList_plain rfl fun K hK=>?_
    go_simp
    refine hK _ _ ?_
    clear hK K
    refine list_world fun wa hwa=>?_
    have hL:=Blk.new w9 28 #[.int .u32 r]
    have hsa:Same w9 wa:=by rw [hwa];exact (Frm.refl _ _).alloc _
    rw [← hwa] at hL
    clear hwa
    have hs9a:=hs9.trans hsa (fun _ _ h=>h)
    have hrow:=HO.out.frm hs9a (fun _ _=>id)
    refine Own.append_list (f:=fun x=>[rc x]) rfl (.tmp 41) (.tmp 43) _ rfl Tryz.underlying40 info_ref rfl (by omega) rfl hrow (fun _=>rfl) r w9.heap.size 1 rfl (by simpa [rc] using hL) (by simp [Value.oneCell',rc]) (by unfold maxLen;omega) (by omega) ?_
    intro gg cap wb hOb hgb hat
    have hsb:Same w wb:=(HS.out.trans (HSYX.out.trans hs9a (fun _ _ h=>h)) (fun _ _ h=>h)).grown hgb (fun g hg=>.inr (HF6.out g (ownBlock_row.1 hg)))
    have hNb:=(hN.frm hsa id).grown hgb (fun hx=>by
     obtain ⟨x,hx,hxb⟩:=ownBlock_row.1 hx.symm
     exact hrow.ne_blk (hN.frm hsa id) (by decide) x hx hxb)
    have hPb:=(HPOP.out.frm hs9a (fun _ _=>id)).keptBy hgb (fun b hb hA=>HDJ.out b hA (ownBlock_row.1 hb))
    have hfb:Fresh w.heap.size (some ⟨gg,0,none⟩):=fun b hb=>by
     obtain ⟨x,hx,rfl⟩:=hb
     injection hx with hx
     subst hx
     rcases hat with h | h
     ·exact HF6.out gg (ownBlock_row.1 h)
     ·have h1:=HSY.out.size
      have h2:=hs9a.size
      show w.heap.size≤gg
      omega
    have hdb:∀ b,rowOf (some ⟨tb,0,none⟩) b→¬ rowOf (some ⟨gg,0,none⟩) b:=fun b hb hb2=>by
     obtain ⟨x,hx,rfl⟩:=hb2
     injection hx with hx
     subst hx
     rcases hat with h | h
     ·exact HDJ.out gg hb (ownBlock_row.1 h)
     ·have h1:=row_lt HPOP.out hb
      have h2:=hs9a.size
      simp only at h1
      omega
    have n0:=hNb.cell 0
    have n1:=hNb.cell 1
    have n2:=hNb.cell 2
    have nl:=hNb.lt
    simp at n0 n1 n2
    have hll2:(l ++ [r]).length≤k.ls.length:=by
     by_cases hv:0≤v
     ·exact live_len9 (HWI.out hv).nd (HWI.out hv).ll
     ·exact live_len9 (HWL.out (by omega)).nd (HWL.out (by omega)).ll
    rw [List.length_append,List.length_singleton] at hll2
    have HSB:=Lib.hid hsb
    have HPB:=Lib.hid hPb
    have HFB:=Lib.hid hfb
    have HDB:=Lib.hid hdb
    have HOB:=Lib.hid hOb
    clear hsb hPb hfb hdb hOb hgb hat hrow hs9 hsa hs9a hN hL hNb HO HPOP
    by_cases hv:0≤v
    ·have HW:=Lib.hid (HWI.out hv)
     have hc3:¬ (l.length:Int)+1 > 2097152:=by omega
     clear HWI HWL
     go_upto_region 13 with fail
     refine wp_read 5 ?_
     simp only [List.take_succ_cons,List.take_zero,List.drop_succ_cons,List.drop_zero]
     repeat (any_goals (first | go_big_quiet_step (fail) | quiet_step (fail)))
     refine wpQuiet_nil ?_
     refine wpList_plain rfl fun K hK=>?_
     go_simp
     refine hK _ _ ?_
     clear hK K
     refine list_world fun wc hwc=>?_
     have hsc:Same wb wc:=by rw [hwc];exact (Frm.refl _ _).alloc _
     have hL2:=Go.Tk.Own.lit wb 28 (fun x=>[rc x]) (fun _=>rfl) [lo,hi] (by simp [maxLen]) (cs:=#[.int .u32 lo,.int .u32 hi]) (by simp [rc])
     have hL3:Row1 wc 28 rc (some ⟨wb.heap.size,0,none⟩) 2 2 [lo,hi]:=by rw [hwc];exact hL2
     clear hwc hL2
     have hrow:=HPB.out.frm hsc (fun _ _=>id)
     refine wpList_plain rfl fun K hK=>?_
     refine Own.append_many (.tmp 48) (.tmp 53) _ rfl Tryz.underlying40 info_ref rfl (by omega) rfl hrow (fun _=>rfl) [lo,hi] (some ⟨wb.heap.size,0,none⟩) 2 rfl (fun hne=>Sl.source (m:=1) (f:=fun x=>[rc x]) (fun _=>rfl) Nat.one_pos (hL3.sl (fun _=>rfl)) hne) (fun y _=>by simp [rc,Value.oneCell']) (by simp [maxLen] <;> omega) (by simp <;> omega) ?_
     intro A7 C7 w7 hO7 hg7 hat7
     refine hK _ _ ?_
     clear hK K
     have hs7:Same w w7:=(HSB.out.trans hsc (fun _ _ h=>h)).grown hg7 (fun g hg=>.inr (HF5.out g (ownBlock_row.1 hg)))
     have hf7:Fresh w.heap.size A7:=fun b hb=>(hat7 b hb).elim (HF5.out b) (fun h=>by
      have:=HSB.out.size
      have:=hsc.size
      omega)
     have hO8:=(HOB.out.frm hsc (fun _ _=>id)).keptBy hg7 (fun b hb hA=>HDB.out b (ownBlock_row.1 hb) hA)
     have hd7:∀ b,rowOf A7 b→¬ rowOf (some ⟨gg,0,none⟩) b:=fun b hb hb2=>by
      rcases hat7 b hb with h | h
      ·exact HDB.out b h hb2
      ·have h1:=row_lt HOB.out hb2
       have:=hsc.size
       omega
     have e7:(st.reverse ++ [lo,hi]).length=(hi :: lo :: st).length:=by simp
     rw [e7]
     have hO9:Row1 w7 28 rc A7 (hi :: lo :: st).length C7 (hi :: lo :: st).reverse:=by
      have e8:(hi :: lo :: st).reverse=st.reverse ++ [lo,hi]:=by simp
      rw [e8,← e7]
      exact hO7
     have HS7:=Lib.hid hs7
     have HF7:=Lib.hid hf7
     have HO8:=Lib.hid hO8
     have HD7:=Lib.hid hd7
     have HO9:=Lib.hid hO9
     obtain ⟨st2,hst2⟩:∃ z,hi :: lo :: st=z:=⟨_,rfl⟩
     have hl2:st2.length=st.length+2:=by rw [← hst2];rfl
     rw [hst2] at HW HO9 ⊢
     have HL2:=Lib.hid hl2
     clear hs7 hf7 hO8 hd7 hO9 e7 hO7 hg7 hat7 hrow hL3 hsc hst2 hl2 n0 n1 n2 nl
     go_wp2
     go_roundw
     case rel=>exact ⟨A7,C7,st2,some ⟨gg,0,none⟩,cap,l ++ [r],rfl,by rw [List.length_append];rfl,HW.out,HO9.out,by rw [List.length_append];exact HO8.out,HF7.out,HFB.out,HD7.out,HS7.out⟩
     case measure =>
      have:=HL2.out
      simp [lenOf,lenAt]
      omega
    ·have HW:=Lib.hid (HWL.out (by omega))
     have hv':v < 0:=by omega
     have hc3:¬ (l.length:Int)+1 > 2097152:=by omega
     clear HWI HWL hv
     go_wp2
     go_roundw
     case rel=>exact ⟨some ⟨tb,0,none⟩,C5,st,some ⟨gg,0,none⟩,cap,l ++ [r],rfl,by rw [List.length_append];rfl,HW.out,HPB.out,by rw [List.length_append];exact HOB.out,HF5.out,HFB.out,HDB.out,HSB.out⟩
     case measure=>simp [lenOf,lenAt] <;> omega
end
structure RS where
 k:KS
 refs:List Int
 held:List Int
structure RA where
 kp:Nat
 rA:Option Addr
 rC:Nat
 hA:Option Addr
 hC:Nat
def rcells (x:RS) (q:RA):Array Value:=#[.pointer (some ⟨q.kp,0,none⟩),.slice q.rA x.refs.length q.rC,.slice q.hA x.held.length q.hC]
def RFp (xb:Nat) (q:RA) (b:Nat):Prop:=b=xb∨rowOf q.rA b∨rowOf q.hA b
structure RW (B:Nat→Prop) (w:World) (xb:Nat) (x:RS) (q:RA):Prop where
 blk:Blk w xb 78 (rcells x q)
 k:KR (fun b=>B b∨RFp xb q b) w q.kp x.k
 refs:Row1 w 28 rc q.rA x.refs.length q.rC x.refs
 held:OwnI w 3 q.hA x.held.length q.hC x.held
 base:∀ b,RFp xb q b→¬ B b
section
variable {w w':World} {B B':Nat→Prop} {xb:Nat} {x:RS} {q:RA}
theorem RW.c0 (h:RW B w xb x q):w.cell? ⟨xb,0,none⟩=some (.pointer (some ⟨q.kp,0,none⟩)):=h.blk.cell 0
theorem RW.c1 (h:RW B w xb x q):w.cell? ⟨xb,1,none⟩=some (.slice q.rA x.refs.length q.rC):=h.blk.cell 1
theorem RW.c2 (h:RW B w xb x q):w.cell? ⟨xb,2,none⟩=some (.slice q.hA x.held.length q.hC):=h.blk.cell 2
theorem RW.same (h:RW B w xb x q) (hs:Same w w'):RW B w' xb x q :=
 ⟨h.blk.frm hs id,h.k.same hs,h.refs.frm hs (fun _ _=>id),h.held.frm hs (fun _ _=>id),h.base⟩
theorem RW.llt (h:RW B w xb x q):∀ b,RFp xb q b→b < w.heap.size:=by
 rintro b (rfl | hb | hb)
 ·exact h.blk.lt
 ·exact row_lt h.refs hb
 ·exact row_lt h.held hb
theorem RW.sub (h:RW B w xb x q) (hs:∀ b,B' b→B b):RW B' w xb x q :=
 ⟨h.blk,h.k.sub (fun b hb=>hb.imp (hs b) id),h.refs,h.held,fun b hb hn=>h.base b hb (hs b hn)⟩
theorem RW.also (h:RW B w xb x q) (hs:Same w w') {C:Nat→Prop} (hC:∀ b,C b→w.heap.size≤b):RW (fun b=>B b∨C b) w' xb x q:=by
 refine ⟨h.blk.frm hs id,(h.k.also hs hC).sub (fun b hb=>?_),h.refs.frm hs (fun _ _=>id),h.held.frm hs (fun _ _=>id),fun b hb hn=>?_⟩
 ·rcases hb with (hb | hb) | hb
  ·exact .inl (.inl hb)
  ·exact .inr hb
  ·exact .inl (.inr hb)
 ·rcases hn with hn | hn
  ·exact h.base b hb hn
  ·have:=hC b hn
   have:=h.llt b hb
   omega
theorem RW.kernel {k':KS} (h:RW B w xb x q) (hk:KR (fun b=>B b∨RFp xb q b) w' q.kp k') (hu:Up (fun b=>B b∨RFp xb q b) w w'):RW B w' xb { x with k:=k' } q∧Up B w w' :=
 ⟨⟨h.blk.frm hu (fun hn=>hn (.inr (.inl rfl))),hk,h.refs.frm hu (fun y hy hn=>hn (.inr (.inr (.inl ⟨y,hy,rfl⟩)))),h.held.frm hu (fun y hy hn=>hn (.inr (.inr (.inr ⟨y,hy,rfl⟩)))),h.base⟩,Frm.mono hu (fun _ _ hn hb=>hn (.inl hb))⟩
theorem RW.refs_to {A2:Option Addr} {C2:Nat} {rs:List Int} (h:RW B w xb x q) (hf:Frm (fun b=>b=xb∨rowOf q.rA b) w w') (hb:Blk w' xb 78 (rcells { x with refs:=rs } { q with rA:=A2,rC:=C2 }))
  (ho:Row1 w' 28 rc A2 rs.length C2 rs) (hn:∀ b,rowOf A2 b→rowOf q.rA b∨w.heap.size≤b) (hB:∀ b,B b→b < w.heap.size) :
  RW B w' xb { x with refs:=rs } { q with rA:=A2,rC:=C2 }∧Up B w w':=by
 obtain ⟨a,k1,k2⟩:=h.k.ex
 refine ⟨⟨hb,⟨⟨a,k1.frm hf (fun b hk hs=>k2 b hk (.inr (hs.elim .inl (fun h=>.inr (.inl h))))),fun b hk hn'=>?_⟩,h.k.ki⟩,ho,h.held.frm hf ?_,?_⟩,hf.mono (fun b _ hs=>h.base b (hs.elim .inl (fun h=>.inr (.inl h))))⟩
 ·rcases hn' with hn' | hn' | hn' | hn'
  ·exact k2 b hk (.inl hn')
  ·exact k2 b hk (.inr (.inl hn'))
  ·rcases hn b hn' with h1 | h1
   ·exact k2 b hk (.inr (.inr (.inl h1)))
   ·have:=k1.lt hk
    omega
  ·exact k2 b hk (.inr (.inr (.inr hn')))
 ·rintro y hy (hs | hs)
  ·exact h.held.ne_blk h.blk (by decide) y hy hs
  ·exact h.held.ne_own h.refs (by decide) _ ⟨y,hy,rfl⟩ hs
 ·rintro b (hb | hb | hb)
  ·exact h.base b (.inl hb)
  ·rcases hn b hb with h1 | h1
   ·exact h.base b (.inr (.inl h1))
   ·exact fun hx=>by have:=hB b hx;omega
  ·exact h.base b (.inr (.inr hb))
theorem RW.held_to {A2:Option Addr} {C2:Nat} {hs:List Int} (h:RW B w xb x q) (hf:Frm (fun b=>b=xb∨rowOf q.hA b) w w') (hb:Blk w' xb 78 (rcells { x with held:=hs } { q with hA:=A2,hC:=C2 }))
  (ho:OwnI w' 3 A2 hs.length C2 hs) (hn:∀ b,rowOf A2 b→rowOf q.hA b∨w.heap.size≤b) (hB:∀ b,B b→b < w.heap.size) :
  RW B w' xb { x with held:=hs } { q with hA:=A2,hC:=C2 }∧Up B w w':=by
 obtain ⟨a,k1,k2⟩:=h.k.ex
 refine ⟨⟨hb,⟨⟨a,k1.frm hf (fun b hk hs=>k2 b hk (.inr (hs.elim .inl (fun h=>.inr (.inr h))))),fun b hk hn'=>?_⟩,h.k.ki⟩,h.refs.frm hf ?_,ho,?_⟩,hf.mono (fun b _ hs=>h.base b (hs.elim .inl (fun h=>.inr (.inr h))))⟩
 ·rcases hn' with hn' | hn' | hn' | hn'
  ·exact k2 b hk (.inl hn')
  ·exact k2 b hk (.inr (.inl hn'))
  ·exact k2 b hk (.inr (.inr (.inl hn')))
  ·rcases hn b hn' with h1 | h1
   ·exact k2 b hk (.inr (.inr (.inr h1)))
   ·have:=k1.lt hk
    omega
 ·rintro y hy (hs | hs)
  ·exact h.refs.ne_blk h.blk (by decide) y hy hs
  ·exact h.refs.ne_own h.held (by decide) _ ⟨y,hy,rfl⟩ hs
 ·rintro b (hb | hb | hb)
  ·exact h.base b (.inl hb)
  ·exact h.base b (.inr (.inl hb))
  ·rcases hn b hb with h1 | h1
   ·exact h.base b (.inr (.inr h1))
   ·exact fun hx=>by have:=hB b hx;omega
def hasB (x:RS) (i:Int):Bool:=decide (0≤i) && decide (i < x.refs.length) && (decide (0 < x.held.getD i.toNat 0) || decide (x.refs.getD i.toNat 0 < 2))
theorem hasB_range {i:Int} (h:hasB x i=true):∃ m:Nat,i=m∧m < x.refs.length:=by
 unfold hasB at h
 simp only [Bool.and_eq_true,decide_eq_true_eq] at h
 exact ⟨i.toNat,by omega,by omega⟩
theorem has_any (h:RW B w xb x q) (hl0:x.held.length=x.refs.length) (i:Int) :
  Calls Tryz.prog 46 #[.pointer (some ⟨xb,0,none⟩),.int .i64 i] w fun e w'=>e=.returned (.bool (hasB x i))∧w=w':=by
 have hxl:=h.blk.lt
 have c1:=h.c1
 have c2:=h.c2
 rw [hl0] at c2
 obtain ⟨R,hR⟩:∃ z,hasB x i=z:=⟨_,rfl⟩
 rw [hR]
 by_cases h0:0≤i
 ·by_cases h1:i < x.refs.length
  ·obtain ⟨m,rfl⟩:=Int.eq_ofNat_of_zero_le h0
   have hm:m < x.refs.length:=by omega
   obtain ⟨r,hr⟩:∃ r,x.refs[m]?=some r:=⟨_,List.getElem?_eq_getElem hm⟩
   obtain ⟨c,hc⟩:∃ c,x.held[m]?=some c:=⟨_,List.getElem?_eq_getElem (by rw [hl0];exact hm)⟩
   obtain ⟨rb,hA,rl,d0⟩:=h.refs.at1 (c:=rc) hr
   obtain ⟨hb2,hA2,hl,d1⟩:=h.held.at1 (c:=fun x:Int=>.int .i64 x) hc
   clear hl0
   rw [hA] at c1
   rw [hA2] at c2
   unfold rc at d0
   have hres:R=(decide (0 < c) || decide (r < 2)):=by
    rw [← hR]
    unfold hasB
    rw [Int.toNat_natCast,List.getD_eq_getElem?_getD,List.getD_eq_getElem?_getD,hr,hc]
    simp [hm]
   clear h hR hr hc hA hA2
   by_cases hc0:0 < c
   ·have hR:R=true:=by rw [hres];simp [hc0]
    clear hres
    subst hR
    go_enter Tryz.func46,Tryz.ntmps46
    go_wp2
    go_ret
    exact ⟨rfl,rfl⟩
   ·by_cases hr2:r < 2
    ·have hR:R=true:=by rw [hres];simp [hr2]
     clear hres
     subst hR
     go_enter Tryz.func46,Tryz.ntmps46
     go_wp2
     go_ret
     exact ⟨rfl,rfl⟩
    ·have hR:R=false:=by rw [hres];simp [hr2,hc0]
     clear hres
     subst hR
     go_enter Tryz.func46,Tryz.ntmps46
     go_wp2
     go_ret
     exact ⟨rfl,rfl⟩
  ·have hres:R=false:=by rw [← hR];unfold hasB;simp [h1]
   clear h hR hl0
   subst hres
   go_enter Tryz.func46,Tryz.ntmps46
   go_wp2
   go_ret
   exact ⟨rfl,rfl⟩
 ·have hres:R=false:=by rw [← hR];unfold hasB;simp [h0]
  clear h hR hl0
  subst hres
  go_enter Tryz.func46,Tryz.ntmps46
  go_wp2
  go_ret
  exact ⟨rfl,rfl⟩
end
def stepMk (x:RS) (v b c:Int):RS × Int :=
 if hasB x b=true∧hasB x c=true∧x.refs.length < 60 then
  (if (makeK x.k ⟨v,x.refs.getD b.toNat 0,x.refs.getD c.toNat 0⟩).2.1=0 then
   (⟨(makeK x.k ⟨v,x.refs.getD b.toNat 0,x.refs.getD c.toNat 0⟩).2.2,x.refs ++ [(makeK x.k ⟨v,x.refs.getD b.toNat 0,x.refs.getD c.toNat 0⟩).1],x.held ++ [1]⟩,0)
  else ({ x with k:=(makeK x.k ⟨v,x.refs.getD b.toNat 0,x.refs.getD c.toNat 0⟩).2.2 },(makeK x.k ⟨v,x.refs.getD b.toNat 0,x.refs.getD c.toNat 0⟩).2.1))
 else (x,0)
def stepKp (x:RS) (i:Int):RS × Int :=
 if hasB x i=true then
  (if (keepK x.k (x.refs.getD i.toNat 0)).1=0 then ({ x with k:=(keepK x.k (x.refs.getD i.toNat 0)).2,held:=x.held.set i.toNat (x.held.getD i.toNat 0+1) },0)
  else ({ x with k:=(keepK x.k (x.refs.getD i.toNat 0)).2 },(keepK x.k (x.refs.getD i.toNat 0)).1))
 else (x,0)
def stepDr (x:RS) (i:Int):RS × Int :=
 if hasB x i=true∧0 < x.held.getD i.toNat 0 then
  ({ x with k:=(dropK x.k (x.refs.getD i.toNat 0)).2,held:=x.held.set i.toNat (x.held.getD i.toNat 0 - 1) },(dropK x.k (x.refs.getD i.toNat 0)).1)
 else (x,0)
def stepEx (x:RS) (l:Int):RS × Int:=({ x with k:=(exchK x.k l).2 },(exchK x.k l).1)
def stepUn (x:RS):RS × Int:=({ x with k:=(undoK x.k).2.2 },(undoK x.k).2.1)
section
variable {w w':World} {B B':Nat→Prop} {xb:Nat} {x:RS} {q:RA}
abbrev StepTo (B:Nat→Prop) (w:World) (xb:Nat) (p:RS × Int) (e:Ending) (w':World):Prop:=e=.returned (.int .i64 p.2)∧(∃ q',RW B w' xb p.1 q')∧Up B w w'
def OutS (B:Nat→Prop) (xb:Nat) (q:RA) (b:Nat):Prop:=¬ (B b∨RFp xb q b)
theorem RW.all (h:RW B w xb x q) (hB:∀ b,B b→b < w.heap.size):∀ b,(B b∨RFp xb q b)→b < w.heap.size:=fun b hb=>hb.elim (hB b) (h.llt b)
theorem step_exch (hX:RW B w xb x q) (hB:∀ b,B b→b < w.heap.size) (hl:x.held.length=x.refs.length) (htr:(x.k.tr.length+1) * 8≤140737488355328) (l y z:Int) :
  Calls Tryz.prog 41 #[.pointer (some ⟨xb,0,none⟩),.agg #[.int .i64 4,.int .i64 l,.int .i64 y,.int .i64 z]] w (StepTo B w xb (stepEx x l)):=by
 have HX:=Lib.hid hX
 have HB:=Lib.hid hB
 have HTR:=Lib.hid htr
 have HL:=Lib.hid hl
 clear hX htr hB hl
 go_enter Tryz.func41,Tryz.ntmps41
 go_upto_region 1 with fail
 refine wp_world fun w1 hw1=>?_
 have hO:=Blk.new w 60 #[.int .i64 4,.int .i64 l,.int .i64 y,.int .i64 z]
 have hs1:Same w w1:=by rw [hw1];exact (Frm.refl _ _).alloc _
 rw [← hw1] at hO
 clear hw1
 have hX:=HX.out.also hs1 (C:=fun b=>b=w.heap.size) (fun b hb=>Nat.le_of_eq hb.symm)
 have hB1:∀ b,(B b∨b=w.heap.size)→b < w1.heap.size:=fun b hb=>hb.elim (fun h=>Nat.lt_of_lt_of_le (HB.out b h) hs1.size) (fun h=>by have:=hO.lt;omega)
 have hxl:=hX.blk.lt
 have c0:=hX.c0
 have c1:=hX.c1
 have c2:=hX.c2
 rw [HL.out] at c2
 have o0:=hO.cell 0
 have o1:=hO.cell 1
 have o2:=hO.cell 2
 have o3:=hO.cell 3
 have ol:=hO.lt
 simp at o0 o1 o2 o3
 have n1:¬ OutS (fun b=>B b∨b=w.heap.size) xb q xb:=fun h=>h (.inr (.inl rfl))
 have n2:¬ OutS (fun b=>B b∨b=w.heap.size) xb q w.heap.size:=fun h=>h (.inl (.inr rfl))
 have HO:=Lib.hid hO
 have HS1:=Lib.hid hs1
 have HX1:=Lib.hid hX
 have HB1:=Lib.hid hB1
 have HUP:=Lib.hid (Up.ofSame hs1:Up B w w1)
 clear hO hs1 hX hB1
 have HKE:=Lib.hid (fun w' (hs:Same w1 w')=>kr_exch (HX1.out.k.same hs) (fun b hb=>Nat.lt_of_lt_of_le (HX1.out.all HB1.out b hb) hs.size) l HTR.out)
 go_upto_region 21 with fail
 refine wp_phS (OutS (fun b=>B b∨b=w.heap.size) xb q) [([0,1,2,3,4,5],6),([],7)] (by kernel_rfl) (by kernel_rfl) ?_
 simp only [wpPh,pick,List.map_cons,List.map_nil,List.getD_cons_zero,List.getD_cons_succ]
 have hs:Same w1 w1.drew:=(Frm.refl _ _).drew
 repeat (any_goals (first | go_big_quiet_step (fail) | quiet_step (fail)))
 refine wpQuiet_nil ?_
 refine effStep_plain rfl fun K hK=>?_
 go_simp
 refine (HKE.out _ hs).mono ?_
 rintro e w2 ⟨rfl,hk,hu⟩
 refine hK _ _ (Lat.mk_ ((hs.mono (fun _ _ h=>h.elim)).trans hu (fun _ _ h=>h))) ?_
 clear hK K
 have hX2:=(HX1.out.same hs).kernel hk hu
 have HX2:=Lib.hid hX2
 have HS:=Lib.hid hs
 clear hX2 hk hu hs
 repeat (any_goals (first | go_big_quiet_step (fail) | quiet_step (fail)))
 refine wpQuiet_nil ?_
 go_wp2
 go_ret
 exact ⟨rfl,⟨q,HX2.out.1.sub (fun _ hb=>.inl hb)⟩,(HUP.out.trans (Up.ofSame HS.out)).trans (Frm.mono HX2.out.2 (fun _ _ hn hb=>hn (.inl hb)))⟩
theorem step_undo (hX:RW B w xb x q) (hB:∀ b,B b→b < w.heap.size) (hl:x.held.length=x.refs.length) (ht:TrOk x.k) (htr:x.k.tr.length≤1000000000000000000) (l y z:Int) :
  Calls Tryz.prog 41 #[.pointer (some ⟨xb,0,none⟩),.agg #[.int .i64 5,.int .i64 l,.int .i64 y,.int .i64 z]] w (StepTo B w xb (stepUn x)):=by
 have HX:=Lib.hid hX
 have HB:=Lib.hid hB
 have HTR:=Lib.hid htr
 have HT:=Lib.hid ht
 have HL:=Lib.hid hl
 clear hX htr hB hl ht
 go_enter Tryz.func41,Tryz.ntmps41
 go_upto_region 1 with fail
 refine wp_world fun w1 hw1=>?_
 have hO:=Blk.new w 60 #[.int .i64 5,.int .i64 l,.int .i64 y,.int .i64 z]
 have hs1:Same w w1:=by rw [hw1];exact (Frm.refl _ _).alloc _
 rw [← hw1] at hO
 clear hw1
 have hX:=HX.out.also hs1 (C:=fun b=>b=w.heap.size) (fun b hb=>Nat.le_of_eq hb.symm)
 have hB1:∀ b,(B b∨b=w.heap.size)→b < w1.heap.size:=fun b hb=>hb.elim (fun h=>Nat.lt_of_lt_of_le (HB.out b h) hs1.size) (fun h=>by have:=hO.lt;omega)
 have hxl:=hX.blk.lt
 have c0:=hX.c0
 have c1:=hX.c1
 have c2:=hX.c2
 rw [HL.out] at c2
 have o0:=hO.cell 0
 have o1:=hO.cell 1
 have o2:=hO.cell 2
 have o3:=hO.cell 3
 have ol:=hO.lt
 simp at o0 o1 o2 o3
 have n1:¬ OutS (fun b=>B b∨b=w.heap.size) xb q xb:=fun h=>h (.inr (.inl rfl))
 have n2:¬ OutS (fun b=>B b∨b=w.heap.size) xb q w.heap.size:=fun h=>h (.inl (.inr rfl))
 have HO:=Lib.hid hO
 have HS1:=Lib.hid hs1
 have HX1:=Lib.hid hX
 have HB1:=Lib.hid hB1
 have HUP:=Lib.hid (Up.ofSame hs1:Up B w w1)
 clear hO hs1 hX hB1
 have hku:=kr_undo HX1.out.k (HX1.out.all HB1.out) HT.out HTR.out
 have HKU:=Lib.hid hku
 clear hku
 go_wp2_with (fail)
 refine HKU.out.mono ?_
 rintro e w2 ⟨rfl,hk,hu⟩
 have HX2:=Lib.hid (HX1.out.kernel hk hu)
 clear hk hu
 go_wp2
 go_ret
 exact ⟨rfl,⟨q,HX2.out.1.sub (fun _ hb=>.inl hb)⟩,HUP.out.trans (Frm.mono HX2.out.2 (fun _ _ hn hb=>hn (.inl hb)))⟩
theorem step_coll (hX:RW B w xb x q) (hB:∀ b,B b→b < w.heap.size) (hl:x.held.length=x.refs.length) (l y z:Int) :
  Calls Tryz.prog 41 #[.pointer (some ⟨xb,0,none⟩),.agg #[.int .i64 6,.int .i64 l,.int .i64 y,.int .i64 z]] w (StepTo B w xb (x,0)):=by
 have HX:=Lib.hid hX
 have HB:=Lib.hid hB
 have HL:=Lib.hid hl
 clear hX hB hl
 go_enter Tryz.func41,Tryz.ntmps41
 go_upto_region 1 with fail
 refine wp_world fun w1 hw1=>?_
 have hO:=Blk.new w 60 #[.int .i64 6,.int .i64 l,.int .i64 y,.int .i64 z]
 have hs1:Same w w1:=by rw [hw1];exact (Frm.refl _ _).alloc _
 rw [← hw1] at hO
 clear hw1
 have hX:=HX.out.also hs1 (C:=fun b=>b=w.heap.size) (fun b hb=>Nat.le_of_eq hb.symm)
 have hB1:∀ b,(B b∨b=w.heap.size)→b < w1.heap.size:=fun b hb=>hb.elim (fun h=>Nat.lt_of_lt_of_le (HB.out b h) hs1.size) (fun h=>by have:=hO.lt;omega)
 have hxl:=hX.blk.lt
 have c0:=hX.c0
 have c1:=hX.c1
 have c2:=hX.c2
 rw [HL.out] at c2
 have o0:=hO.cell 0
 have o1:=hO.cell 1
 have o2:=hO.cell 2
 have o3:=hO.cell 3
 have ol:=hO.lt
 simp at o0 o1 o2 o3
 have n1:¬ OutS (fun b=>B b∨b=w.heap.size) xb q xb:=fun h=>h (.inr (.inl rfl))
 have n2:¬ OutS (fun b=>B b∨b=w.heap.size) xb q w.heap.size:=fun h=>h (.inl (.inr rfl))
 have HO:=Lib.hid hO
 have HS1:=Lib.hid hs1
 have HX1:=Lib.hid hX
 have HB1:=Lib.hid hB1
 have HUP:=Lib.hid (Up.ofSame hs1:Up B w w1)
 clear hO hs1 hX hB1
 go_wp2_with (fail)
 refine (kcollect_any _).mono ?_
 rintro e w2 ⟨rfl,rfl⟩
 go_wp2
 go_ret
 exact ⟨rfl,⟨q,HX1.out.sub (fun _ hb=>.inl hb)⟩,HUP.out⟩
theorem step_none (hX:RW B w xb x q) (hB:∀ b,B b→b < w.heap.size) (hl:x.held.length=x.refs.length) (kd l y z:Int) (h1:¬ kd=1) (h2:¬ kd=2) (h3:¬ kd=3) (h4:¬ kd=4) (h5:¬ kd=5) (h6:¬ kd=6) :
  Calls Tryz.prog 41 #[.pointer (some ⟨xb,0,none⟩),.agg #[.int .i64 kd,.int .i64 l,.int .i64 y,.int .i64 z]] w (StepTo B w xb (x,0)):=by
 have HX:=Lib.hid hX
 have HB:=Lib.hid hB
 have HL:=Lib.hid hl
 clear hX hB hl
 go_enter Tryz.func41,Tryz.ntmps41
 go_upto_region 1 with fail
 refine wp_world fun w1 hw1=>?_
 have hO:=Blk.new w 60 #[.int .i64 kd,.int .i64 l,.int .i64 y,.int .i64 z]
 have hs1:Same w w1:=by rw [hw1];exact (Frm.refl _ _).alloc _
 rw [← hw1] at hO
 clear hw1
 have hX:=HX.out.also hs1 (C:=fun b=>b=w.heap.size) (fun b hb=>Nat.le_of_eq hb.symm)
 have hB1:∀ b,(B b∨b=w.heap.size)→b < w1.heap.size:=fun b hb=>hb.elim (fun h=>Nat.lt_of_lt_of_le (HB.out b h) hs1.size) (fun h=>by have:=hO.lt;omega)
 have hxl:=hX.blk.lt
 have c0:=hX.c0
 have c1:=hX.c1
 have c2:=hX.c2
 rw [HL.out] at c2
 have o0:=hO.cell 0
 have o1:=hO.cell 1
 have o2:=hO.cell 2
 have o3:=hO.cell 3
 have ol:=hO.lt
 simp at o0 o1 o2 o3
 have n1:¬ OutS (fun b=>B b∨b=w.heap.size) xb q xb:=fun h=>h (.inr (.inl rfl))
 have n2:¬ OutS (fun b=>B b∨b=w.heap.size) xb q w.heap.size:=fun h=>h (.inl (.inr rfl))
 have HO:=Lib.hid hO
 have HS1:=Lib.hid hs1
 have HX1:=Lib.hid hX
 have HB1:=Lib.hid hB1
 have HUP:=Lib.hid (Up.ofSame hs1:Up B w w1)
 clear hO hs1 hX hB1
 go_wp2
 go_ret
 exact ⟨rfl,⟨q,HX1.out.sub (fun _ hb=>.inl hb)⟩,HUP.out⟩
theorem step_keep (hX:RW B w xb x q) (hB:∀ b,B b→b < w.heap.size) (hl:x.held.length=x.refs.length) (hrg:∀ r∈x.refs,0≤r∧r < 4294967296) (hcb:∀ c∈x.held,0≤c∧c≤1000000000000000) (i y z:Int) :
  Calls Tryz.prog 41 #[.pointer (some ⟨xb,0,none⟩),.agg #[.int .i64 2,.int .i64 i,.int .i64 y,.int .i64 z]] w (StepTo B w xb (stepKp x i)):=by
 have HX:=Lib.hid hX
 have HB:=Lib.hid hB
 have HL:=Lib.hid hl
 have HRG:=Lib.hid hrg
 have HCB:=Lib.hid hcb
 obtain ⟨P,hP⟩:∃ z,stepKp x i=z:=⟨_,rfl⟩
 rw [hP]
 have HP:=Lib.hid hP
 clear hX hB hl hrg hcb hP
 go_enter Tryz.func41,Tryz.ntmps41
 go_upto_region 1 with fail
 refine wp_world fun w1 hw1=>?_
 have hO:=Blk.new w 60 #[.int .i64 2,.int .i64 i,.int .i64 y,.int .i64 z]
 have hs1:Same w w1:=by rw [hw1];exact (Frm.refl _ _).alloc _
 rw [← hw1] at hO
 clear hw1
 have hX:=HX.out.also hs1 (C:=fun b=>b=w.heap.size) (fun b hb=>Nat.le_of_eq hb.symm)
 have hB1:∀ b,(B b∨b=w.heap.size)→b < w1.heap.size:=fun b hb=>hb.elim (fun h=>Nat.lt_of_lt_of_le (HB.out b h) hs1.size) (fun h=>by have:=hO.lt;omega)
 have hxl:=hX.blk.lt
 have c0:=hX.c0
 have c1:=hX.c1
 have c2:=hX.c2
 rw [HL.out] at c2
 have o0:=hO.cell 0
 have o1:=hO.cell 1
 have o2:=hO.cell 2
 have o3:=hO.cell 3
 have ol:=hO.lt
 simp at o0 o1 o2 o3
 have n1:¬ OutS (fun b=>B b∨b=w.heap.size) xb q xb:=fun h=>h (.inr (.inl rfl))
 have n2:¬ OutS (fun b=>B b∨b=w.heap.size) xb q w.heap.size:=fun h=>h (.inl (.inr rfl))
 have HO:=Lib.hid hO
 have HS1:=Lib.hid hs1
 have HX1:=Lib.hid hX
 have HB1:=Lib.hid hB1
 have HUP:=Lib.hid (Up.ofSame hs1:Up B w w1)
 clear hO hs1 hX hB1
 have hhs:=has_any HX1.out HL.out i
 obtain ⟨hbv,hh⟩:∃ z,hasB x i=z:=⟨_,rfl⟩
 rw [hh] at hhs
 have HHS:=Lib.hid hhs
 clear hhs
 cases hbv with
 | false =>
  have hP:P=(x,0):=by rw [← HP.out];unfold stepKp;rw [if_neg (by rw [hh] <;> decide)]
  subst hP
  clear hh
  go_wp2_with (fail)
  refine HHS.out.mono ?_
  rintro e w2 ⟨rfl,rfl⟩
  go_wp2
  go_ret
  exact ⟨rfl,⟨q,HX1.out.sub (fun _ hb=>.inl hb)⟩,HUP.out⟩
 | true =>
  obtain ⟨m,rfl,hm⟩:=hasB_range hh
  obtain ⟨r,hr⟩:∃ r,x.refs[m]?=some r:=⟨_,List.getElem?_eq_getElem hm⟩
  obtain ⟨c,hc⟩:∃ c,x.held[m]?=some c:=⟨_,List.getElem?_eq_getElem (by rw [HL.out];exact hm)⟩
  have gr:=HRG.out r (List.mem_of_getElem? hr)
  have gc:=HCB.out c (List.mem_of_getElem? hc)
  have hI:(m:Int) < (x.refs.length:Int):=by omega
  have hrd:x.refs.getD (m:Int).toNat 0=r:=by rw [Int.toNat_natCast,List.getD_eq_getElem?_getD,hr];rfl
  have hcd:x.held.getD (m:Int).toNat 0=c:=by rw [Int.toNat_natCast,List.getD_eq_getElem?_getD,hc];rfl
  obtain ⟨rb,hA,rl,d0⟩:=HX1.out.refs.at1 (c:=rc) hr
  obtain ⟨hb,hA2,hbl,d1⟩:=HX1.out.held.at1 (c:=fun x:Int=>.int .i64 x) hc
  rw [hA] at c1
  rw [hA2] at c2
  unfold rc at d0
  have n3:¬ OutS (fun b=>B b∨b=w.heap.size) xb q rb:=fun h=>h (.inr (.inr (.inl ⟨_,hA,rfl⟩)))
  have n4:¬ OutS (fun b=>B b∨b=w.heap.size) xb q hb:=fun h=>h (.inr (.inr (.inr ⟨_,hA2,rfl⟩)))
  have HHA:=Lib.hid hA2
  have HHR:=Lib.hid hr
  have HHR2:=Lib.hid hA
  have HHC:=Lib.hid hc
  have HHM:=Lib.hid hm
  clear hA hA2 hr hc hm
  have hP:=HP.out
  unfold stepKp at hP
  rw [if_pos hh,hrd,hcd] at hP
  have hkk:=fun w' (hs:Same w1 w')=>kr_keep (HX1.out.k.same hs) (fun b hb=>Nat.lt_of_lt_of_le (HX1.out.all HB1.out b hb) hs.size) r gr.1 gr.2
  obtain ⟨⟨E,k'⟩,hkE⟩:∃ z,keepK x.k r=z:=⟨_,rfl⟩
  rw [hkE] at hkk hP
  simp only at hkk hP
  have HKK:=Lib.hid hkk
  replace HP:=Lib.hid hP
  clear hkk hP hkE hh hrd hcd
  go_wp2_with (fail)
  refine HHS.out.mono ?_
  rintro e w2 ⟨rfl,rfl⟩
  go_upto_region 12 with fail
  refine wp_phS (OutS (fun b=>B b∨b=w.heap.size) xb q) [([0,1,2,3,4,5,6,7,8,9,10,11],12),([],13)] (by kernel_rfl) (by kernel_rfl) ?_
  simp only [wpPh,pick,List.map_cons,List.map_nil,List.getD_cons_zero,List.getD_cons_succ]
  have hs:Same w1 w1.drew:=(Frm.refl _ _).drew
  repeat (any_goals (first | go_big_quiet_step (fail) | quiet_step (fail)))
  refine wpQuiet_nil ?_
  refine effStep_plain rfl fun K hK=>?_
  go_simp
  refine (HKK.out _ hs).mono ?_
  rintro e w2 ⟨rfl,hk,hu⟩
  refine hK _ _ (Lat.mk_ ((hs.mono (fun _ _ h=>h.elim)).trans hu (fun _ _ h=>h))) ?_
  clear hK K
  have HX2:=Lib.hid ((HX1.out.same hs).kernel hk hu)
  have HUP2:=Lib.hid (HUP.out.trans (Frm.mono ((Up.ofSame hs).trans HX2.out.2) (fun _ _ hn hb=>hn (.inl hb))))
  have hB2:∀ b,(B b∨b=w.heap.size)→b < w2.heap.size:=fun b hb=>Nat.lt_of_lt_of_le (HB1.out b hb) (Nat.le_trans hs.size hu.size)
  have HB2:=Lib.hid hB2
  replace HO:=Lib.hid (HX2.out.2.kept (HO.out.frm hs id) (.inr rfl))
  clear hk hu hs hB2 hxl c0 c1 c2 o0 o1 o2 o3 ol d0 d1 rl hbl
  repeat (any_goals (first | go_big_quiet_step (fail) | quiet_step (fail)))
  refine wpQuiet_nil ?_
  by_cases hE:E=0
  ·subst hE
   have hP:=HP.out
   rw [if_pos rfl] at hP
   replace HP:=Lib.hid hP
   clear hP
   have hX2:=HX2.out.1
   have hxl:=hX2.blk.lt
   have c2:=hX2.c2
   simp only at c2
   rw [HL.out,HHA.out] at c2
   have o1:=HO.out.cell 1
   have ol:=HO.out.lt
   simp at o1
   have hds:=hX2.held
   rw [HHA.out] at hds
   have fk:=Own.free hds m
   obtain ⟨hb',hA',hbl,d1⟩:=hds.at1 (c:=fun x:Int=>.int .i64 x) HHC.out
   injection hA' with hA'
   injection hA' with hA'
   subst hA'
   have hpt:=Own.put1 (c:=fun x:Int=>.int .i64 x) hds (i:=m) (by rw [HL.out];exact HHM.out) (c+1)
   have hne:xb≠hb:=fun h=>hX2.held.ne_blk hX2.blk (by decide) _ HHA.out h.symm
   have hll:(x.held.set m (c+1)).length=x.held.length:=List.length_set ..
   rw [← hll,← HHA.out] at hpt
   have hto:=hX2.held_to (w':=w2.setCell ⟨hb,m,none⟩ (.int .i64 (c+1))) (hs:=x.held.set m (c+1)) (A2:=q.hA) (C2:=q.hC) ((Frm.refl _ _).set m _ (.inr ⟨_,HHA.out,rfl⟩)) (by
    have hb:=hX2.blk.far (p:=⟨hb,m,none⟩) hne (.int .i64 (c+1))
    simpa [rcells] using hb) hpt (fun b hb=>.inl hb) HB2.out
   have HTO:=Lib.hid hto
   clear hto hpt hds hX2 hne hll
   go_upto_region 14 with fail
   refine wp_phS (OutS (fun b=>B b∨b=w.heap.size) xb q) [([0,1,2,3,4,5,6,7,8,9],10)] (by kernel_rfl) (by kernel_rfl) ?_
   simp only [wpPh,pick,List.map_cons,List.map_nil,List.getD_cons_zero,List.getD_cons_succ]
   repeat (any_goals (first | go_big_quiet_step (fail) | quiet_step (fail)))
   refine wpQuiet_nil ?_
   go_wp2
   go_ret
   have hP:=HP.out
   subst hP
   exact ⟨rfl,⟨q,(HTO.out.1.same ((Frm.refl _ _).drew)).sub (fun _ hb=>.inl hb)⟩,(HUP2.out.trans (Frm.mono HTO.out.2 (fun _ _ hn hb=>hn (.inl hb)))).trans (Up.ofSame ((Frm.refl _ _).drew))⟩
  ·have hP:=HP.out
   rw [if_neg hE] at hP
   subst hP
   clear HP
   go_wp2
   go_ret
   exact ⟨rfl,⟨q,HX2.out.1.sub (fun _ hb=>.inl hb)⟩,HUP2.out⟩
theorem step_drop (hX:RW B w xb x q) (hB:∀ b,B b→b < w.heap.size) (hl:x.held.length=x.refs.length) (hrg:∀ r∈x.refs,0≤r∧r < 4294967296) (hcb:∀ c∈x.held,0≤c∧c≤1000000000000000) (i y z:Int) :
  Calls Tryz.prog 41 #[.pointer (some ⟨xb,0,none⟩),.agg #[.int .i64 3,.int .i64 i,.int .i64 y,.int .i64 z]] w (StepTo B w xb (stepDr x i)):=by
 have HX:=Lib.hid hX
 have HB:=Lib.hid hB
 have HL:=Lib.hid hl
 have HRG:=Lib.hid hrg
 have HCB:=Lib.hid hcb
 obtain ⟨P,hP⟩:∃ z,stepDr x i=z:=⟨_,rfl⟩
 rw [hP]
 have HP:=Lib.hid hP
 clear hX hB hl hrg hcb hP
 go_enter Tryz.func41,Tryz.ntmps41
 go_upto_region 1 with fail
 refine wp_world fun w1 hw1=>?_
 have hO:=Blk.new w 60 #[.int .i64 3,.int .i64 i,.int .i64 y,.int .i64 z]
 have hs1:Same w w1:=by rw [hw1];exact (Frm.refl _ _).alloc _
 rw [← hw1] at hO
 clear hw1
 have hX:=HX.out.also hs1 (C:=fun b=>b=w.heap.size) (fun b hb=>Nat.le_of_eq hb.symm)
 have hB1:∀ b,(B b∨b=w.heap.size)→b < w1.heap.size:=fun b hb=>hb.elim (fun h=>Nat.lt_of_lt_of_le (HB.out b h) hs1.size) (fun h=>by have:=hO.lt;omega)
 have hxl:=hX.blk.lt
 have c0:=hX.c0
 have c1:=hX.c1
 have c2:=hX.c2
 rw [HL.out] at c2
 have o0:=hO.cell 0
 have o1:=hO.cell 1
 have o2:=hO.cell 2
 have o3:=hO.cell 3
 have ol:=hO.lt
 simp at o0 o1 o2 o3
 have n1:¬ OutS (fun b=>B b∨b=w.heap.size) xb q xb:=fun h=>h (.inr (.inl rfl))
 have n2:¬ OutS (fun b=>B b∨b=w.heap.size) xb q w.heap.size:=fun h=>h (.inl (.inr rfl))
 have HO:=Lib.hid hO
 have HS1:=Lib.hid hs1
 have HX1:=Lib.hid hX
 have HB1:=Lib.hid hB1
 have HUP:=Lib.hid (Up.ofSame hs1:Up B w w1)
 clear hO hs1 hX hB1
 have hhs:=fun w' (hs:Same w1 w')=>has_any (HX1.out.same hs) HL.out i
 obtain ⟨hbv,hh⟩:∃ z,hasB x i=z:=⟨_,rfl⟩
 rw [hh] at hhs
 have HHS:=Lib.hid hhs
 clear hhs
 have hs:Same w1 w1.drew:=(Frm.refl _ _).drew
 cases hbv with
 | false =>
  have hP:P=(x,0):=by rw [← HP.out];unfold stepDr;rw [if_neg (fun h=>by rw [hh] at h;exact absurd h.1 (by decide))]
  subst hP
  clear hh
  go_upto_region 17 with fail
  refine wp_phS (fun _=>False) [([0,1,2],3),([4,5,6,7,8,9,10,11,12,13],14)] (by kernel_rfl) (by kernel_rfl) ?_
  rw [wpPh_go_eq]
  simp only [pick,List.map_cons,List.map_nil,List.getD_cons_zero,List.getD_cons_succ]
  repeat go_big_quiet_step (fail)
  refine wpQuiet_nil ?_
  refine effStep_plain rfl fun K hK=>?_
  go_simp
  refine (HHS.out _ hs).mono ?_
  rintro e w2 ⟨rfl,rfl⟩
  refine hK _ _ (Lat.mk_ hs) ?_
  clear hK K
  rw [wpPh_end_eq]
  simp only [pick,List.map_cons,List.map_nil,List.getD_cons_zero,List.getD_cons_succ]
  repeat go_big_quiet_step (fail)
  rw [wpQuiet_nil_eq]
  go_wp2
  go_ret
  exact ⟨rfl,⟨q,(HX1.out.same hs).sub (fun _ hb=>.inl hb)⟩,HUP.out.trans (Up.ofSame hs)⟩
 | true =>
  obtain ⟨m,rfl,hm⟩:=hasB_range hh
  obtain ⟨r,hr⟩:∃ r,x.refs[m]?=some r:=⟨_,List.getElem?_eq_getElem hm⟩
  obtain ⟨c,hc⟩:∃ c,x.held[m]?=some c:=⟨_,List.getElem?_eq_getElem (by rw [HL.out];exact hm)⟩
  have gr:=HRG.out r (List.mem_of_getElem? hr)
  have gc:=HCB.out c (List.mem_of_getElem? hc)
  have hI:(m:Int) < (x.refs.length:Int):=by omega
  have hrd:x.refs.getD (m:Int).toNat 0=r:=by rw [Int.toNat_natCast,List.getD_eq_getElem?_getD,hr];rfl
  have hcd:x.held.getD (m:Int).toNat 0=c:=by rw [Int.toNat_natCast,List.getD_eq_getElem?_getD,hc];rfl
  obtain ⟨rb,hA,rl,d0⟩:=HX1.out.refs.at1 (c:=rc) hr
  obtain ⟨hb,hA2,hbl,d1⟩:=HX1.out.held.at1 (c:=fun x:Int=>.int .i64 x) hc
  rw [hA] at c1
  rw [hA2] at c2
  unfold rc at d0
  have n3:¬ OutS (fun b=>B b∨b=w.heap.size) xb q rb:=fun h=>h (.inr (.inr (.inl ⟨_,hA,rfl⟩)))
  have n4:¬ OutS (fun b=>B b∨b=w.heap.size) xb q hb:=fun h=>h (.inr (.inr (.inr ⟨_,hA2,rfl⟩)))
  have HHA:=Lib.hid hA2
  have HHR:=Lib.hid hr
  have HHR2:=Lib.hid hA
  have HHC:=Lib.hid hc
  have HHM:=Lib.hid hm
  clear hA hA2 hr hc hm
  have hP:=HP.out
  unfold stepDr at hP
  rw [hrd,hcd] at hP
  by_cases hc0:0 < c
  ·rw [if_pos ⟨hh,hc0⟩] at hP
   replace HP:=Lib.hid hP
   clear hP hh hrd hcd
   go_upto_region 17 with fail
   refine wp_phS (fun _=>False) [([0,1,2],3),([4,5,6,7,8,9,10,11,12,13],14)] (by kernel_rfl) (by kernel_rfl) ?_
   rw [wpPh_go_eq]
   simp only [pick,List.map_cons,List.map_nil,List.getD_cons_zero,List.getD_cons_succ]
   repeat go_big_quiet_step (fail)
   refine wpQuiet_nil ?_
   refine effStep_plain rfl fun K hK=>?_
   go_simp
   refine (HHS.out _ hs).mono ?_
   rintro e w2 ⟨rfl,rfl⟩
   refine hK _ _ (Lat.mk_ hs) ?_
   clear hK K
   rw [wpPh_end_eq]
   simp only [pick,List.map_cons,List.map_nil,List.getD_cons_zero,List.getD_cons_succ]
   repeat go_big_quiet_step (fail)
   rw [wpQuiet_nil_eq]
   have hX2:=HX1.out.same hs
   have HUP2:=Lib.hid (HUP.out.trans (Up.ofSame hs))
   have HB2:Hid (∀ b,(B b∨b=w.heap.size)→b < w1.drew.heap.size):=Lib.hid (fun b hb=>Nat.lt_of_lt_of_le (HB1.out b hb) hs.size)
   replace HO:=Lib.hid (HO.out.frm hs id)
   clear hxl c0 c1 c2 o0 o1 o2 o3 ol d0 d1 hbl rl
   generalize w1.drew=w2 at hX2 HUP2 HB2 HO ⊢
   have hxl:=hX2.blk.lt
   have c2:=hX2.c2
   rw [HL.out,HHA.out] at c2
   have o1:=HO.out.cell 1
   have ol:=HO.out.lt
   simp at o1
   have hds:=hX2.held
   rw [HHA.out] at hds
   have fk:=Own.free hds m
   obtain ⟨hb',hA',hbl,d1⟩:=hds.at1 (c:=fun x:Int=>.int .i64 x) HHC.out
   injection hA' with hA'
   injection hA' with hA'
   subst hA'
   have hpt:=Own.put1 (c:=fun x:Int=>.int .i64 x) hds (i:=m) (by rw [HL.out];exact HHM.out) (c - 1)
   have hne:xb≠hb:=fun h=>hX2.held.ne_blk hX2.blk (by decide) _ HHA.out h.symm
   have hll:(x.held.set m (c - 1)).length=x.held.length:=List.length_set ..
   rw [← hll,← HHA.out] at hpt
   have hto:=hX2.held_to (w':=w2.setCell ⟨hb,m,none⟩ (.int .i64 (c - 1))) (hs:=x.held.set m (c - 1)) (A2:=q.hA) (C2:=q.hC) ((Frm.refl _ _).set m _ (.inr ⟨_,HHA.out,rfl⟩)) (by
    have hb:=hX2.blk.far (p:=⟨hb,m,none⟩) hne (.int .i64 (c - 1))
    simpa [rcells] using hb) hpt (fun b hb=>.inl hb) HB2.out
   have HTO:=Lib.hid hto
   clear hto hpt hds hX2 hne hll
   go_upto_region 18 with fail
   refine wp_phS (OutS (fun b=>B b∨b=w.heap.size) xb q) [([0,1,2,3,4,5,6,7,8,9],10)] (by kernel_rfl) (by kernel_rfl) ?_
   simp only [wpPh,pick,List.map_cons,List.map_nil,List.getD_cons_zero,List.getD_cons_succ]
   repeat (any_goals (first | go_big_quiet_step (fail) | quiet_step (fail)))
   refine wpQuiet_nil ?_
   go_upto_region 19 with fail
   have hX3:=HTO.out.1.same (w':=(w2.setCell ⟨hb,m,none⟩ (.int .i64 (c - 1))).drew) ((Frm.refl _ _).drew)
   have HU3:Hid (Up (fun b=>B b∨b=w.heap.size) w2 (w2.setCell ⟨hb,m,none⟩ (.int .i64 (c - 1))).drew):=Lib.hid (HTO.out.2.trans (Up.ofSame ((Frm.refl _ _).drew)))
   clear hs hxl c2 o1 ol d1 hbl fk
   generalize (w2.setCell ⟨hb,m,none⟩ (.int .i64 (c - 1))).drew=w3 at hX3 HU3 ⊢
   replace HO:=Lib.hid (HU3.out.kept HO.out (.inr rfl))
   have hxl:=hX3.blk.lt
   have c0:=hX3.c0
   have c1:=hX3.c1
   have o1:=HO.out.cell 1
   have ol:=HO.out.lt
   simp at o1
   simp only at c0 c1
   obtain ⟨rb',hA',rl,d0⟩:=hX3.refs.at1 (c:=rc) HHR.out
   simp only at hA'
   rw [hA'] at c1
   have hrb:rb'=rb:=by
    have h1:=HHR2.out
    rw [hA'] at h1
    injection h1 with h1
    injection h1
   subst hrb
   unfold rc at d0
   have HX3:=Lib.hid hX3
   have hB3:∀ b,(B b∨b=w.heap.size)→b < w3.heap.size:=fun b hb=>Nat.lt_of_lt_of_le (HB2.out b hb) HU3.out.size
   have hkk:=fun w' (hs:Same w3 w')=>kr_drop (HX3.out.k.same hs) (fun b hb=>Nat.lt_of_lt_of_le (HX3.out.all hB3 b hb) hs.size) r gr.1 gr.2
   simp only at hkk
   obtain ⟨⟨E,k'⟩,hkE⟩:∃ z,dropK x.k r=z:=⟨_,rfl⟩
   have hP:=HP.out
   rw [hkE] at hkk hP
   simp only at hkk hP
   have HKK:=Lib.hid hkk
   replace HP:=Lib.hid hP
   clear hkk hP hkE hA' hX3 hB3
   refine wp_phS (OutS (fun b=>B b∨b=w.heap.size) xb q) [([0,1,2,3,4,5,6,7,8,9,10,11],12),([],13)] (by kernel_rfl) (by kernel_rfl) ?_
   simp only [wpPh,pick,List.map_cons,List.map_nil,List.getD_cons_zero,List.getD_cons_succ]
   have hs:Same w3 w3.drew:=(Frm.refl _ _).drew
   repeat (any_goals (first | go_big_quiet_step (fail) | quiet_step (fail)))
   refine wpQuiet_nil ?_
   refine effStep_plain rfl fun K hK=>?_
   go_simp
   refine (HKK.out _ hs).mono ?_
   rintro e w4 ⟨rfl,hk,hu⟩
   refine hK _ _ (Lat.mk_ ((hs.mono (fun _ _ h=>h.elim)).trans hu (fun _ _ h=>h))) ?_
   clear hK K
   have HX4:=Lib.hid ((HX3.out.same hs).kernel hk hu)
   have HUP4:=Lib.hid (HUP2.out.trans (Frm.mono ((HU3.out.trans (Up.ofSame hs)).trans HX4.out.2) (fun _ _ hn hb=>hn (.inl hb))))
   clear hk hu hs
   repeat (any_goals (first | go_big_quiet_step (fail) | quiet_step (fail)))
   refine wpQuiet_nil ?_
   go_wp2
   go_ret
   have hP:=HP.out
   subst hP
   exact ⟨rfl,⟨q,HX4.out.1.sub (fun _ hb=>.inl hb)⟩,HUP4.out⟩
  ·rw [if_neg (fun h=>hc0 h.2)] at hP
   subst hP
   clear HP hh hrd hcd
   go_upto_region 17 with fail
   refine wp_phS (fun _=>False) [([0,1,2],3),([4,5,6,7,8,9,10,11,12,13],14)] (by kernel_rfl) (by kernel_rfl) ?_
   rw [wpPh_go_eq]
   simp only [pick,List.map_cons,List.map_nil,List.getD_cons_zero,List.getD_cons_succ]
   repeat go_big_quiet_step (fail)
   refine wpQuiet_nil ?_
   refine effStep_plain rfl fun K hK=>?_
   go_simp
   refine (HHS.out _ hs).mono ?_
   rintro e w2 ⟨rfl,rfl⟩
   refine hK _ _ (Lat.mk_ hs) ?_
   clear hK K
   rw [wpPh_end_eq]
   simp only [pick,List.map_cons,List.map_nil,List.getD_cons_zero,List.getD_cons_succ]
   repeat go_big_quiet_step (fail)
   rw [wpQuiet_nil_eq]
   go_wp2
   go_ret
   exact ⟨rfl,⟨q,(HX1.out.same hs).sub (fun _ hb=>.inl hb)⟩,HUP.out.trans (Up.ofSame hs)⟩
theorem step_make (hX:RW B w xb x q) (hB:∀ b,B b→b < w.heap.size) (hl:x.held.length=x.refs.length) (hrg:∀ r∈x.refs,0≤r∧r < 4294967296) (v b c:Int) (hrl:x.refs.length≤1000000) :
  Calls Tryz.prog 41 #[.pointer (some ⟨xb,0,none⟩),.agg #[.int .i64 1,.int .i64 v,.int .i64 b,.int .i64 c]] w (StepTo B w xb (stepMk x v b c)):=by
 have HX:=Lib.hid hX
 have HB:=Lib.hid hB
 have HL:=Lib.hid hl
 have HRG:=Lib.hid hrg
 obtain ⟨P,hP⟩:∃ z,stepMk x v b c=z:=⟨_,rfl⟩
 rw [hP]
 have HP:=Lib.hid hP
 clear hX hB hl hrg hP
 go_enter Tryz.func41,Tryz.ntmps41
 go_upto_region 1 with fail
 refine wp_world fun w1 hw1=>?_
 have hO:=Blk.new w 60 #[.int .i64 1,.int .i64 v,.int .i64 b,.int .i64 c]
 have hs1:Same w w1:=by rw [hw1];exact (Frm.refl _ _).alloc _
 rw [← hw1] at hO
 clear hw1
 have hX:=HX.out.also hs1 (C:=fun b=>b=w.heap.size) (fun b hb=>Nat.le_of_eq hb.symm)
 have hB1:∀ b,(B b∨b=w.heap.size)→b < w1.heap.size:=fun b hb=>hb.elim (fun h=>Nat.lt_of_lt_of_le (HB.out b h) hs1.size) (fun h=>by have:=hO.lt;omega)
 have hxl:=hX.blk.lt
 have c0:=hX.c0
 have c1:=hX.c1
 have c2:=hX.c2
 rw [HL.out] at c2
 have o0:=hO.cell 0
 have o1:=hO.cell 1
 have o2:=hO.cell 2
 have o3:=hO.cell 3
 have ol:=hO.lt
 simp at o0 o1 o2 o3
 have n1:¬ OutS (fun b=>B b∨b=w.heap.size) xb q xb:=fun h=>h (.inr (.inl rfl))
 have n2:¬ OutS (fun b=>B b∨b=w.heap.size) xb q w.heap.size:=fun h=>h (.inl (.inr rfl))
 have HO:=Lib.hid hO
 have HS1:=Lib.hid hs1
 have HX1:=Lib.hid hX
 have HB1:=Lib.hid hB1
 have HUP:=Lib.hid (Up.ofSame hs1:Up B w w1)
 clear hO hs1 hX hB1
 have hhs:=fun i=>has_any HX1.out HL.out i
 have HHS:=Lib.hid hhs
 clear hhs
 obtain ⟨hbv,hh⟩:∃ z,hasB x b=z:=⟨_,rfl⟩
 obtain ⟨hcv,hh2⟩:∃ z,hasB x c=z:=⟨_,rfl⟩
 have hhb:=HHS.out b
 have hhc:=HHS.out c
 rw [hh] at hhb
 rw [hh2] at hhc
 have HHB:=Lib.hid hhb
 have HHC:=Lib.hid hhc
 clear hhb hhc
 cases hbv with
 | false =>
  have hP:P=(x,0):=by rw [← HP.out];unfold stepMk;rw [if_neg (fun h=>by rw [hh] at h;exact absurd h.1 (by decide))]
  subst hP
  clear hh hh2
  go_wp2_with (fail)
  refine HHB.out.mono ?_
  rintro e w2 ⟨rfl,rfl⟩
  go_wp2
  go_ret
  exact ⟨rfl,⟨q,HX1.out.sub (fun _ hb=>.inl hb)⟩,HUP.out⟩
 | true =>
  cases hcv with
  | false =>
   have hP:P=(x,0):=by rw [← HP.out];unfold stepMk;rw [if_neg (fun h=>by rw [hh2] at h;exact absurd h.2.1 (by decide))]
   subst hP
   clear hh hh2
   go_wp2_with (fail)
   refine HHB.out.mono ?_
   rintro e w2 ⟨rfl,rfl⟩
   go_wp2_with (fail)
   refine HHC.out.mono ?_
   rintro e w2 ⟨rfl,rfl⟩
   go_wp2
   go_ret
   exact ⟨rfl,⟨q,HX1.out.sub (fun _ hb=>.inl hb)⟩,HUP.out⟩
  | true =>
   by_cases h60:x.refs.length < 60
   ·have hP:=HP.out
    unfold stepMk at hP
    rw [if_pos ⟨hh,hh2,h60⟩] at hP
    obtain ⟨m,rfl,hm⟩:=hasB_range hh
    obtain ⟨m2,rfl,hm2⟩:=hasB_range hh2
    have hI:(m:Int) < (x.refs.length:Int):=by omega
    have hI2:(m2:Int) < (x.refs.length:Int):=by omega
    have hJ:(x.refs.length:Int) < 60:=by omega
    obtain ⟨r,hr⟩:∃ r,x.refs[m]?=some r:=⟨_,List.getElem?_eq_getElem hm⟩
    obtain ⟨r2,hr2⟩:∃ r,x.refs[m2]?=some r:=⟨_,List.getElem?_eq_getElem hm2⟩
    have gr:=HRG.out r (List.mem_of_getElem? hr)
    have gr2:=HRG.out r2 (List.mem_of_getElem? hr2)
    have hrd:x.refs.getD (m:Int).toNat 0=r:=by rw [Int.toNat_natCast,List.getD_eq_getElem?_getD,hr];rfl
    have hrd2:x.refs.getD (m2:Int).toNat 0=r2:=by rw [Int.toNat_natCast,List.getD_eq_getElem?_getD,hr2];rfl
    rw [hrd,hrd2] at hP
    obtain ⟨rb,hA,rl,d0⟩:=HX1.out.refs.at1 (c:=rc) hr
    obtain ⟨rb2,hA2,_,d1⟩:=HX1.out.refs.at1 (c:=rc) hr2
    rw [hA] at hA2 c1
    injection hA2 with hA2
    injection hA2 with hA2
    subst hA2
    unfold rc at d0 d1
    have n3:¬ OutS (fun b=>B b∨b=w.heap.size) xb q rb:=fun h=>h (.inr (.inr (.inl ⟨_,hA,rfl⟩)))
    have hkk:=fun w' (hs:Same w1 w')=>kr_make (HX1.out.k.same hs) (fun b hb=>Nat.lt_of_lt_of_le (HX1.out.all HB1.out b hb) hs.size) ⟨v,r,r2⟩ gr.1 gr.2 gr2.1 gr2.2
    obtain ⟨⟨z,E,k'⟩,hkE⟩:∃ y,makeK x.k ⟨v,r,r2⟩=y:=⟨_,rfl⟩
    rw [hkE] at hkk hP
    simp only at hkk hP
    have HKK:=Lib.hid hkk
    replace HP:=Lib.hid hP
    have HHA:=Lib.hid hA
    clear hkk hP hkE hh hh2 hrd hrd2 hr hr2 hA gr gr2 HHS
    go_wp2_with (fail)
    refine HHB.out.mono ?_
    rintro e w2 ⟨rfl,rfl⟩
    go_wp2_with (fail)
    refine HHC.out.mono ?_
    rintro e w2 ⟨rfl,rfl⟩
    go_upto_region 5 with fail
    refine wp_phS (OutS (fun b=>B b∨b=w.heap.size) xb q) [([0,1,2,3,4,5,6,7,8,9,10,11,12,13,14,15,16,17,18,19,20,21],22),([23,24,25,26],27)] (by kernel_rfl) (by kernel_rfl) ?_
    simp only [wpPh,pick,List.map_cons,List.map_nil,List.getD_cons_zero,List.getD_cons_succ]
    have hs:Same w1 w1.drew:=(Frm.refl _ _).drew
    repeat (any_goals (first | go_big_quiet_step (fail) | quiet_step (fail)))
    refine wpQuiet_nil ?_
    refine effStep_plain rfl fun K hK=>?_
    go_simp
    refine (HKK.out _ hs).mono ?_
    rintro e w2 ⟨rfl,hk,hu⟩
    refine hK _ _ (Lat.mk_ ((hs.mono (fun _ _ h=>h.elim)).trans hu (fun _ _ h=>h))) ?_
    clear hK K
    have HX2:=Lib.hid ((HX1.out.same hs).kernel hk hu)
    have HUP2:=Lib.hid (HUP.out.trans (Frm.mono ((Up.ofSame hs).trans HX2.out.2) (fun _ _ hn hb=>hn (.inl hb))))
    have HB2:Hid (∀ b,B b→b < w2.heap.size):=Lib.hid (fun b hb=>Nat.lt_of_lt_of_le (HB1.out b (.inl hb)) (Nat.le_trans hs.size hu.size))
    clear hk hu hs hxl c0 c1 c2 o0 o1 o2 o3 ol d0 d1 rl n1 n2 n3
    repeat (any_goals (first | go_big_quiet_step (fail) | quiet_step (fail)))
    refine wpQuiet_nil ?_
    by_cases hE:E=0
    ·subst hE
     have hP:=HP.out
     rw [if_pos rfl] at hP
     replace HP:=Lib.hid hP
     have hX2:=HX2.out.1.sub (B':=B) (fun _ hb=>.inl hb)
     clear hP HX2
     have hxl:=hX2.blk.lt
     have c1:=hX2.c1
     simp only at c1
     have HX2:=Lib.hid hX2
     clear hX2
     go_upto_region 7 with fail
     refine wp_read 6 ?_
     simp only [List.take_succ_cons,List.take_zero,List.drop_succ_cons,List.drop_zero]
     repeat (any_goals (first | go_big_quiet_step (fail) | quiet_step (fail)))
     refine wpQuiet_nil ?_
     refine wpList_plain rfl fun K hK=>?_
     go_simp
     refine hK _ _ ?_
     clear hK K
     refine list_world fun wa hwa=>?_
     have hLb:=Blk.new w2 28 #[.int .u32 z]
     have hsa:Same w2 wa:=by rw [hwa];exact (Frm.refl _ _).alloc _
     rw [← hwa] at hLb
     clear hwa
     have hXa:=HX2.out.same hsa
     have hrow:Row1 wa 28 rc q.rA x.refs.length q.rC x.refs:=hXa.refs
     refine Own.append_list (f:=fun x=>[rc x]) rfl (.tmp 66) (.tmp 68) _ rfl Tryz.underlying40 info_ref rfl (by omega) rfl hrow (fun _=>rfl) z w2.heap.size 1 rfl (by simpa [rc] using hLb) (by simp [Value.oneCell',rc]) (by unfold maxLen;omega) (by omega) ?_
     intro gg cap wb hOb hgb hat
     have hbb:=hXa.blk.grown hgb (fun hx=>by
      obtain ⟨y,hy,hyb⟩:=ownBlock_row.1 hx.symm
      exact hrow.ne_blk hXa.blk (by decide) y hy hyb)
     have f1:=hbb.free 1
     have d1:=hbb.cell 1
     have hpb:=hbb.lt
     simp [rcells] at d1
     have hfr:Frm (fun b=>b=xb∨rowOf q.rA b) w2 wb:=(Frm.mono hsa (fun _ _ h=>h.elim)).grown hgb (fun g hg=>.inl (.inr (ownBlock_row.1 hg)))
     have hto:=HX2.out.refs_to (w':=wb.setCell ⟨xb,1,none⟩ (.slice (some ⟨gg,0,none⟩) (x.refs.length+1) cap)) (rs:=x.refs ++ [z]) (A2:=some ⟨gg,0,none⟩) (C2:=cap) (hfr.set 1 _ (.inl rfl)) (by
       have:=hbb.set 1 (.slice (some ⟨gg,0,none⟩) (x.refs.length+1) cap)
       simpa [rcells] using this)
      (by
       have:=Own.far (p:=⟨xb,1,none⟩) hOb (fun y hy h=>Own.ne_blk hOb hbb (by decide) y hy h) (.slice (some ⟨gg,0,none⟩) (x.refs.length+1) cap)
       rw [List.length_append]
       exact this)
      (fun b hb=>by
       obtain ⟨y,hy,rfl⟩:=hb
       injection hy with hy
       subst hy
       rcases hat with h | h
       ·exact .inl (ownBlock_row.1 h)
       ·have:=hsa.size
        exact .inr (by simp only;omega)) HB2.out
     have HTO:=Lib.hid hto
     have HB3:Hid (∀ b,B b→b < (wb.setCell ⟨xb,1,none⟩ (.slice (some ⟨gg,0,none⟩) (x.refs.length+1) cap)).heap.size):=Lib.hid (fun b hb=>by rw [size_setCell];have:=HB2.out b hb;have:=hfr.size;omega)
     clear hbb hfr hto hOb hgb hat hrow hXa hLb hsa c1 hxl
     go_upto_region 8 with fail
     generalize wb.setCell ⟨xb,1,none⟩ (.slice (some ⟨gg,0,none⟩) (x.refs.length+1) cap)=w3 at HTO HB3 ⊢
     clear f1 d1 hpb
     have hX3:=HTO.out.1
     have hxl:=hX3.blk.lt
     have c2:=hX3.c2
     simp only at c2
     rw [HL.out] at c2
     clear hX3
     refine wp_read 5 ?_
     simp only [List.take_succ_cons,List.take_zero,List.drop_succ_cons,List.drop_zero]
     repeat (any_goals (first | go_big_quiet_step (fail) | quiet_step (fail)))
     refine wpQuiet_nil ?_
     refine wpList_plain rfl fun K hK=>?_
     go_simp
     refine hK _ _ ?_
     clear hK K
     refine list_world fun wc hwc=>?_
     have hLb:=Blk.new w3 3 #[.int .i64 1]
     have hsa:Same w3 wc:=by rw [hwc];exact (Frm.refl _ _).alloc _
     rw [← hwc] at hLb
     clear hwc
     have hXa:=HTO.out.1.same hsa
     have hrow:OwnI wc 3 q.hA x.refs.length q.hC x.held:=by have:=hXa.held;simp only at this;rw [HL.out] at this;exact this
     refine Own.append_list (f:=icell) rfl (.tmp 76) (.tmp 77) _ rfl Tryz.underlying46 info_int rfl (by omega) rfl hrow icell_len 1 w3.heap.size 1 rfl (by simpa [icell] using hLb) (by simp [Value.oneCell',icell]) (by rw [HL.out];unfold maxLen;omega) (by rw [HL.out];omega) ?_
     intro gh cah wd hOb hgb hat
     have hbb:=hXa.blk.grown hgb (fun hx=>by
      obtain ⟨y,hy,hyb⟩:=ownBlock_row.1 hx.symm
      exact hrow.ne_blk hXa.blk (by decide) y hy hyb)
     have f2:=hbb.free 2
     have d2:=hbb.cell 2
     have hpb:=hbb.lt
     simp [rcells] at d2
     have hfr:Frm (fun b=>b=xb∨rowOf q.hA b) w3 wd:=(Frm.mono hsa (fun _ _ h=>h.elim)).grown hgb (fun g hg=>.inl (.inr (ownBlock_row.1 hg)))
     have hto:=HTO.out.1.held_to (w':=wd.setCell ⟨xb,2,none⟩ (.slice (some ⟨gh,0,none⟩) (x.refs.length+1) cah)) (hs:=x.held ++ [1]) (A2:=some ⟨gh,0,none⟩) (C2:=cah) (hfr.set 2 _ (.inl rfl)) (by
       have:=hbb.set 2 (.slice (some ⟨gh,0,none⟩) (x.refs.length+1) cah)
       simpa [rcells,HL.out] using this)
      (by
       have:=Own.far (p:=⟨xb,2,none⟩) hOb (fun y hy h=>Own.ne_blk hOb hbb (by decide) y hy h) (.slice (some ⟨gh,0,none⟩) (x.refs.length+1) cah)
       rw [List.length_append,HL.out]
       exact this)
      (fun b hb=>by
       obtain ⟨y,hy,rfl⟩:=hb
       injection hy with hy
       subst hy
       rcases hat with h | h
       ·exact .inl (ownBlock_row.1 h)
       ·have:=hsa.size
        exact .inr (by simp only;omega)) HB3.out
     have HTO2:=Lib.hid hto
     clear hbb hfr hto hOb hgb hat hrow hXa hLb hsa c2 hxl
     go_wp2
     go_ret
     have hP:=HP.out
     subst hP
     exact ⟨rfl,⟨_,HTO2.out.1⟩,(HUP2.out.trans HTO.out.2).trans HTO2.out.2⟩
    ·have hP:=HP.out
     rw [if_neg hE] at hP
     subst hP
     clear HP
     go_wp2
     go_ret
     exact ⟨rfl,⟨q,HX2.out.1.sub (fun _ hb=>.inl hb)⟩,HUP2.out⟩
   ·have hJ:¬ (x.refs.length:Int) < 60:=by omega
    have hP:P=(x,0):=by rw [← HP.out];unfold stepMk;rw [if_neg (fun h=>by exact h60 h.2.2)]
    subst hP
    clear hh hh2
    go_wp2_with (fail)
    refine HHB.out.mono ?_
    rintro e w2 ⟨rfl,rfl⟩
    go_wp2_with (fail)
    refine HHC.out.mono ?_
    rintro e w2 ⟨rfl,rfl⟩
    go_wp2
    go_ret
    exact ⟨rfl,⟨q,HX1.out.sub (fun _ hb=>.inl hb)⟩,HUP.out⟩
end
def hsum (refs held:List Int) (r:Int):Nat→Int
 | 0=>0
 | j+1=>if refs.getD j 0=r∧0 < held.getD j 0 then hsum refs held r j+held.getD j 0 else hsum refs held r j
theorem hsum_mono (refs held:List Int) (r:Int):∀ (n j:Nat),j≤n→hsum refs held r j≤hsum refs held r n
 | 0,j,h=>by
  obtain rfl:j=0:=by omega
  exact Int.le_refl _
 | n+1,j,h=>by
  by_cases hj:j=n+1
  ·subst hj
   exact Int.le_refl _
  ·have:=hsum_mono refs held r n j (by omega)
   show _≤(if refs.getD n 0=r∧0 < held.getD n 0 then hsum refs held r n+held.getD n 0 else hsum refs held r n)
   split
   ·rename_i h1
    omega
   ·exact this
theorem hsum_nn (refs held:List Int) (r:Int) (j:Nat):0≤hsum refs held r j:=hsum_mono refs held r j 0 (Nat.zero_le _)
theorem hsum_at {refs held:List Int} {r:Int} {j n:Nat} (hj:j < n) (h1:refs.getD j 0=r) (h2:0 < held.getD j 0):held.getD j 0≤hsum refs held r n:=by
 have h3:=hsum_mono refs held r n (j+1) hj
 have h4:=hsum_nn refs held r j
 have h5:hsum refs held r (j+1)=hsum refs held r j+held.getD j 0:=if_pos ⟨h1,h2⟩
 omega
theorem rootsTo_mem {l:List Int} {n:Nat} {r:Int}:r∈rootsTo l n↔∃ i:Nat,r=i∧i < n∧0 < l.getD i 0:=by
 unfold rootsTo
 rw [List.mem_map]
 constructor
 ·rintro ⟨i,hi,rfl⟩
  rw [List.mem_filter,List.mem_range] at hi
  exact ⟨i,rfl,hi.1,by simpa using hi.2⟩
 ·rintro ⟨i,rfl,h1,h2⟩
  exact ⟨i,List.mem_filter.2 ⟨List.mem_range.2 h1,by simpa using h2⟩,rfl⟩
theorem rootsTo_rise (l:List Int) (n:Nat):(rootsTo l n).Pairwise (· < ·):=by
 unfold rootsTo
 rw [List.pairwise_map]
 refine List.Pairwise.imp (R:=(· < ·)) (fun h=>by omega) ?_
 exact List.Pairwise.sublist List.filter_sublist List.pairwise_lt_range
theorem roots_two {k:KS} (K:KI k):∀ r∈rootsK k,2≤r∧0 < k.hs.getD r.toNat 0:=by
 intro r hr
 obtain ⟨i,rfl,h1,h2⟩:=rootsTo_mem.1 hr
 refine ⟨?_,by simpa using h2⟩
 rw [List.getD_eq_getElem?_getD,List.getElem?_eq_getElem h1] at h2
 obtain ⟨n,hn⟩:=(K.bk.hol i _ (List.getElem?_eq_getElem h1)).2.2 (by simp at h2;omega)
 rw [List.append_nil] at hn
 exact (K.mem' hn).1
def Held (x:RS):Prop:=∀ r:Int,2≤r→hsum x.refs x.held r x.refs.length=x.k.hs.getD r.toNat 0
section
variable {w w':World} {B:Nat→Prop} {xb:Nat} {x:RS} {q:RA}
theorem holds9_any (hX:RW B w xb x q) (hl:x.held.length=x.refs.length) (hrg:∀ r∈x.refs,0≤r∧r < 4294967296) (hcb:∀ c∈x.held,0≤c∧c≤1000000000000000) (hrl:x.refs.length≤1000000) (hh:Held x)
  (A:Option Addr) (C:Nat) (hA:Row1 w 28 rc A (rootsK x.k).length C (rootsK x.k)) :
  Calls Tryz.prog 84 #[.pointer (some ⟨xb,0,none⟩),.slice A (rootsK x.k).length C] w fun e w'=>e=.returned (.bool true)∧w=w':=by
 have hxl:=hX.blk.lt
 have c0:=hX.c0
 have c1:=hX.c1
 have c2:=hX.c2
 rw [hl] at c2
 have hrr:=roots_range hX.k.ki
 have hr2:=roots_two hX.k.ki
 have hri:(rootsK x.k).Pairwise (· < ·):=rootsTo_rise _ _
 have hrln:=roots_len hX.k.ki
 have hmem:∀ r:Int,2≤r→0 < x.k.hs.getD r.toNat 0→r∈rootsK x.k:=fun r h2 h0=>by
  refine rootsTo_mem.2 ⟨r.toNat,by omega,?_,h0⟩
  rw [List.getD_eq_getElem?_getD] at h0
  cases hx:x.k.hs[r.toNat]? with
  | none=>rw [hx] at h0;exact absurd h0 (by decide)
  | some y=>exact (List.getElem?_eq_some_iff.1 hx).1
 have hhl:∀ r:Int,x.k.hs.getD r.toNat 0≤65535:=fun r=>by
  rw [List.getD_eq_getElem?_getD]
  cases hx:x.k.hs[r.toNat]? with
  | none=>simp
  | some y=>exact (hX.k.ki.bk.hol _ y hx).2.1
 have hkh:=fun (r:Int) (h0:0≤r) (h1:r < 4294967296)=>kr_held hX.k r h0 h1
 obtain ⟨RL,hRL⟩:∃ z,rootsK x.k=z:=⟨_,rfl⟩
 rw [hRL] at hA hrr hr2 hri hrln hmem ⊢
 have HX:=Lib.hid hX
 have HL:=Lib.hid hl
 have HRG:=Lib.hid hrg
 have HCB:=Lib.hid hcb
 have HH:=Lib.hid hh
 have HA:=Lib.hid hA
 have HRR:=Lib.hid hrr
 have HR2:=Lib.hid hr2
 have HRI:=Lib.hid hri
 have HME:=Lib.hid hmem
 have HHL:=Lib.hid hhl
 have HKH:=Lib.hid hkh
 clear hX hl hrg hcb hh hA hrr hr2 hri hmem hhl hkh hRL
 go_enter Tryz.func84,Tryz.ntmps84
 go_wp2_with (fail)
 go_loopw [12] (fun s wr=>∃ i:Nat,i≤RL.length∧s=.int .i64 i∧w=wr) (fun s _=>RL.length - (intOf s).toNat)
 case atStart=>exact ⟨0,by omega,rfl,rfl⟩
 case round =>
  obtain ⟨i,hi,rfl,rfl⟩:=hrel
  by_cases hlt:i < RL.length
  ·have hI:(i:Int) < (RL.length:Int):=by omega
   obtain ⟨r,hr⟩:∃ r,RL[i]?=some r:=⟨_,List.getElem?_eq_getElem hlt⟩
   obtain ⟨sb,hA1,hsb,d0⟩:=HA.out.at1 (c:=rc) hr
   unfold rc at d0
   obtain ⟨r2,rh⟩:=HR2.out r (List.mem_of_getElem? hr)
   obtain ⟨r0,r1⟩:=HRR.out r (List.mem_of_getElem? hr)
   have hsumr:=HH.out r r2
   have hle:=HHL.out r
   have hkh:=HKH.out r r0 r1
   obtain ⟨c,hc⟩:∃ z,x.k.hs.getD r.toNat 0=z:=⟨_,rfl⟩
   rw [hc] at rh hsumr hle hkh
   have hprev:i=0∨∃ i' r',i=i'+1∧RL[i']?=some r'∧¬ r≤r':=by
    by_cases h0:i=0
    ·exact .inl h0
    ·refine .inr ⟨i - 1,RL[i - 1],by omega,List.getElem?_eq_getElem (by omega),?_⟩
     have h1:=List.pairwise_iff_getElem.1 HRI.out (i - 1) i (by omega) hlt (by omega)
     rw [List.getElem?_eq_getElem hlt] at hr
     injection hr with hr
     rw [hr] at h1
     omega
   have HSR:=Lib.hid hsumr
   have HKHr:=Lib.hid hkh
   have HPRV:=Lib.hid hprev
   clear hsumr hkh hprev hr hc
   subst hA1
   go_wp2_with (fail)
   go_loopw [7,22] (fun s7 s22 wr=>∃ j:Nat,j≤x.refs.length∧s22=.int .i64 j∧s7=.int .i64 (hsum x.refs x.held r j)∧w=wr) (fun s7 s22 _=>x.refs.length - (intOf s22).toNat)
   case atStart=>exact ⟨0,by omega,rfl,rfl,rfl⟩
   case round =>
    obtain ⟨j,hj,rfl,rfl,rfl⟩:=hrel
    by_cases hjl:j < x.refs.length
    ·have hJ:(j:Int) < (x.refs.length:Int):=by omega
     obtain ⟨y,hy⟩:∃ y,x.refs[j]?=some y:=⟨_,List.getElem?_eq_getElem hjl⟩
     obtain ⟨z,hz⟩:∃ z,x.held[j]?=some z:=⟨_,List.getElem?_eq_getElem (by rw [HL.out];exact hjl)⟩
     obtain ⟨rb,hA,rl,d1⟩:=HX.out.refs.at1 (c:=rc) hy
     obtain ⟨hb,hA2,hbl,d2⟩:=HX.out.held.at1 (c:=fun x:Int=>.int .i64 x) hz
     have hstep:hsum x.refs x.held r (j+1)=if y=r∧0 < z then hsum x.refs x.held r j+z else hsum x.refs x.held r j:=by
      show (if x.refs.getD j 0=r∧0 < x.held.getD j 0 then hsum x.refs x.held r j+x.held.getD j 0 else hsum x.refs x.held r j)=_
      rw [List.getD_eq_getElem?_getD,List.getD_eq_getElem?_getD,hy,hz]
      rfl
     have hm:=hsum_mono x.refs x.held r x.refs.length (j+1) hjl
     rw [HSR.out] at hm
     have hn:=hsum_nn x.refs x.held r j
     rw [hA] at c1
     rw [hA2] at c2
     unfold rc at d1
     obtain ⟨t,ht⟩:∃ t,hsum x.refs x.held r j=t:=⟨_,rfl⟩
     rw [ht] at hstep hn ⊢
     clear hy hz hA hA2 ht
     by_cases hyr:y=r
     ·by_cases hz0:0 < z
      ·rw [if_pos ⟨hyr,hz0⟩] at hstep
       rw [hstep] at hm
       have HST:=Lib.hid hstep
       clear hstep
       go_wp2
       go_roundw
       case rel=>exact ⟨j+1,by omega,by go_num,by rw [HST.out],trivial⟩
       case measure=>simp [intOf] <;> omega
      ·rw [if_neg (fun h=>hz0 h.2)] at hstep
       have HST:=Lib.hid hstep
       clear hstep hm
       go_wp2
       go_roundw
       case rel=>exact ⟨j+1,by omega,by go_num,by rw [HST.out],trivial⟩
       case measure=>simp [intOf] <;> omega
     ·rw [if_neg (fun h=>hyr h.1)] at hstep
      have HST:=Lib.hid hstep
      clear hstep hm
      go_wp2
      go_roundw
      case rel=>exact ⟨j+1,by omega,by go_num,by rw [HST.out],trivial⟩
      case measure=>simp [intOf] <;> omega
    ·obtain rfl:j=x.refs.length:=by omega
     have hJ:¬ ((x.refs.length:Nat):Int) < (x.refs.length:Int):=by omega
     rw [HSR.out]
     have e0:(c == 0)=false:=by
      have:c≠0:=by omega
      simpa using this
     have e1:(c != c)=false:=by simp
     have hr2':¬ r < 2:=by omega
     rcases HPRV.out with rfl | ⟨i',r',rfl,hr',hrr⟩
     ·go_wp2_with (fail)
      refine HKHr.out.mono ?_
      rintro e wy ⟨rfl,rfl⟩
      go_wp2
      go_roundw
      case rel=>exact ⟨1,by omega,by go_num,trivial⟩
      case measure=>simp [intOf] <;> omega
     ·obtain ⟨sb',hA',hsb',d1⟩:=HA.out.at1 (c:=rc) hr'
      injection hA' with hA'
      injection hA' with hA'
      subst hA'
      unfold rc at d1
      have hk1:(0:Int) < (i':Int)+1:=by omega
      have hk2:(i':Int) < RL.length:=by omega
      go_wp2_with (fail)
      refine HKHr.out.mono ?_
      rintro e wy ⟨rfl,rfl⟩
      go_wp2
      go_roundw
      case rel=>exact ⟨i'+2,by omega,by go_num,trivial⟩
      case measure=>simp [intOf] <;> omega
  ·obtain rfl:i=RL.length:=by omega
   have hI:¬ ((RL.length:Nat):Int) < (RL.length:Int):=by omega
   go_wp2_with (fail)
   go_loopw [89] (fun s wr=>∃ j:Nat,j≤x.refs.length∧s=.int .i64 j∧w=wr) (fun s _=>x.refs.length - (intOf s).toNat)
   case atStart=>exact ⟨0,by omega,rfl,rfl⟩
   case round =>
    obtain ⟨j,hj,rfl,rfl⟩:=hrel
    by_cases hjl:j < x.refs.length
    ·have hJ:(j:Int) < (x.refs.length:Int):=by omega
     obtain ⟨y,hy⟩:∃ y,x.refs[j]?=some y:=⟨_,List.getElem?_eq_getElem hjl⟩
     obtain ⟨z,hz⟩:∃ z,x.held[j]?=some z:=⟨_,List.getElem?_eq_getElem (by rw [HL.out];exact hjl)⟩
     obtain ⟨rb,hA,rl,d1⟩:=HX.out.refs.at1 (c:=rc) hy
     obtain ⟨hb,hA2,hbl,d2⟩:=HX.out.held.at1 (c:=fun x:Int=>.int .i64 x) hz
     have hin:2≤y→0 < z→0≤atI RL y:=fun h2 h0=>by
      have e1:x.refs.getD j 0=y:=by rw [List.getD_eq_getElem?_getD,hy];rfl
      have e2:x.held.getD j 0=z:=by rw [List.getD_eq_getElem?_getD,hz];rfl
      have h3:=hsum_at (refs:=x.refs) (held:=x.held) hjl e1 (by rw [e2];exact h0)
      rw [HH.out y h2,e2] at h3
      exact atI_mem.2 (HME.out y h2 (by omega))
     rw [hA] at c1
     rw [hA2] at c2
     unfold rc at d1
     have hat:=at9_any A RL.length C RL y w (HA.out.sl (fun _=>rfl)) (by omega)
     obtain ⟨t,ht⟩:∃ t,atI RL y=t:=⟨_,rfl⟩
     rw [ht] at hin hat
     have HAT:=Lib.hid hat
     clear hat ht hy hz hA hA2
     by_cases hy2:2≤y
     ·by_cases hz0:0 < z
      ·have ht0:¬ t < 0:=by have:=hin hy2 hz0;omega
       clear hin
       go_wp2_with (fail)
       refine HAT.out.mono ?_
       rintro e wy ⟨rfl,rfl⟩
       go_wp2
       go_roundw
       case rel=>exact ⟨j+1,by omega,by go_num,trivial⟩
       case measure=>simp [intOf] <;> omega
      ·clear hin
       go_wp2
       go_roundw
       case rel=>exact ⟨j+1,by omega,by go_num,trivial⟩
       case measure=>simp [intOf] <;> omega
     ·clear hin
      go_wp2
      go_roundw
      case rel=>exact ⟨j+1,by omega,by go_num,trivial⟩
      case measure=>simp [intOf] <;> omega
    ·obtain rfl:j=x.refs.length:=by omega
     have hJ:¬ ((x.refs.length:Nat):Int) < (x.refs.length:Int):=by omega
     go_wp2
     go_ret
     exact ⟨rfl,rfl⟩
end
theorem relF_hs:∀ (f:Nat) (k:KS) (st:List Int),(relF f k st).hs=k.hs
 | 0,_,_=>rfl
 | _+1,_,[]=>rfl
 | f+1,k,r :: st=>by
  unfold relF
  split
  ·exact relF_hs f k st
  ·split
   ·exact relF_hs f _ st
   ·exact relF_hs f _ _
theorem relK_hs (k:KS) (r:Int):(relK k r).hs=k.hs:=relF_hs _ _ _
section
variable {k:KS} {r s:Int} {l:Nat}
theorem getD_set9 {L:List Int} {i:Nat} {v:Int} (hi:i < L.length) (j:Nat):(L.set i v).getD j 0=if j=i then v else L.getD j 0:=by
 rw [List.getD_eq_getElem?_getD,List.getD_eq_getElem?_getD]
 by_cases h:j=i
 ·subst h
  rw [if_pos rfl,List.getElem?_set_self hi]
  rfl
 ·rw [if_neg h,List.getElem?_set_ne (fun e=>h e.symm)]
theorem keepK_hs (hl:1 < r→tk k.ls r=true→r.toNat < k.hs.length) (h0:0≤r) (hs:2≤s) :
  (keepK k r).2.hs.getD s.toNat 0=k.hs.getD s.toNat 0+(if (keepK k r).1=0∧s=r then 1 else 0):=by
 unfold keepK
 by_cases ht:tk k.ls r=false
 ·rw [if_pos ht,if_neg (fun h=>absurd (show (3:Int)=0 from h.1) (by decide))]
  simp
 ·rw [if_neg ht]
  by_cases h1:1 < r
  ·rw [if_pos h1]
   by_cases h5:k.hs.getD r.toNat 0=65535
   ·rw [if_pos h5,if_neg (fun h=>absurd (show (8:Int)=0 from h.1) (by decide))]
    simp
   ·rw [if_neg h5]
    show (k.hs.set r.toNat (k.hs.getD r.toNat 0+1)).getD s.toNat 0=_
    rw [getD_set9 (hl h1 (by simpa using ht))]
    by_cases hsr:s=r
    ·subst hsr
     rw [if_pos rfl,if_pos ⟨rfl,rfl⟩]
    ·rw [if_neg (by omega),if_neg (fun h=>hsr h.2)]
     omega
  ·rw [if_neg h1,if_neg (fun h=>by omega)]
   show k.hs.getD s.toNat 0=_
   omega
theorem dropK_hs (h0:0≤r) (hs:2≤s) :
  (dropK k r).2.hs.getD s.toNat 0=k.hs.getD s.toNat 0 - (if (dropK k r).1=0∧s=r then 1 else 0):=by
 unfold dropK
 by_cases h1:1 < r
 ·rw [if_pos h1]
  by_cases hh:k.hs.getD r.toNat 0=0
  ·rw [if_pos hh,if_neg (fun h=>absurd (show (3:Int)=0 from h.1) (by decide))]
   simp
  ·rw [if_neg hh]
   have hlen:r.toNat < k.hs.length:=by
    rw [List.getD_eq_getElem?_getD] at hh
    cases hx:k.hs[r.toNat]? with
    | none=>rw [hx] at hh;exact absurd rfl hh
    | some y=>exact (List.getElem?_eq_some_iff.1 hx).1
   show (unholdK k r).hs.getD s.toNat 0=_
   unfold unholdK
   by_cases e1:k.hs.getD r.toNat 0=1
   ·rw [if_pos e1,relK_hs]
    show (k.hs.set r.toNat 0).getD s.toNat 0=_
    rw [getD_set9 hlen]
    by_cases hsr:s=r
    ·subst hsr
     rw [if_pos rfl,if_pos ⟨rfl,rfl⟩,e1]
     rfl
    ·rw [if_neg (by omega),if_neg (fun h=>hsr h.2)]
     omega
   ·rw [if_neg e1]
    show (k.hs.set r.toNat (k.hs.getD r.toNat 0 - 1)).getD s.toNat 0=_
    rw [getD_set9 hlen]
    by_cases hsr:s=r
    ·subst hsr
     rw [if_pos rfl,if_pos ⟨rfl,rfl⟩]
    ·rw [if_neg (by omega),if_neg (fun h=>hsr h.2)]
     omega
 ·rw [if_neg h1,if_neg (fun h=>by omega)]
  show k.hs.getD s.toNat 0=_
  omega
theorem live_hs (K:KI k) (h1:1 < r) (ht:tk k.ls r=true):r.toNat < k.hs.length:=by
 rcases (K.live (by omega)).1 ht with h | h | ⟨n,hn⟩
 ·omega
 ·omega
 ·rw [← K.bk.ul]
  exact (K.bk.usR (List.mem_append_left _ hn)).2
theorem keptK_hs (hl:1 < r→tk k.ls r=true→r.toNat < k.hs.length) (h0:0≤r) (hs:2≤s) :
  (keptK k r).2.2.hs.getD s.toNat 0=k.hs.getD s.toNat 0+(if (keptK k r).2.1=0∧s=(keptK k r).1 then 1 else 0):=by
 have h:=keepK_hs hl h0 hs
 unfold keptK
 by_cases he:(keepK k r).1=0
 ·rw [if_pos he]
  rw [he] at h
  exact h
 ·rw [if_neg he,if_neg (fun h=>he h.1)]
  rw [if_neg (fun h=>he h.1)] at h
  exact h
theorem keptK_r (h0:0≤r) (h1:r < 4294967296):0≤(keptK k r).1∧(keptK k r).1 < 4294967296:=by
 unfold keptK
 split
 ·exact ⟨h0,h1⟩
 ·exact ⟨show (0:Int)≤0 by decide,show (0:Int) < 4294967296 by decide⟩
theorem takeR_lt9 (K:KI k):takeR k≤k.ls.length:=by
 unfold takeR
 split
 ·rename_i r hr
  obtain ⟨m,rfl,_,p,hp,_⟩:=K.bk.fre r (List.mem_of_getLast? hr)
  have:=(List.getElem?_eq_some_iff.1 hp).1
  omega
 ·exact Nat.le_refl _
theorem look_mem9 {L:List Ent} {n:Nd} {r:Int} (h:look L n=some r):(n,r)∈L:=look_mem h
theorem makeL_hs (K:KI k) (n:Nd) (l0:0≤n.lo) (l1:n.lo < 4294967296) (hs:2≤s) :
  (makeL k n (seekK k n)).2.2.hs.getD s.toNat 0=k.hs.getD s.toNat 0+(if (makeL k n (seekK k n)).2.1=0∧s=(makeL k n (seekK k n)).1 then 1 else 0)∧0≤(makeL k n (seekK k n)).1∧(makeL k n (seekK k n)).1 < 4294967296:=by
 cases hsk:seekK k n with
 | some r =>
  have hr:0≤r∧r < 4294967296:=by
   unfold seekK at hsk
   split at hsk
   ·injection hsk with hsk
    subst hsk
    exact ⟨l0,l1⟩
   ·have hm:=look_mem9 hsk
    obtain ⟨g1,g2,g3⟩:=K.mem' hm
    have:=tk_lt g3 (by omega)
    have:=K.lsl
    omega
  exact ⟨keptK_hs (fun a b=>live_hs K a b) hr.1 hs,keptK_r hr.1 hr.2⟩
 | none =>
  show (if k.ac+1≤k.c then keptK (takeK k n) (takeR k) else (0,9,k)).2.2.hs.getD s.toNat 0=_+(if (if k.ac+1≤k.c then keptK (takeK k n) (takeR k) else (0,9,k)).2.1=0∧s=(if k.ac+1≤k.c then keptK (takeK k n) (takeR k) else (0,9,k)).1 then 1 else 0)∧0≤(if k.ac+1≤k.c then keptK (takeK k n) (takeR k) else (0,9,k)).1∧(if k.ac+1≤k.c then keptK (takeK k n) (takeR k) else (0,9,k)).1 < 4294967296
  by_cases hc:k.ac+1≤k.c
  ·rw [if_pos hc]
   have hlen:takeR k < (takeK k n).hs.length:=by
    rw [takeK_eq]
    show takeR k < ((upto k.hs (takeR k+1)).set (takeR k) 0).length
    rw [List.length_set,upto_len]
    omega
   have h:=keptK_hs (k:=takeK k n) (r:=(takeR k:Int)) (s:=s) (fun _ _=>by rw [Int.toNat_natCast];exact hlen) (by omega) hs
   rw [takeK_hs K.bk n s.toNat] at h
   refine ⟨h,keptK_r (by omega) ?_⟩
   have h1:=takeR_lt9 K
   have h2:=K.lsl
   omega
  ·rw [if_neg hc,if_neg (fun h=>absurd (show (9:Int)=0 from h.1) (by decide))]
   exact ⟨by show k.hs.getD s.toNat 0=_;omega,show (0:Int)≤0 by decide,show (0:Int) < 4294967296 by decide⟩
theorem makeK_hs (K:KI k) (n:Nd) (l0:0≤n.lo) (l1:n.lo < 4294967296) (hs:2≤s) :
  (makeK k n).2.2.hs.getD s.toNat 0=k.hs.getD s.toNat 0+(if (makeK k n).2.1=0∧s=(makeK k n).1 then 1 else 0)∧0≤(makeK k n).1∧(makeK k n).1 < 4294967296:=by
 unfold makeK
 by_cases hf:fitsK k n=0
 ·rw [if_pos hf]
  exact makeL_hs K n l0 l1 hs
 ·rw [if_neg hf,if_neg (fun h=>hf h.1)]
  exact ⟨by show k.hs.getD s.toNat 0=_;omega,show (0:Int)≤0 by decide,show (0:Int) < 4294967296 by decide⟩
theorem keepK_tr:(keepK k r).2.tr=k.tr∨(keepK k r).2.tr=[]:=by
 unfold keepK
 split
 ·exact .inl rfl
 ·split
  ·split
   ·exact .inl rfl
   ·exact .inr rfl
  ·exact .inr rfl
theorem keptK_tr:(keptK k r).2.2.tr=k.tr∨(keptK k r).2.2.tr=[]:=by
 unfold keptK
 split
 ·exact keepK_tr
 ·exact keepK_tr
theorem makeL_tr (n:Nd) (o:Option Int):(makeL k n o).2.2.tr=k.tr∨(makeL k n o).2.2.tr=[]:=by
 cases o with
 | some r=>exact keptK_tr
 | none =>
  show (if k.ac+1≤k.c then keptK (takeK k n) (takeR k) else (0,9,k)).2.2.tr=k.tr∨(if k.ac+1≤k.c then keptK (takeK k n) (takeR k) else (0,9,k)).2.2.tr=[]
  split
  ·have h:=keptK_tr (k:=takeK k n) (r:=(takeR k:Int))
   rwa [show (takeK k n).tr=k.tr from congrArg (fun t=>t.2.2.2.2) (takeK_kst k n)] at h
  ·exact .inl rfl
theorem makeK_tr (n:Nd):(makeK k n).2.2.tr=k.tr∨(makeK k n).2.2.tr=[]:=by
 unfold makeK
 split
 ·exact makeL_tr n _
 ·exact .inl rfl
theorem dropK_tr:(dropK k r).2.tr=k.tr∨(dropK k r).2.tr=[]:=by
 unfold dropK
 split
 ·split
  ·exact .inl rfl
  ·exact .inr rfl
 ·exact .inr rfl
theorem turn_hs (K:KI k) (h1:l+1 < k.n) (m:Nat):(turnK k l).2.hs.getD m 0=k.hs.getD m 0:=by
 obtain ⟨x,y,h⟩:=xy_of K h1
 unfold turnK
 have e1:k.ord.getD l 0=x:=by rw [List.getD_eq_getElem?_getD,h.hx];rfl
 have e2:k.ord.getD (l+1) 0=y:=by rw [List.getD_eq_getElem?_getD,h.hy];rfl
 rw [e1,e2]
 split
 ·rename_i hR
  have t:=t2_end h K hR
  have hp:=t2_pos h K t
  have hb:=t.bk
  rw [List.append_nil] at hb
  have hb':Bk (turn2 (turn1 k (crsT k x y)) x y (crsT k x y)) (kids (crsT k x y) ++ []) []:=by rw [List.append_nil];exact hb
  obtain ⟨_,_,_,a4⟩:=turn3_bk _ _ _ hb' hp
  show (turn3 (turn2 (turn1 k (crsT k x y)) x y (crsT k x y)) (crsT k x y)).hs.getD m 0=_
  rw [a4]
  exact t.hsd m
 ·rfl
theorem turn_tr9 (k:KS) (l:Nat):(turnK k l).2.tr=k.tr:=by
 unfold turnK
 split
 ·have h:=fun x y=>((turn3_kst (turn2 (turn1 k (crsT k x y)) x y (crsT k x y)) (crsT k x y)).trans (turn2_kst _ x y _)).trans (turn1_kst k (crsT k x y))
  exact congrArg (fun t=>t.2.2.2.2) (h _ _)
 ·rfl
theorem exch_hs (K:KI k) (z:Int) (m:Nat):(exchK k z).2.hs.getD m 0=k.hs.getD m 0:=by
 unfold exchK
 split
 ·rfl
 ·rename_i h
  have h1:=turn_hs (l:=z.toNat) K (by omega) m
  split
  ·exact h1
  ·exact h1
theorem exch_tr (z:Int):(exchK k z).2.tr=k.tr∨((exchK k z).2.tr=k.tr ++ [z]∧0≤z∧z+1 < k.n):=by
 unfold exchK
 split
 ·exact .inl rfl
 ·rename_i h
  split
  ·exact .inr ⟨by show (turnK k z.toNat).2.tr ++ [z]=_;rw [turn_tr9],by omega,by omega⟩
  ·exact .inl (turn_tr9 k _)
theorem undo_hs (K:KI k) (ht:TrOk k) (m:Nat):(undoK k).2.2.hs.getD m 0=k.hs.getD m 0:=by
 unfold undoK
 cases hl:k.tr.getLast? with
 | none=>rfl
 | some z =>
  have hz:=ht z (List.mem_of_getLast? hl)
  exact turn_hs (l:=z.toNat) K (by omega) m
theorem undo_tr:(undoK k).2.2.tr=k.tr∨(undoK k).2.2.tr=k.tr.dropLast:=by
 unfold undoK
 cases hl:k.tr.getLast? with
 | none=>exact .inl rfl
 | some z=>exact .inr (by show (turnK k z.toNat).2.tr.dropLast=_;rw [turn_tr9])
end
def freshR (n c:Nat):RS:=⟨newK n c,[0,1],[0,0]⟩
theorem fresh_bad (n c:Int) (w:World) (h:n < 1∨64 < n∨c < 2∨1048576 < c) :
  Calls Tryz.prog 40 #[.int .i64 n,.int .i64 c] w fun e w'=>e=.returned (.tuple #[.pointer none,.bool false])∧Same w w':=by
 have hnb:=knew_bad (w:=w) n c h
 have HNB:=Lib.hid hnb
 clear hnb h
 go_enter Tryz.func40,Tryz.ntmps40
 go_wp2_with (fail)
 refine HNB.out.mono ?_
 rintro e w1 ⟨rfl,hs⟩
 have HS:=Lib.hid hs
 clear hs
 go_wp2
 go_ret2
 exact ⟨rfl,HS.out⟩
theorem fresh_ok (n c:Nat) (w:World) (h1:1≤n) (h2:n≤64) (h3:2≤c) (h4:c≤1048576) :
  Calls Tryz.prog 40 #[.int .i64 n,.int .i64 c] w fun e w'=>∃ xb q,e=.returned (.tuple #[.pointer (some ⟨xb,0,none⟩),.bool true])∧RW (fun b=>b < w.heap.size) w' xb (freshR n c) q∧Same w w':=by
 have hnw:=kr_new n c h1 h2 h3 h4 w
 have HNW:=Lib.hid hnw
 clear hnw h1 h2 h3 h4
 go_enter Tryz.func40,Tryz.ntmps40
 go_wp2_with (fail)
 refine HNW.out.mono ?_
 rintro e w1 ⟨kp,rfl,hk,hs⟩
 have HK:=Lib.hid hk
 have HS:=Lib.hid hs
 clear hk hs
 go_wp2
 go_ret2
 have hk:=HK.out
 have hlow:=HS.out.size
 have e1:(w1.alloc (.cells #[.int .u32 0,.int .u32 1] 28)).heap.size=w1.heap.size+1:=by simp
 have bA:=Blk.new w1 28 #[.int .u32 0,.int .u32 1]
 have sA:Same w1 (w1.alloc (.cells #[.int .u32 0,.int .u32 1] 28)):=(Frm.refl _ _).alloc _
 generalize w1.alloc (.cells #[.int .u32 0,.int .u32 1] 28)=wA at e1 bA sA ⊢
 have e2:(wA.alloc (.cells #[.int .i64 0,.int .i64 0] 3)).heap.size=wA.heap.size+1:=by simp
 have bB:=Blk.new wA 3 #[.int .i64 0,.int .i64 0]
 have sB:Same wA (wA.alloc (.cells #[.int .i64 0,.int .i64 0] 3)):=(Frm.refl _ _).alloc _
 generalize wA.alloc (.cells #[.int .i64 0,.int .i64 0] 3)=wB at e2 bB sB ⊢
 have bC:=Blk.new wB 78 #[.pointer (some ⟨kp,0,none⟩),.slice (some ⟨w1.heap.size,0,none⟩) 2 2,.slice (some ⟨w1.heap.size+1,0,none⟩) 2 2]
 have sC:Same wB (wB.alloc (.cells #[.pointer (some ⟨kp,0,none⟩),.slice (some ⟨w1.heap.size,0,none⟩) 2 2,.slice (some ⟨w1.heap.size+1,0,none⟩) 2 2] 78)):=(Frm.refl _ _).alloc _
 generalize wB.alloc (.cells #[.pointer (some ⟨kp,0,none⟩),.slice (some ⟨w1.heap.size,0,none⟩) 2 2,.slice (some ⟨w1.heap.size+1,0,none⟩) 2 2] 78)=wC at bC sC ⊢
 rw [e1] at bB
 rw [e2,e1] at bC
 have sBC:=sB.trans sC (fun _ _ h=>h)
 have sAC:=sA.trans sBC (fun _ _ h=>h)
 refine ⟨w1.heap.size+1+1,⟨kp,some ⟨w1.heap.size,0,none⟩,2,some ⟨w1.heap.size+1,0,none⟩,2⟩,rfl,⟨bC,?_,?_,?_,?_⟩,HS.out.trans sAC (fun _ _ h=>h)⟩
 ·refine (hk.also sAC (C:=fun b=>w1.heap.size≤b) (fun b hb=>hb)).sub (fun b hb=>?_)
  rcases hb with hb | rfl | ⟨y,hy,rfl⟩ | ⟨y,hy,rfl⟩
  ·exact .inl hb
  ·exact .inr (by omega)
  ·injection hy with hy
   subst hy
   exact .inr (Nat.le_refl _)
  ·injection hy with hy
   subst hy
   exact .inr (Nat.le_succ _)
 ·exact Own.ofBlk (f:=fun x=>[rc x]) (fun _=>rfl) (bA.frm sBC id) [0,1] (by decide) rfl
 ·exact Own.ofBlk (f:=icell) icell_len (bB.frm sC id) [0,0] (by decide) rfl
 ·rintro b (rfl | ⟨y,hy,rfl⟩ | ⟨y,hy,rfl⟩)
  ·omega
  ·injection hy with hy
   subst hy
   show ¬ w1.heap.size < w.heap.size
   omega
  ·injection hy with hy
   subst hy
   show ¬ w1.heap.size+1 < w.heap.size
   omega
def ps (c:Int):Int:=if 0 < c then c else 0
theorem hsum_succ (refs held:List Int) (r:Int) (j:Nat):hsum refs held r (j+1)=hsum refs held r j+(if refs.getD j 0=r then ps (held.getD j 0) else 0):=by
 show (if refs.getD j 0=r∧0 < held.getD j 0 then hsum refs held r j+held.getD j 0 else hsum refs held r j)=_
 unfold ps
 by_cases h1:refs.getD j 0=r
 ·by_cases h2:0 < held.getD j 0
  ·rw [if_pos ⟨h1,h2⟩,if_pos h1,if_pos h2]
  ·rw [if_neg (fun h=>h2 h.2),if_pos h1,if_neg h2]
   omega
 ·rw [if_neg (fun h=>h1 h.1),if_neg h1]
  omega
theorem hsum_set {refs held:List Int} {r c:Int} {i:Nat} (hi:i < held.length):∀ n,hsum refs (held.set i c) r n=hsum refs held r n+(if i < n∧refs.getD i 0=r then ps c - ps (held.getD i 0) else 0)
 | 0=>by rw [if_neg (fun h=>absurd h.1 (by omega))];rfl
 | n+1=>by
  rw [hsum_succ,hsum_succ,hsum_set hi n,getD_set9 hi]
  by_cases hn:n=i
  ·subst hn
   by_cases hr:refs.getD n 0=r
   ·simp only [hr,if_true,Nat.lt_irrefl,false_and,if_false,Nat.lt_succ_self,and_self]
    omega
   ·simp only [hr,if_false,and_false]
  ·rw [if_neg hn]
   by_cases hr:i < n∧refs.getD i 0=r
   ·have hr':i < n+1∧refs.getD i 0=r:=⟨by omega,hr.2⟩
    rw [if_pos hr,if_pos hr']
    omega
   ·have hr':¬ (i < n+1∧refs.getD i 0=r):=fun h=>hr ⟨by omega,h.2⟩
    rw [if_neg hr,if_neg hr']
    omega
theorem getD_left {L M:List Int} {i:Nat} (h:i < L.length):(L ++ M).getD i 0=L.getD i 0:=by
 rw [List.getD_eq_getElem?_getD,List.getD_eq_getElem?_getD,List.getElem?_append_left h]
theorem hsum_left {refs held:List Int} {r a c:Int} (hl:held.length=refs.length):∀ n,n≤refs.length→hsum (refs ++ [a]) (held ++ [c]) r n=hsum refs held r n
 | 0,_=>rfl
 | n+1,h=>by
  rw [hsum_succ,hsum_succ,hsum_left hl n (by omega),getD_left (by omega),getD_left (by omega)]
theorem hsum_snoc {refs held:List Int} {r a c:Int} (hl:held.length=refs.length):hsum (refs ++ [a]) (held ++ [c]) r (refs.length+1)=hsum refs held r refs.length+(if a=r then ps c else 0):=by
 have e1:(refs ++ [a]).getD refs.length 0=a:=by rw [List.getD_eq_getElem?_getD,List.getElem?_append_right (Nat.le_refl _)];simp
 have e2:(held ++ [c]).getD refs.length 0=c:=by rw [← hl,List.getD_eq_getElem?_getD,List.getElem?_append_right (Nat.le_refl _)];simp
 rw [hsum_succ,hsum_left hl _ (Nat.le_refl _),e1,e2]
structure XI (m:Nat) (x:RS):Prop where
 hl:x.held.length=x.refs.length
 rl:x.refs.length≤60
 rg:∀ r∈x.refs,0≤r∧r < 4294967296
 cb:∀ c∈x.held,0≤c∧c≤m
 hh:Held x
 tr:x.k.tr.length≤m
 tk:TrOk x.k
section
variable {m:Nat} {x:RS}
theorem xi_new (n c:Nat):XI 0 (freshR n c):=by
 refine ⟨rfl,show 2≤60 by decide,?_,?_,?_,Nat.le_refl _,fun l hl=>by cases hl⟩
 ·intro r hr
  simp only [freshR,List.mem_cons,List.not_mem_nil,or_false] at hr
  rcases hr with rfl | rfl <;> decide
 ·intro r hr
  simp only [freshR,List.mem_cons,List.not_mem_nil,or_false] at hr
  rcases hr with rfl | rfl <;> decide
 ·intro s _
  show hsum [0,1] [0,0] s 2=([]:List Int).getD s.toNat 0
  rw [hsum_succ,hsum_succ]
  show (0:Int)+(if (0:Int)=s then ps 0 else 0)+(if (1:Int)=s then ps 0 else 0)=_
  have:ps 0=0:=rfl
  rw [this]
  simp
theorem XI.more (h:XI m x):XI (m+1) x:=⟨h.hl,h.rl,h.rg,fun c hc=>by have:=h.cb c hc;omega,h.hh,by have:=h.tr;omega,h.tk⟩
theorem XI.at (h:XI m x) (i:Nat):0≤x.refs.getD i 0∧x.refs.getD i 0 < 4294967296:=by
 rw [List.getD_eq_getElem?_getD]
 cases hx:x.refs[i]? with
 | none=>exact ⟨by decide,by decide⟩
 | some y=>exact h.rg y (List.mem_of_getElem? hx)
theorem XI.cat (h:XI m x) (i:Nat):0≤x.held.getD i 0∧x.held.getD i 0≤m:=by
 rw [List.getD_eq_getElem?_getD]
 cases hx:x.held[i]? with
 | none=>exact ⟨by decide,by show (0:Int)≤m;omega⟩
 | some y=>exact h.cb y (List.mem_of_getElem? hx)
theorem tr_of {k k':KS} (hn:k'.n=k.n) (ht:TrOk k) (h:k'.tr=k.tr∨k'.tr=[]) (hl:k.tr.length≤m):k'.tr.length≤m+1∧TrOk k':=by
 rcases h with h | h
 ·refine ⟨by rw [h];omega,fun l hl=>?_⟩
  rw [h] at hl
  rw [hn]
  exact ht l hl
 ·refine ⟨by rw [h];exact Nat.zero_le _,fun l hl=>?_⟩
  rw [h] at hl
  cases hl
theorem xi_make (K:KI x.k) (h:XI m x) (v b c:Int):XI (m+1) (stepMk x v b c).1:=by
 unfold stepMk
 split
 ·rename_i hc
  have hb:=h.at b.toNat
  have hm:=fun s hs=>makeK_hs (s:=s) K ⟨v,x.refs.getD b.toNat 0,x.refs.getD c.toNat 0⟩ hb.1 hb.2 hs
  have hr:=(hm 2 (by decide)).2
  obtain ⟨t1,t2⟩:=tr_of (m:=m) (makeK_st x.k ⟨v,x.refs.getD b.toNat 0,x.refs.getD c.toNat 0⟩).1 h.tk (makeK_tr _) h.tr
  split
  ·rename_i hE
   refine ⟨by show (x.held ++ [1]).length=(x.refs ++ [_]).length;rw [List.length_append,List.length_append,h.hl];rfl,by show (x.refs ++ [_]).length≤60;rw [List.length_append];simp <;> omega,?_,?_,?_,t1,t2⟩
   ·intro r hr'
    rcases List.mem_append.1 hr' with hr' | hr'
    ·exact h.rg r hr'
    ·simp at hr'
     subst hr'
     exact hr
   ·intro d hd
    rcases List.mem_append.1 hd with hd | hd
    ·have:=h.cb d hd
     omega
    ·simp at hd
     subst hd
     omega
   ·intro s hs
    show hsum (x.refs ++ [_]) (x.held ++ [1]) s (x.refs ++ [_]).length=_
    rw [List.length_append,List.length_singleton,hsum_snoc h.hl,h.hh s hs]
    have h1:=(hm s hs).1
    show _=(makeK x.k ⟨v,x.refs.getD b.toNat 0,x.refs.getD c.toNat 0⟩).2.2.hs.getD s.toNat 0
    rw [h1]
    congr 1
    by_cases he:(makeK x.k ⟨v,x.refs.getD b.toNat 0,x.refs.getD c.toNat 0⟩).1=s
    ·rw [if_pos he,if_pos ⟨hE,he.symm⟩]
     rfl
    ·rw [if_neg he,if_neg (fun h=>he h.2.symm)]
  ·rename_i hE
   refine ⟨h.hl,h.rl,h.rg,fun d hd=>by have:=h.cb d hd;omega,?_,t1,t2⟩
   intro s hs
   show hsum x.refs x.held s x.refs.length=_
   rw [h.hh s hs]
   have h1:=(hm s hs).1
   rw [if_neg (fun h=>hE h.1)] at h1
   show _=(makeK x.k ⟨v,x.refs.getD b.toNat 0,x.refs.getD c.toNat 0⟩).2.2.hs.getD s.toNat 0
   omega
 ·exact h.more
theorem has_pos {i:Int} (hh:hasB x i=true):∃ j:Nat,i=j∧j < x.refs.length∧(2≤x.refs.getD j 0→0 < x.held.getD j 0):=by
 obtain ⟨j,rfl,hj⟩:=hasB_range hh
 refine ⟨j,rfl,hj,fun h2=>?_⟩
 unfold hasB at hh
 simp only [Bool.and_eq_true,Bool.or_eq_true,decide_eq_true_eq,Int.toNat_natCast] at hh
 rcases hh.2 with h | h
 ·exact h
 ·omega
theorem xi_keep (K:KI x.k) (h:XI m x) (i:Int):XI (m+1) (stepKp x i).1:=by
 unfold stepKp
 split
 ·rename_i hc
  obtain ⟨j,rfl,hj,hp⟩:=has_pos hc
  rw [Int.toNat_natCast]
  have hb:=h.at j
  have hcj:=h.cat j
  have hk:=fun s (hs:(2:Int)≤s)=>keepK_hs (k:=x.k) (r:=x.refs.getD j 0) (fun a b=>live_hs K a b) hb.1 hs
  obtain ⟨t1,t2⟩:=tr_of (m:=m) (keepK_st x.k (x.refs.getD j 0)).1 h.tk keepK_tr h.tr
  split
  ·rename_i hE
   refine ⟨by show (x.held.set j _).length=_;rw [List.length_set];exact h.hl,h.rl,h.rg,?_,?_,t1,t2⟩
   ·intro d hd
    rcases List.mem_or_eq_of_mem_set hd with hd | rfl
    ·have:=h.cb d hd
     omega
    ·omega
   ·intro s hs
    show hsum x.refs (x.held.set j _) s x.refs.length=(keepK x.k (x.refs.getD j 0)).2.hs.getD s.toNat 0
    rw [hsum_set (by rw [h.hl];exact hj),h.hh s hs,hk s hs]
    congr 1
    by_cases he:x.refs.getD j 0=s
    ·have:=hp (by omega)
     rw [if_pos ⟨hj,he⟩,if_pos ⟨hE,he.symm⟩]
     unfold ps
     rw [if_pos (by omega),if_pos this]
     omega
    ·rw [if_neg (fun h=>he h.2),if_neg (fun h=>he h.2.symm)]
  ·rename_i hE
   refine ⟨h.hl,h.rl,h.rg,fun d hd=>by have:=h.cb d hd;omega,?_,t1,t2⟩
   intro s hs
   show hsum x.refs x.held s x.refs.length=(keepK x.k (x.refs.getD j 0)).2.hs.getD s.toNat 0
   rw [h.hh s hs,hk s hs,if_neg (fun h=>hE h.1)]
   omega
 ·exact h.more
theorem xi_drop (h:XI m x) (i:Int):XI (m+1) (stepDr x i).1:=by
 unfold stepDr
 split
 ·rename_i hc
  obtain ⟨j,rfl,hj,_⟩:=has_pos hc.1
  have hp:=hc.2
  rw [Int.toNat_natCast] at hp ⊢
  have hb:=h.at j
  have hcj:=h.cat j
  have hk:=fun s (hs:(2:Int)≤s)=>dropK_hs (k:=x.k) (r:=x.refs.getD j 0) hb.1 hs
  obtain ⟨t1,t2⟩:=tr_of (m:=m) (dropK_st x.k (x.refs.getD j 0)).1 h.tk dropK_tr h.tr
  refine ⟨by show (x.held.set j _).length=_;rw [List.length_set];exact h.hl,h.rl,h.rg,?_,?_,t1,t2⟩
  ·intro d hd
   rcases List.mem_or_eq_of_mem_set hd with hd | rfl
   ·have:=h.cb d hd
    omega
   ·omega
  ·intro s hs
   show hsum x.refs (x.held.set j _) s x.refs.length=(dropK x.k (x.refs.getD j 0)).2.hs.getD s.toNat 0
   rw [hsum_set (by rw [h.hl];exact hj),h.hh s hs,hk s hs]
   by_cases he:x.refs.getD j 0=s
   ·have h2:=hsum_at (refs:=x.refs) (held:=x.held) hj he hp
    rw [h.hh s hs] at h2
    have hE:(dropK x.k (x.refs.getD j 0)).1=0:=by
     unfold dropK
     rw [if_pos (by omega),he,if_neg (by omega)]
    rw [if_pos ⟨hj,he⟩,if_pos ⟨hE,he.symm⟩]
    unfold ps
    rw [if_pos hp]
    split <;> omega
   ·rw [if_neg (fun h=>he h.2),if_neg (fun h=>he h.2.symm)]
    omega
 ·exact h.more
theorem xi_exch (K:KI x.k) (h:XI m x) (l:Int):XI (m+1) (stepEx x l).1:=by
 have hn:=(exchK_st x.k l).1
 refine ⟨h.hl,h.rl,h.rg,fun d hd=>by have:=h.cb d hd;omega,fun s hs=>?_,?_,?_⟩
 ·show hsum x.refs x.held s x.refs.length=(exchK x.k l).2.hs.getD s.toNat 0
  rw [exch_hs K,h.hh s hs]
 ·show (exchK x.k l).2.tr.length≤m+1
  have:=h.tr
  rcases exch_tr (k:=x.k) l with e | ⟨e,_⟩
  ·rw [e]
   omega
  ·rw [e,List.length_append,List.length_singleton]
   omega
 ·show TrOk (exchK x.k l).2
  intro z hz
  rw [hn]
  rcases exch_tr (k:=x.k) l with e | ⟨e,e1,e2⟩
  ·rw [e] at hz
   exact h.tk z hz
  ·rw [e] at hz
   rcases List.mem_append.1 hz with hz | hz
   ·exact h.tk z hz
   ·simp at hz
    subst hz
    exact ⟨e1,e2⟩
theorem xi_undo (K:KI x.k) (h:XI m x):XI (m+1) (stepUn x).1:=by
 have hn:=(undoK_st x.k).1
 refine ⟨h.hl,h.rl,h.rg,fun d hd=>by have:=h.cb d hd;omega,fun s hs=>?_,?_,?_⟩
 ·show hsum x.refs x.held s x.refs.length=(undoK x.k).2.2.hs.getD s.toNat 0
  rw [undo_hs K h.tk,h.hh s hs]
 ·show (undoK x.k).2.2.tr.length≤m+1
  have:=h.tr
  rcases undo_tr (k:=x.k) with e | e
  ·rw [e]
   omega
  ·rw [e,List.length_dropLast]
   omega
 ·show TrOk (undoK x.k).2.2
  intro z hz
  rw [hn]
  rcases undo_tr (k:=x.k) with e | e
  ·rw [e] at hz
   exact h.tk z hz
  ·rw [e] at hz
   exact h.tk z ((List.dropLast_sublist _).subset hz)
def stepR (x:RS) (o:Int × Int × Int × Int):RS × Int :=
 if o.1=1 then stepMk x o.2.1 o.2.2.1 o.2.2.2 else if o.1=2 then stepKp x o.2.1 else if o.1=3 then stepDr x o.2.1 else if o.1=4 then stepEx x o.2.1 else if o.1=5 then stepUn x else (x,0)
theorem xi_step (K:KI x.k) (h:XI m x) (o:Int × Int × Int × Int):XI (m+1) (stepR x o).1:=by
 unfold stepR
 split
 ·exact xi_make K h _ _ _
 ·split
  ·exact xi_keep K h _
  ·split
   ·exact xi_drop h _
   ·split
    ·exact xi_exch K h _
    ·split
     ·exact xi_undo K h
     ·exact h.more
end
section
variable {w w':World} {B:Nat→Prop} {xb m:Nat} {x:RS} {q:RA}
theorem step_any (hX:RW B w xb x q) (hB:∀ b,B b→b < w.heap.size) (h:XI m x) (hm:m≤10000000000000) (o:Int × Int × Int × Int) :
  Calls Tryz.prog 41 #[.pointer (some ⟨xb,0,none⟩),.agg #[.int .i64 o.1,.int .i64 o.2.1,.int .i64 o.2.2.1,.int .i64 o.2.2.2]] w (StepTo B w xb (stepR x o)):=by
 obtain ⟨kd,a,b,c⟩:=o
 have hcb:∀ c∈x.held,0≤c∧c≤1000000000000000:=fun c hc=>by have:=h.cb c hc;omega
 have htr:=h.tr
 unfold stepR
 simp only
 by_cases h1:kd=1
 ·rw [if_pos h1,h1]
  exact step_make hX hB h.hl h.rg a b c (by have:=h.rl;omega)
 ·rw [if_neg h1]
  by_cases h2:kd=2
  ·rw [if_pos h2,h2]
   exact step_keep hX hB h.hl h.rg hcb a b c
  ·rw [if_neg h2]
   by_cases h3:kd=3
   ·rw [if_pos h3,h3]
    exact step_drop hX hB h.hl h.rg hcb a b c
   ·rw [if_neg h3]
    by_cases h4:kd=4
    ·rw [if_pos h4,h4]
     exact step_exch hX hB h.hl (by omega) a b c
    ·rw [if_neg h4]
     by_cases h5:kd=5
     ·rw [if_pos h5,h5]
      exact step_undo hX hB h.hl h.tk (by omega) a b c
     ·rw [if_neg h5]
      by_cases h6:kd=6
      ·rw [h6]
       exact step_coll hX hB h.hl a b c
      ·exact step_none hX hB h.hl kd a b c h1 h2 h3 h4 h5 h6
end
end Go.Proofs.YtiomgckodmecbaaGreat
