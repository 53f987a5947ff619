/- Contracts and plain laws, put together in one file. No condition. -/
import Derived.Test.YtiomgckodmecbaaGreatJ3
import Derived.Test.YtiomgckodmecbaaGreatProg
import Derived.Laws.BitsAllLaws
import Derived.BigRegion
import Derived.Shelf.Abstract

set_option maxRecDepth 100000
set_option maxHeartbeats 32000000
namespace Go.Proofs.YtiomgckodmecbaaGreat
open Go.RowKit Go.Tk
theorem pow_int (n:Nat):(2:Int) ^ n=((2 ^ n:Nat):Int):=by simp
def ucell (x:Nat):List Value:=[.int .u64 (x:Int)]
theorem ucell_len (x:Nat):(ucell x).length=1:=rfl
abbrev WL (w:World) (A:Option Addr) (n:Nat) (ws:List Nat):Prop:=Sl w 1 ucell A n ws
abbrev OwnW (w:World) (A:Option Addr) (n C:Nat) (ws:List Nat):Prop:=Own w 123 1 ucell A n C ws
theorem WL.at1 {w:World} {A:Option Addr} {n:Nat} {ws:List Nat} (h:WL w A n ws) {i:Nat} {x:Nat} (hi:ws[i]?=some x):∃ b off,A=some ⟨b,off,none⟩∧b < w.heap.size∧w.cell? ⟨b,off+i,none⟩=some (.int .u64 x):=by
 obtain ⟨b,off,h1,h2,h3⟩:=h.get i x hi
 refine ⟨b,off,h1,h2,?_⟩
 have:=h3 0 (by omega)
 simpa [ucell] using this
def Small (ws:List Nat):Prop:=∀ x∈ws,x < 18446744073709551616
theorem Small.at1 {ws:List Nat} (h:Small ws) {i x:Nat} (hi:ws[i]?=some x):x < 18446744073709551616:=h x (List.mem_of_getElem? hi)
def frm (N:Int) (ws:List Nat):Bool:=decide (0≤N∧N≤16∧ws.length=nw N.toNat) && (decide (6≤N) || decide (ws.getD 0 0 < 2 ^ 2 ^ N.toNat))
structure Tb where
 N:Int
 A:Option Addr
 C:Nat
 ws:List Nat
def Tb.val (t:Tb):Value:=.agg #[.int .i64 t.N,.slice t.A t.ws.length t.C]
def Tb.frm (t:Tb):Bool:=Proofs.YtiomgckodmecbaaGreat.frm t.N t.ws
structure TbOk (w:World) (t:Tb):Prop where
 wl:WL w t.A t.ws.length t.ws
 small:Small t.ws
theorem TbOk.same {w w':World} {t:Tb} (h:TbOk w t) (hs:Same w w'):TbOk w' t:=⟨Sl.same h.wl hs,h.small⟩
def fm (ts:List Tb):Bool:=ts.all fun t=>t.frm && (t.N == (ts.getD 0 ⟨0,none,0,[]⟩).N)
def NewT (w:World) (ws:List Nat) (A:Option Addr) (C:Nat) (w':World):Prop:=OwnW w' A ws.length C ws∧Fresh w.heap.size A∧Same w w'
def RetT (w:World) (N:Int) (ws:List Nat) (e:Ending) (w':World):Prop:=∃ A C,e=.returned (.agg #[.int .i64 N,.slice A ws.length C])∧NewT w ws A C w'
theorem NewT.wl {w w':World} {ws:List Nat} {A:Option Addr} {C:Nat} (h:NewT w ws A C w'):WL w' A ws.length ws:=h.1.sl ucell_len
theorem info_u64:(Tryz.prog.info? 123).map (fun i=>(i.zero,i.size,i.bytes))=some (some (.int .u64 0),1,8):=by kernel_rfl
theorem testBit_dm (x k:Nat):x.testBit k=decide (x / 2 ^ k % 2=1):=by
 rw [Nat.testBit_eq_decide_div_mod_eq]
theorem laid_tab {n:Nat} {g:Nat→Nat} {F:Nat→Bool} (h:∀ k,k < nw n→∀ j,j < 64→64 * k+j < 2 ^ n→(g k).testBit j=F (64 * k+j)):((List.range (nw n)).map fun i=>g i &&& fullN n)=tab n F:=by
 unfold tab
 apply List.map_congr_left
 intro k hk
 exact word_laid (List.mem_range.1 hk) (h k (List.mem_range.1 hk))
def ansN (n:Int) (e:Int):Int:=if e=0 then n else 0
def ansL (ws:List Nat) (e:Int):List Nat:=if e=0 then ws else []
theorem vb_word {ws:List Nat} {k x j:Nat} (h:ws[k]?=some x) (hj:j < 64):vb ws (64 * k+j)=x.testBit j:=by
 unfold vb
 rw [show (64 * k+j) / 64=k by omega,show (64 * k+j) % 64=j by omega,List.getD_eq_getElem?_getD,h]
 rfl
theorem getD_of {ws:List Nat} {k x:Nat} (h:ws[k]?=some x):ws.getD k 0=x:=by rw [List.getD_eq_getElem?_getD,h];rfl
def hfF (v:Nat) (b:Bool) (ws:List Nat):Nat→Bool:=fun i=>vb ws (wth i v b)
theorem Small.getD {ws:List Nat} (h:Small ws) (i:Nat):ws.getD i 0 < 18446744073709551616:=by
 rw [List.getD_eq_getElem?_getD]
 cases hx:ws[i]? with
 | none=>simp
 | some x=>exact h.at1 hx
theorem halfW_lt {v x:Nat} {b:Bool} (hx:x < 18446744073709551616):halfW v b x < 18446744073709551616:=by
 unfold halfW
 have h1:x &&& bsum (fun j=>j.testBit v) 64 < 2 ^ 64:=Nat.lt_of_le_of_lt Nat.and_le_left hx
 have h2:x &&& (18446744073709551615 - bsum (fun j=>j.testBit v) 64) < 2 ^ 64:=Nat.lt_of_le_of_lt Nat.and_le_left hx
 split
 ·exact Nat.or_lt_two_pow (n:=64) h1 (Nat.lt_of_le_of_lt (Nat.div_le_self _ _) h1)
 ·exact Nat.or_lt_two_pow (n:=64) h2 (Nat.mod_lt _ (by decide))
theorem halfN_lt {v i:Nat} {b:Bool} {ws:List Nat} (h:Small ws):halfN v b ws i < 18446744073709551616:=by
 unfold halfN
 split
 ·exact h.getD _
 ·exact halfW_lt (h.getD _)
theorem halfN_bit {n v k j:Nat} {b:Bool} {ws:List Nat} (hf:FormN n ws) (hk:k < nw n) (hv:v < n) (hj:j < 64):(halfN v b ws k).testBit j=hfF v b ws (64 * k+j):=by
 unfold halfN hfF
 by_cases h6:6≤v
 ·rw [if_pos h6,wth_high b hj h6]
  have h0:nw n=2 ^ (n - 6):=by unfold nw;rw [if_neg (by omega)]
  have hil:wth k (v - 6) b < ws.length:=by
   rw [hf.len,h0]
   rw [h0] at hk
   exact wth_lt hk (by omega)
  rw [getD_of (List.getElem?_eq_getElem hil),vb_word (List.getElem?_eq_getElem hil) hj]
 ·have hkl:k < ws.length:=by rw [hf.len];exact hk
  rw [if_neg h6,wth_low b hj (by omega),getD_of (List.getElem?_eq_getElem hkl),halfW_bit b (by omega) hj,vb_word (List.getElem?_eq_getElem hkl) (wth_lt (n:=6) hj (by omega))]
end Go.Proofs.YtiomgckodmecbaaGreat
namespace Go.Tk
def vals (M:Nat) (F:Nat→Bool):List Bool:=(List.range M).map F
theorem vals_get {M i:Nat} {F:Nat→Bool} (h:i < M):(vals M F)[i]?=some (F i):=by simp [vals,h]
end Go.Tk
namespace Go.Proofs.YtiomgckodmecbaaGreat
open Go.RowKit Go.Tk
abbrev OwnB (w:World) (A:Option Addr) (N C:Nat) (bs:List Bool):Prop:=Row1 w 4 (fun b:Bool=>.bool b) A N C bs
abbrev BL (w:World) (A:Option Addr) (n:Nat) (bs:List Bool):Prop:=Sl w 1 (fun b:Bool=>[.bool b]) A n bs
theorem BL.at1 {w:World} {A:Option Addr} {n:Nat} {bs:List Bool} (h:BL w A n bs) {i:Nat} {x:Bool} (hi:bs[i]?=some x):∃ b off,A=some ⟨b,off,none⟩∧b < w.heap.size∧w.cell? ⟨b,off+i,none⟩=some (.bool x):=by
 obtain ⟨b,off,h1,h2,h3⟩:=h.get i x hi
 refine ⟨b,off,h1,h2,?_⟩
 have:=h3 0 (by omega)
 simpa using this
theorem info_bool:(Tryz.prog.info? 4).map (fun i=>(i.zero,i.size,i.bytes))=some (some (.bool false),1,1):=by kernel_rfl
theorem bit_val (x r:Nat):(((x / 2 ^ r % 2:Nat):Int) == 1)=x.testBit r:=by
 rw [testBit_dm,Bool.eq_iff_iff,beq_iff_eq,decide_eq_true_eq]
 omega
theorem swords_any (n:Nat) (w:World) (h:n≤16):Calls Tryz.prog 123 #[.int .i64 n] w fun e w'=>e=.returned (.int .i64 (nw n:Nat))∧w=w':=by
 by_cases h6:n≤6
 ·have hn:nw n=1:=by unfold nw;rw [if_pos h6]
  rw [hn]
  have h6i:(n:Int)≤6:=by omega
  clear hn
  go_enter Tryz.func123,Tryz.ntmps123
  go_wp2
  go_ret
  exact ⟨rfl,rfl⟩
 ·obtain ⟨m,rfl⟩:∃ m,n=m+6:=⟨n - 6,by omega⟩
  have hn:nw (m+6)=2 ^ m:=by unfold nw;rw [if_neg h6,Nat.add_sub_cancel]
  have hp:(2:Nat) ^ m≤2 ^ 16:=Nat.pow_le_pow_right (by omega) (by omega)
  have h2:(2:Int) ^ m=((2 ^ m:Nat):Int):=by rw [Int.natCast_pow];rfl
  have hw:IntKind.i64.wrap ((2:Int) ^ m)=((2 ^ m:Nat):Int):=by
   rw [h2]
   generalize 2 ^ m=z at *
   exact IntWalk.i64_in _ (by omega)
  have hw1:IntKind.i64.wrap (((m+6:Nat):Int) - 6)=(m:Int):=by
   rw [show ((m+6:Nat):Int) - 6=(m:Int) by omega]
   exact IntWalk.i64_in _ (by omega)
  rw [hn]
  have h6i:¬ ((m+6:Nat):Int)≤6:=by omega
  have h60:(0:Int)≤m:=by omega
  obtain ⟨z,hz⟩:∃ z:Nat,z=2 ^ m:=⟨_,rfl⟩
  rw [← hz] at hw ⊢
  have hm64:min m 64=m:=by omega
  have hw2:wrap64 ((2:Int) ^ m)=(z:Int):=by rw [← hw];simp [IntKind.wrap_i64,wrap64]
  clear hn h2 hp hz
  obtain ⟨y,hy⟩:∃ y:Nat,y=m+6:=⟨_,rfl⟩
  rw [← hy] at hw1 h6i ⊢
  clear hy h6 h
  go_enter Tryz.func123,Tryz.ntmps123
  go_wp2
  go_ret
  exact ⟨rfl,rfl⟩
theorem fill_any (n C:Nat) (A:Option Addr) (F:Nat→Bool) (w:World) (hn:n≤16) (h:BL w A (2 ^ n) (vals (2 ^ n) F)) :
  Calls Tryz.prog 101 #[.int .i64 n,.slice A (2 ^ n) C] w (RetT w n (tab n F)):=by
 have hmk:=fun w=>run_make_n (P:=Tryz.prog) Tryz.underlying74 info_u64 .i64 .i64 (nw n) (show 8 * nw n≤281474976710656 by have:=nw_le hn;omega) (show nw n≤9223372036854775807 by have:=nw_le hn;omega) w
 have hnl:=nw_le hn
 have hwd:=fun w=>swords_any n w hn
 have hp16:=pow_le16 hn
 have hfull:=part_full n F
 have hdl:∀ i,i < 2 ^ n→i / 64 < nw n:=fun i hi=>div_lt_nw hi
 have hput:∀ k,k < 2 ^ n→F k=true→∃ x,(Tk.part n F k)[k / 64]?=some x∧x+2 ^ (k % 64) < 18446744073709551616∧(Tk.part n F k).set (k / 64) (x+2 ^ (k % 64))=Tk.part n F (k+1):=fun k hk hF =>
  ⟨_,part_get (div_lt_nw hk),by rw [word_put hk hF];exact word_lt _ _ _,part_put hk hF⟩
 have hsame:∀ k,F k=false→Tk.part n F (k+1)=Tk.part n F k:=fun k hF=>part_same hF
 have hz:=part_zero n F
 have hll:=part_len n F
 obtain ⟨W,hW⟩:∃ W,tab n F=W:=⟨_,rfl⟩
 rw [hW] at hfull ⊢
 have hWl:W.length=nw n:=by rw [← hW];exact tab_len n F
 obtain ⟨K,hK⟩:∃ K,nw n=K:=⟨_,rfl⟩
 rw [hK] at hmk hnl hwd hdl hz hll hWl
 obtain ⟨M,hM⟩:∃ M,2 ^ n=M:=⟨_,rfl⟩
 rw [hM] at hp16 hfull hdl hput h ⊢
 have HFULL:=Lib.hid hfull
 have HDL:=Lib.hid hdl
 have HPUT:=Lib.hid hput
 have HSAME:=Lib.hid hsame
 have HZ:=Lib.hid hz
 have HLL:=Lib.hid hll
 have HWL:=Lib.hid hWl
 have HWD:=Lib.hid hwd
 have H:=Lib.hid h
 clear hM hK hW hfull hdl hput hsame hz hll hWl hwd h
 go_enter Tryz.func101,Tryz.ntmps101
 go_wp2_with (fail)
 refine call_world fun w1 hw1=>?_
 refine (HWD.out w1).mono ?_
 rintro e w2 ⟨rfl,rfl⟩
 go_upto_region 2 with fail
 refine wp_world fun wb hwb=>?_
 subst hw1
 have hsb:Same w wb:=by rw [hwb];exact (((Frm.refl _ _).alloc _).alloc _).alloc _
 have hBR:Blk wb w.heap.size 108 #[.int .i64 0,.slice none 0 0]:=by rw [hwb];exact ((Blk.new w _ _).alloc _).alloc _
 have hBT:Blk wb (w.heap.size+1+1) 108 #[.int .i64 n,.slice (some ⟨w.heap.size+1,0,none⟩) K K]:=by
  rw [hwb]
  have:=Blk.new ((w.alloc (.cells #[.int .i64 0,.slice none 0 0] 108)).alloc (.cells (madeCells #[.int .u64 0] K) 123)) 108 #[.int .i64 n,.slice (some ⟨w.heap.size+1,0,none⟩) K K]
  simpa using this
 have hOD:OwnW wb (some ⟨w.heap.size+1,0,none⟩) K K (Tk.part n F 0):=by
  rw [hwb,HZ.out]
  have:=Own.ofMade (m:=1) (w.alloc (.cells #[.int .i64 0,.slice none 0 0] 108)) 123 ucell (fun _=>rfl) (by decide) 0 K (show K≤9223372036854775807 by omega) rfl
  have h2:=Own.frm this ((Frm.refl (fun _=>False) _).alloc (.cells #[.int .i64 n,.slice (some ⟨w.heap.size+1,0,none⟩) K K] 108)) (fun _ _=>id)
  simpa [ucell] using h2
 clear hwb hmk
 obtain ⟨T,hT⟩:∃ T,w.heap.size+1+1=T:=⟨_,rfl⟩
 rw [hT] at hBT ⊢
 obtain ⟨D,hD⟩:∃ D,w.heap.size+1=D:=⟨_,rfl⟩
 rw [hD] at hBT hOD ⊢
 have hnDT:D≠T:=by omega
 have hnRT:w.heap.size≠T:=by omega
 have hnRD:w.heap.size≠D:=by omega
 have hwD:w.heap.size≤D:=by omega
 have hwT:w.heap.size≤T:=by omega
 clear hD hT
 have HBR:=Lib.hid hBR
 have HBT:=Lib.hid hBT
 have HOD:=Lib.hid hOD
 have HSB:=Lib.hid hsb
 clear hBR hBT hOD hsb
 go_wp2
 go_loopw [6] (fun i wr=>∃ k:Nat,k≤M∧i=.int .i64 k∧Same w wr∧Blk wr w.heap.size 108 #[.int .i64 0,.slice none 0 0]∧Blk wr T 108 #[.int .i64 n,.slice (some ⟨D,0,none⟩) K K]∧OwnW wr (some ⟨D,0,none⟩) K K (Tk.part n F k)) (fun i _=>M - (intOf i).toNat)
 case atStart=>exact ⟨0,by omega,rfl,HSB.out,HBR.out,HBT.out,HOD.out⟩
 case round =>
  clear HBR HBT HOD HSB
  obtain ⟨k,hk,rfl,hs,hBR,hBT,hOD⟩:=hrel
  by_cases hlt:k < M
  ·have hk1:(k:Int) < M:=by omega
   have hk0:(0:Int)≤k:=by omega
   obtain ⟨v,hv⟩:∃ v,F k=v:=⟨_,rfl⟩
   obtain ⟨bq,offq,hA,hbl,hcq⟩:=BL.at1 (Sl.same H.out hs) (show (vals M F)[k]?=some v by rw [vals_get hlt,hv])
   subst hA
   cases v with
   | true =>
    obtain ⟨x,hx,hxl,hxs⟩:=HPUT.out k hlt hv
    have hdk:=HDL.out k hlt
    have hst:=fun (w':World) (hs':Same wr w')=>Own.put1 (c:=fun x:Nat=>.int .u64 (x:Int)) (Own.frm hOD hs' (fun _ _=>id)) (i:=k / 64) (by rw [HLL.out];exact hdk) (x+2 ^ (k % 64))
    rw [hxs] at hst
    obtain ⟨sb,hsb,hDl,hcD⟩:=hOD.at1 (c:=fun x:Nat=>.int .u64 (x:Int)) hx
    injection hsb with hsb
    injection hsb with hsb
    subst hsb
    have hm64:min (k % 64) 64=k % 64:=by omega
    have hkk:k % 64 < 64:=by omega
    have hn1:(k:Int) / 64=((k / 64:Nat):Int):=by omega
    have hn2:(k:Int) % 64=((k % 64:Nat):Int):=by omega
    have h2p:(2:Int) ^ (k % 64)=((2 ^ (k % 64):Nat):Int):=pow_int _
    have HS:=Lib.hid hs
    have HBRw:=Lib.hid hBR
    have HBTw:=Lib.hid hBT
    have HOD:=Lib.hid hOD
    have HST:=Lib.hid hst
    have hcT:wr.cell? ⟨T,1,none⟩=some (.slice (some ⟨D,0,none⟩) K K):=hBT.cell 1
    have hTl:=hBT.lt
    clear hs hBR hBT hOD hst hx hxs hv
    generalize k % 64=r at *
    generalize k / 64=qq at *
    generalize 2 ^ r=p at *
    have hsw:wrap64 ((2:Int) ^ r)=wrap64 (p:Int):=by rw [h2p]
    have hsw2:IntKind.u64.wrap ((2:Int) ^ r)=(p:Int):=by rw [h2p];exact IntWalk.u64_in _ (by omega)
    have hsum:IntKind.u64.wrap ((x:Int)+p)=((x+p:Nat):Int):=by rw [IntWalk.u64_in _ (by omega)];simp
    have hqk:(qq:Int) < K:=by omega
    have hq0:(0:Int)≤qq:=by omega
    clear h2p
    go_upto_region 6 with fail
    refine wp_quiet_tail 11 (by kernel_rfl) (by kernel_rfl) ?_
    simp only [List.take_succ_cons,List.take_zero,List.drop_succ_cons,List.drop_zero]
    repeat (any_goals (first | go_big_quiet_step (fail) | quiet_step (fail)))
    refine wpQuiet_nil ?_
    rintro wz ⟨q,hq⟩
    have hsz:Same wr wz:=by rw [hq];exact more_same _ q
    have hfz:=Own.free (Own.frm HOD.out hsz (fun _ _=>id)) qq
    have hcz:=(hsz.cell (p:=⟨D,qq,none⟩) hDl id).trans hcD
    have HSZ:=Lib.hid ((HS.out.trans hsz (fun _ _ h=>h)).setNew (g:=D) qq (.int .u64 ((x+p:Nat):Int)) hwD)
    have HBRz:=Lib.hid ((HBRw.out.frm hsz id).far (p:=⟨D,qq,none⟩) hnRD (.int .u64 ((x+p:Nat):Int)))
    have HBTz:=Lib.hid ((HBTw.out.frm hsz id).far (p:=⟨D,qq,none⟩) (Ne.symm hnDT) (.int .u64 ((x+p:Nat):Int)))
    have HOZ:=Lib.hid (HST.out wz hsz)
    have hDz:D < wz.heap.size:=by have:=hsz.size;omega
    clear hq hsz hcD hDl hcT hTl hcq hbl hm64 hn1 hn2 hsw hsw2
    go_wp2
    go_roundw
    case rel=>exact ⟨k+1,by omega,by go_num,HSZ.out,HBRz.out,HBTz.out,HOZ.out⟩
    case measure=>simp [intOf] <;> omega
   | false =>
    have hsm:=HSAME.out k hv
    have HS:=Lib.hid hs
    have HBRw:=Lib.hid hBR
    have HBTw:=Lib.hid hBT
    rw [← hsm] at hOD
    have HOD:=Lib.hid hOD
    clear hs hBR hBT hOD hv hsm
    go_wp2
    go_roundw
    case rel=>exact ⟨k+1,by omega,by go_num,HS.out,HBRw.out,HBTw.out,HOD.out⟩
    case measure=>simp [intOf] <;> omega
  ·obtain rfl:k=M:=by omega
   rw [HFULL.out] at hOD
   have HS:=Lib.hid hs
   have HBR:=Lib.hid hBR
   have HBT:=Lib.hid hBT
   have HOD:=Lib.hid hOD
   have hcT0:wr.cell? ⟨T,0,none⟩=some (.int .i64 n):=hBT.cell 0
   have hcT:wr.cell? ⟨T,1,none⟩=some (.slice (some ⟨D,0,none⟩) K K):=hBT.cell 1
   have hTl:=hBT.lt
   have hRl:=hBR.lt
   have hfR0:=hBR.free 0
   have hfR1:=hBR.free 1
   have hcR0:wr.cell? ⟨w.heap.size,0,none⟩=some (.int .i64 0):=hBR.cell 0
   have hcR1:wr.cell? ⟨w.heap.size,1,none⟩=some (.slice none 0 0):=hBR.cell 1
   clear hs hBR hBT hOD
   go_wp2
   refine wp_post fun we hwe=>?_
   have hBE:Blk we w.heap.size 108 #[.int .i64 n,.slice (some ⟨D,0,none⟩) K K]:=by
    rw [hwe]
    have:=(HBR.out.set 0 (.int .i64 n)).set 1 (.slice (some ⟨D,0,none⟩) K K)
    simpa using this
   have hOE:OwnW we (some ⟨D,0,none⟩) K K W:=by
    rw [hwe]
    exact (Own.far (p:=⟨w.heap.size,0,none⟩) HOD.out (fun a ha h=>by injection ha with ha;subst ha;exact hnRD h.symm) _).far (p:=⟨w.heap.size,1,none⟩) (fun a ha h=>by injection ha with ha;subst ha;exact hnRD h.symm) _
   have hSE:Same w we:=by rw [hwe];exact (HS.out.setNew 0 _ (Nat.le_refl _)).setNew 1 _ (Nat.le_refl _)
   have hc0:we.cell? ⟨w.heap.size,0,none⟩=some (.int .i64 n):=hBE.cell 0
   have hc1:we.cell? ⟨w.heap.size,1,none⟩=some (.slice (some ⟨D,0,none⟩) K K):=hBE.cell 1
   clear hwe hBE
   refine bodyPost_ret (v:=.agg #[.int .i64 n,.slice (some ⟨D,0,none⟩) K K]) (by simp [results,Tryz.results101,go_sem,hc0,hc1]) rfl ?_
   refine ⟨some ⟨D,0,none⟩,K,by rw [HWL.out],?_,fresh_some hwD,hSE⟩
   rw [HWL.out]
   exact hOE
def sm (Na Nb:Int) (wsa wsb:List Nat):Bool:=decide (Na=Nb∧wsa=wsb)
theorem tsame_any (Na:Int) (Aa:Option Addr) (La Ca:Nat) (wsa:List Nat) (Nb:Int) (Ab:Option Addr) (Lb Cb:Nat) (wsb:List Nat) (w:World) (ha:WL w Aa La wsa) (hb:WL w Ab Lb wsb) (hbd:La≤1000000000000000000) :
  Calls Tryz.prog 71 #[.agg #[.int .i64 Na,.slice Aa La Ca],.agg #[.int .i64 Nb,.slice Ab Lb Cb]] w fun e w'=>e=.returned (.bool (sm Na Nb wsa wsb))∧Same w w':=by
 have hla:=ha.len
 have hlb:=hb.len
 obtain ⟨r,hr⟩:∃ r,sm Na Nb wsa wsb=r:=⟨_,rfl⟩
 rw [hr]
 have HA:=Lib.hid ha
 have HB:=Lib.hid hb
 by_cases h1:Na=Nb
 ·by_cases h2:La=Lb
  ·subst h1 h2
   have HR:=Lib.hid hr
   have HLA:=Lib.hid hla
   have HLB:=Lib.hid hlb
   clear hr hla hlb ha hb
   go_enter Tryz.func71,Tryz.ntmps71
   go_upto_region 1 with fail
   refine wp_world fun w1 hw1=>?_
   have hs1:Same w w1:=by rw [hw1];exact ((Frm.refl _ _).alloc _).alloc _
   have hBXa:Blk w1 (w.heap.size) 108 #[.int .i64 Na,.slice Aa La Ca]:=by
    rw [hw1]
    have:=((Blk.new w 108 #[.int .i64 Na,.slice Aa La Ca]).alloc (.cells #[.int .i64 Na,.slice Ab La Cb] 108))
    simpa using this
   have hBXb:Blk w1 (w.heap.size+1) 108 #[.int .i64 Na,.slice Ab La Cb]:=by
    rw [hw1]
    have:=(Blk.new (w.alloc (.cells #[.int .i64 Na,.slice Aa La Ca] 108)) 108 #[.int .i64 Na,.slice Ab La Cb])
    simpa using this
   clear hw1
   obtain ⟨Xb,hXb⟩:∃ b,w.heap.size+1=b:=⟨_,rfl⟩
   rw [hXb] at hBXb ⊢
   have leXb:w.heap.size≤Xb:=by omega
   have neXaXb:w.heap.size≠Xb:=by omega
   clear hXb
   have cXa0:w1.cell? ⟨w.heap.size,0,none⟩=some (.int .i64 Na):=hBXa.cell 0
   have cXa1:w1.cell? ⟨w.heap.size,1,none⟩=some (.slice Aa La Ca):=hBXa.cell 1
   have lXa:=hBXa.lt
   have fXa0:=hBXa.free 0
   have fXa1:=hBXa.free 1
   have HBXa:=Lib.hid hBXa
   have cXb0:w1.cell? ⟨Xb,0,none⟩=some (.int .i64 Na):=hBXb.cell 0
   have cXb1:w1.cell? ⟨Xb,1,none⟩=some (.slice Ab La Cb):=hBXb.cell 1
   have lXb:=hBXb.lt
   have fXb0:=hBXb.free 0
   have fXb1:=hBXb.free 1
   have HBXb:=Lib.hid hBXb
   have HS1:=Lib.hid hs1
   clear hs1 hBXa hBXb
   have HS:=Lib.hid HS1.out
   have HBa:=Lib.hid HBXa.out
   have HBb:=Lib.hid HBXb.out
   go_wp2
   go_loopw [5] (fun i wr=>∃ k:Nat,k≤La∧i=.int .i64 k∧(∀ j x y,wsa[j]?=some x→wsb[j]?=some y→j < k→x=y)∧Same w1 wr) (fun i _=>La - (intOf i).toNat)
   case atStart=>exact ⟨0,by omega,rfl,fun j x y _ _ h=>by omega,Frm.refl _ _⟩
   case round =>
    obtain ⟨k,hk,rfl,hall,hs⟩:=hrel
    have HALL:=Lib.hid hall
    have HSR:=Lib.hid hs
    clear hall
    by_cases hlt:k < La
    ·have hk0:(0:Int)≤k:=by omega
     have hk1:(k:Int) < La:=by omega
     obtain ⟨x,hx⟩:∃ x,wsa[k]?=some x:=⟨_,List.getElem?_eq_getElem (by rw [← HLA.out];exact hlt)⟩
     obtain ⟨y,hy⟩:∃ x,wsb[k]?=some x:=⟨_,List.getElem?_eq_getElem (by rw [← HLB.out];exact hlt)⟩
     obtain ⟨ba,offa,hAa,hbla,hca⟩:=WL.at1 (Sl.same (Sl.same HA.out HS.out) hs) hx
     obtain ⟨bb,offb,hAb,hblb,hcb⟩:=WL.at1 (Sl.same (Sl.same HB.out HS.out) hs) hy
     subst hAa hAb
     have HX:=Lib.hid hx
     have HY:=Lib.hid hy
     have dXa1:wr.cell? ⟨w.heap.size,1,none⟩=some (.slice (some ⟨ba,offa,none⟩) La Ca):=(HBa.out.frm hs id).cell 1
     have dXb1:wr.cell? ⟨Xb,1,none⟩=some (.slice (some ⟨bb,offb,none⟩) La Cb):=(HBb.out.frm hs id).cell 1
     have mXa:=(HBa.out.frm hs id).lt
     have mXb:=(HBb.out.frm hs id).lt
     clear hx hy hs cXa1 cXb1 lXa lXb
     by_cases hxy:x=y
     ·subst hxy
      have hbq:((x:Int) != (x:Int))=false:=by simp
      go_upto_region 6 with fail
      refine wp_quiet (by kernel_rfl) (by kernel_rfl) ?_
      repeat (any_goals (first | go_big_quiet_step (fail) | quiet_step (fail)))
      refine wpQuiet_nil ?_
      rintro wq ⟨q,hq⟩
      have hsq:Same wr wq:=by rw [hq];exact more_same _ q
      clear hq
      go_wp2
      go_roundw
      case rel=>exact ⟨k+1,by omega,by go_num,fun j x' y' hx' hy' hj=>by
       by_cases hjk:j < k
       ·exact HALL.out j x' y' hx' hy' hjk
       ·obtain rfl:j=k:=by omega
        exact (Option.some.inj (hx'.symm.trans HX.out)).trans (Option.some.inj (hy'.symm.trans HY.out)).symm,HSR.out.trans hsq (fun _ _ h=>h)⟩
      case measure=>simp [intOf] <;> omega
     ·have hf:r=false:=by
       rw [← HR.out]
       unfold sm
       rw [decide_eq_false_iff_not]
       rintro ⟨_,hw⟩
       rw [hw] at HX
       exact hxy (Option.some.inj (HX.out.symm.trans HY.out))
      subst hf
      have hxi:(x:Int)≠y:=by omega
      go_upto_region 6 with fail
      refine wp_quiet (by kernel_rfl) (by kernel_rfl) ?_
      repeat (any_goals (first | go_big_quiet_step (fail) | quiet_step (fail)))
      refine wpQuiet_nil ?_
      rintro wq ⟨q,hq⟩
      have hsq:Same wr wq:=by rw [hq];exact more_same _ q
      clear hq
      go_wp2
      go_ret
      exact ⟨rfl,(HS.out.trans HSR.out (fun _ _ h=>h)).trans hsq (fun _ _ h=>h)⟩
    ·obtain rfl:k=La:=by omega
     have hf:r=true:=by
      rw [← HR.out]
      unfold sm
      rw [decide_eq_true_eq]
      refine ⟨rfl,List.ext_getElem? fun j=>?_⟩
      by_cases hj:j < k
      ·obtain ⟨x,hx⟩:∃ x,wsa[j]?=some x:=⟨_,List.getElem?_eq_getElem (by rw [← HLA.out];exact hj)⟩
       obtain ⟨y,hy⟩:∃ x,wsb[j]?=some x:=⟨_,List.getElem?_eq_getElem (by rw [← HLB.out];exact hj)⟩
       rw [hx,hy,HALL.out j x y hx hy hj]
      ·rw [List.getElem?_eq_none (by rw [← HLA.out];omega),List.getElem?_eq_none (by rw [← HLB.out];omega)]
     subst hf
     have dXa1:wr.cell? ⟨w.heap.size,1,none⟩=some (.slice Aa k Ca):=(HBa.out.frm hs id).cell 1
     have mXa:=(HBa.out.frm hs id).lt
     clear hs cXa1 cXb1 lXa lXb
     go_wp2
     go_ret
     exact ⟨rfl,HS.out.trans HSR.out (fun _ _ h=>h)⟩
  ·have hf:r=false:=by
    rw [← hr]
    unfold sm
    rw [decide_eq_false_iff_not]
    rintro ⟨_,hw⟩
    rw [hw] at hla
    omega
   subst h1 hf
   have h3:(La:Int)≠Lb:=by omega
   clear hr hla hlb ha hb
   go_enter Tryz.func71,Tryz.ntmps71
   go_upto_region 1 with fail
   refine wp_world fun w1 hw1=>?_
   have hs1:Same w w1:=by rw [hw1];exact ((Frm.refl _ _).alloc _).alloc _
   have hBXa:Blk w1 (w.heap.size) 108 #[.int .i64 Na,.slice Aa La Ca]:=by
    rw [hw1]
    have:=((Blk.new w 108 #[.int .i64 Na,.slice Aa La Ca]).alloc (.cells #[.int .i64 Na,.slice Ab Lb Cb] 108))
    simpa using this
   have hBXb:Blk w1 (w.heap.size+1) 108 #[.int .i64 Na,.slice Ab Lb Cb]:=by
    rw [hw1]
    have:=(Blk.new (w.alloc (.cells #[.int .i64 Na,.slice Aa La Ca] 108)) 108 #[.int .i64 Na,.slice Ab Lb Cb])
    simpa using this
   clear hw1
   obtain ⟨Xb,hXb⟩:∃ b,w.heap.size+1=b:=⟨_,rfl⟩
   rw [hXb] at hBXb ⊢
   have leXb:w.heap.size≤Xb:=by omega
   have neXaXb:w.heap.size≠Xb:=by omega
   clear hXb
   have cXa0:w1.cell? ⟨w.heap.size,0,none⟩=some (.int .i64 Na):=hBXa.cell 0
   have cXa1:w1.cell? ⟨w.heap.size,1,none⟩=some (.slice Aa La Ca):=hBXa.cell 1
   have lXa:=hBXa.lt
   have fXa0:=hBXa.free 0
   have fXa1:=hBXa.free 1
   have HBXa:=Lib.hid hBXa
   have cXb0:w1.cell? ⟨Xb,0,none⟩=some (.int .i64 Na):=hBXb.cell 0
   have cXb1:w1.cell? ⟨Xb,1,none⟩=some (.slice Ab Lb Cb):=hBXb.cell 1
   have lXb:=hBXb.lt
   have fXb0:=hBXb.free 0
   have fXb1:=hBXb.free 1
   have HBXb:=Lib.hid hBXb
   have HS1:=Lib.hid hs1
   clear hs1 hBXa hBXb
   go_wp2
   go_ret
   exact ⟨rfl,HS1.out⟩
 ·have hf:r=false:=by
   rw [← hr]
   unfold sm
   rw [decide_eq_false_iff_not]
   exact fun h=>h1 h.1
  subst hf
  clear hr hla hlb ha hb
  go_enter Tryz.func71,Tryz.ntmps71
  go_upto_region 1 with fail
  refine wp_world fun w1 hw1=>?_
  have hs1:Same w w1:=by rw [hw1];exact ((Frm.refl _ _).alloc _).alloc _
  have hBXa:Blk w1 (w.heap.size) 108 #[.int .i64 Na,.slice Aa La Ca]:=by
   rw [hw1]
   have:=((Blk.new w 108 #[.int .i64 Na,.slice Aa La Ca]).alloc (.cells #[.int .i64 Nb,.slice Ab Lb Cb] 108))
   simpa using this
  have hBXb:Blk w1 (w.heap.size+1) 108 #[.int .i64 Nb,.slice Ab Lb Cb]:=by
   rw [hw1]
   have:=(Blk.new (w.alloc (.cells #[.int .i64 Na,.slice Aa La Ca] 108)) 108 #[.int .i64 Nb,.slice Ab Lb Cb])
   simpa using this
  clear hw1
  obtain ⟨Xb,hXb⟩:∃ b,w.heap.size+1=b:=⟨_,rfl⟩
  rw [hXb] at hBXb ⊢
  have leXb:w.heap.size≤Xb:=by omega
  have neXaXb:w.heap.size≠Xb:=by omega
  clear hXb
  have cXa0:w1.cell? ⟨w.heap.size,0,none⟩=some (.int .i64 Na):=hBXa.cell 0
  have cXa1:w1.cell? ⟨w.heap.size,1,none⟩=some (.slice Aa La Ca):=hBXa.cell 1
  have lXa:=hBXa.lt
  have fXa0:=hBXa.free 0
  have fXa1:=hBXa.free 1
  have HBXa:=Lib.hid hBXa
  have cXb0:w1.cell? ⟨Xb,0,none⟩=some (.int .i64 Nb):=hBXb.cell 0
  have cXb1:w1.cell? ⟨Xb,1,none⟩=some (.slice Ab Lb Cb):=hBXb.cell 1
  have lXb:=hBXb.lt
  have fXb0:=hBXb.free 0
  have fXb1:=hBXb.free 1
  have HBXb:=Lib.hid hBXb
  have HS1:=Lib.hid hs1
  clear hs1 hBXa hBXb
  go_wp2
  go_ret
  exact ⟨rfl,HS1.out⟩
theorem wth_back (j v:Nat) (b:Bool):wth (wth j v b) v (j.testBit v)=j:=by
 apply Nat.eq_of_testBit_eq
 intro i
 rw [wth_bit,wth_bit]
 by_cases h:i=v
 ·subst h;simp
 ·rw [if_neg h,if_neg h]
theorem halfW_top {n v x:Nat} {b:Bool} (h6:n < 6) (hv:v < n) (hx:x < 2 ^ 2 ^ n):halfW v b x < 2 ^ 2 ^ n:=by
 have hp:2 ^ n≤32:=by
  have:∀ n,n < 6→2 ^ n≤32:=by decide
  exact this n h6
 have hx64:x < 18446744073709551616:=Nat.lt_of_lt_of_le hx (show 2 ^ 2 ^ n≤2 ^ 64 from Nat.pow_le_pow_right (by omega) (by omega))
 refine Nat.lt_pow_two_of_testBit _ fun j hj=>?_
 by_cases hj64:j < 64
 ·rw [halfW_bit b (by omega) hj64]
  refine Nat.testBit_lt_two_pow (Nat.lt_of_lt_of_le hx (Nat.pow_le_pow_right (by omega) ?_))
  refine Nat.le_of_not_lt fun hlt=>?_
  have h2:=wth_lt (b:=j.testBit v) hlt hv
  rw [wth_back] at h2
  omega
 ·exact Nat.testBit_lt_two_pow (Nat.lt_of_lt_of_le (halfW_lt hx64) (show 2 ^ 64≤2 ^ j from Nat.pow_le_pow_right (by omega) (by omega)))
theorem cof_tab {n v:Nat} {b:Bool} {ws:List Nat} (hf:FormN n ws) (hs:Small ws) (hv:v < n):tab n (hfF v b ws)=(List.range (nw n)).map (halfN v b ws):=by
 rw [← laid_tab (n:=n) (g:=halfN v b ws) (F:=hfF v b ws) fun k hk j hj _=>halfN_bit hf hk hv hj]
 refine List.map_congr_left fun i hi=>?_
 unfold fullN
 split
 ·exact Nat.and_two_pow_sub_one_of_lt_two_pow (n:=64) (halfN_lt hs)
 ·rename_i h6
  refine Nat.and_two_pow_sub_one_of_lt_two_pow ?_
  unfold halfN
  rw [if_neg (by omega)]
  have h0:=nw_small (n:=n) (by omega)
  have hi0:i=0:=by have:=List.mem_range.1 hi;omega
  rw [hi0]
  exact halfW_top (by omega) hv (hf.top (by omega))
def soF (g:Nat→Nat) (L k:Nat):List Nat:=(List.range L).map fun i=>if i < k then g i else 0
theorem soF_len (g:Nat→Nat) (L k:Nat):(soF g L k).length=L:=by simp [soF]
theorem soF_zero (g:Nat→Nat) (L:Nat):soF g L 0=List.replicate L 0:=by
 apply List.ext_getElem?
 intro i
 rcases Nat.lt_or_ge i L with h | h
 ·simp [soF,h]
 ·rw [List.getElem?_eq_none (by rw [soF_len];exact h),List.getElem?_eq_none (by simpa using h)]
theorem soF_all (g:Nat→Nat) (L:Nat):soF g L L=(List.range L).map g:=by
 unfold soF
 exact List.map_congr_left fun i hi=>if_pos (List.mem_range.1 hi)
theorem soF_get {g:Nat→Nat} {L k:Nat} (h:k < L):(soF g L k)[k]?=some 0:=by simp [soF,h]
theorem soF_set {g:Nat→Nat} {L k:Nat} (h:k < L):(soF g L k).set k (g k)=soF g L (k+1):=by
 apply List.ext_getElem?
 intro i
 rcases Nat.lt_or_ge i L with hi | hi
 ·rw [List.getElem?_set,soF_len]
  simp only [soF,List.getElem?_map,List.getElem?_range hi,Option.map_some]
  by_cases he:k=i
  ·subst he;simp [h]
  ·rw [if_neg he]
   congr 1
   by_cases h1:i < k
   ·rw [if_pos h1,if_pos (by omega)]
   ·rw [if_neg h1,if_neg (by omega)]
 ·rw [List.getElem?_eq_none (by simp [soF_len,hi]),List.getElem?_eq_none (by rw [soF_len];exact hi)]
theorem cof_made (u:World) (n L:Nat) (hL:L≤maxLen):Blk ((u.alloc (.cells (madeCells #[.int .u64 0] L) 123)).alloc (.cells #[.int .i64 n,.slice (some ⟨u.heap.size,0,none⟩) L L] 108)) (u.heap.size+1) 108 #[.int .i64 n,.slice (some ⟨u.heap.size,0,none⟩) L L] ∧
  OwnW ((u.alloc (.cells (madeCells #[.int .u64 0] L) 123)).alloc (.cells #[.int .i64 n,.slice (some ⟨u.heap.size,0,none⟩) L L] 108)) (some ⟨u.heap.size,0,none⟩) L L (List.replicate L 0) ∧
  Same u ((u.alloc (.cells (madeCells #[.int .u64 0] L) 123)).alloc (.cells #[.int .i64 n,.slice (some ⟨u.heap.size,0,none⟩) L L] 108)):=by
 refine ⟨?_,?_,((Frm.refl _ _).alloc _).alloc _⟩
 ·have:=Blk.new (u.alloc (.cells (madeCells #[.int .u64 0] L) 123)) 108 #[.int .i64 n,.slice (some ⟨u.heap.size,0,none⟩) L L]
  rw [World.size_alloc] at this
  exact this
 ·have:=Own.ofMade (m:=1) u 123 ucell (fun _=>rfl) (by decide) 0 L hL rfl
  have h2:=Own.frm this ((Frm.refl (fun _=>False) _).alloc (.cells #[.int .i64 n,.slice (some ⟨u.heap.size,0,none⟩) L L] 108)) (fun _ _=>id)
  simpa [ucell] using h2
theorem cof_made2 (u:World) (n L:Nat) (hL:L≤maxLen):Blk ((u.alloc (.cells #[.int .i64 n,.slice (some ⟨u.heap.size+1,0,none⟩) L L] 108)).alloc (.cells (madeCells #[.int .u64 0] L) 123)) u.heap.size 108 #[.int .i64 n,.slice (some ⟨u.heap.size+1,0,none⟩) L L] ∧
  OwnW ((u.alloc (.cells #[.int .i64 n,.slice (some ⟨u.heap.size+1,0,none⟩) L L] 108)).alloc (.cells (madeCells #[.int .u64 0] L) 123)) (some ⟨u.heap.size+1,0,none⟩) L L (List.replicate L 0) ∧
  Same u ((u.alloc (.cells #[.int .i64 n,.slice (some ⟨u.heap.size+1,0,none⟩) L L] 108)).alloc (.cells (madeCells #[.int .u64 0] L) 123)):=by
 refine ⟨(Blk.new u _ _).alloc _,?_,((Frm.refl _ _).alloc _).alloc _⟩
 have:=Own.ofMade (m:=1) (u.alloc (.cells #[.int .i64 n,.slice (some ⟨u.heap.size+1,0,none⟩) L L] 108)) 123 ucell (fun _=>rfl) (by decide) 0 L hL rfl
 rw [World.size_alloc] at this
 simpa [ucell] using this
theorem wth_parts (i s:Nat):wth i s false+(i / 2 ^ s % 2) * 2 ^ s=i∧wth i s true=wth i s false+2 ^ s:=by
 unfold wth
 have hb:i.testBit s=decide (i / 2 ^ s % 2=1):=bit_parts
 have hp:0 < 2 ^ s:=Nat.pow_pos (by omega)
 have hd:=Nat.div_add_mod i (2 ^ s)
 by_cases h:i / 2 ^ s % 2=1
 ·rw [hb,decide_eq_true h,if_pos rfl,if_neg (by decide),if_pos rfl,h]
  have h2:2 ^ s≤i:=by
   refine Nat.le_of_not_lt fun hlt=>?_
   rw [Nat.div_eq_of_lt hlt] at h
   cases h
  omega
 ·have h0:i / 2 ^ s % 2=0:=by omega
  rw [hb,decide_eq_false h,if_neg (by decide),if_neg (by decide),if_pos rfl,h0]
  omega
theorem cof_idx (k s:Nat):∃ Q E M J:Nat,(k:Int) / ((2 ^ s:Nat):Int)=(Q:Int)∧(Q:Int).tmod 2=(E:Int)∧(E:Int) * ((2 ^ s:Nat):Int)=(M:Int)∧(k:Int) - (M:Int)=(J:Int)∧J=wth k s false∧Q≤k∧E≤1∧M≤k∧J≤k∧wth k s true=J+2 ^ s:=by
 obtain ⟨h1,h2⟩:=wth_parts k s
 refine ⟨k / 2 ^ s,k / 2 ^ s % 2,k / 2 ^ s % 2 * 2 ^ s,wth k s false,by rw [Int.natCast_ediv],?_,by rw [Int.natCast_mul],by omega,rfl,Nat.div_le_self _ _,by omega,by omega,by omega,h2⟩
 rw [Int.tmod_eq_emod_of_nonneg (Int.natCast_nonneg _),Int.natCast_emod]
 rfl
def bcl (b:Bool):List Value:=[.bool b]
def ctL (b:Bool) (M k:Nat):List Bool:=List.replicate k b ++ List.replicate (M - k) false
theorem ctL_set (b:Bool) {M k:Nat} (h:k < M):(ctL b M k).set k b=ctL b M (k+1):=by
 unfold ctL
 have h1:(List.replicate k b).length=k:=by simp
 rw [List.set_append_right _ _ (by omega),h1,Nat.sub_self,show M - k=(M - (k+1))+1 by omega,List.replicate_succ,List.set_cons_zero,List.replicate_succ',List.append_assoc]
 rfl
theorem ctL_all (b:Bool) (M:Nat):ctL b M M=vals M (fun _=>b):=by
 unfold ctL
 rw [Nat.sub_self,List.replicate_zero,List.append_nil]
 apply List.ext_getElem?
 intro i
 rcases Nat.lt_or_ge i M with h | h
 ·simp [h,vals]
 ·rw [List.getElem?_eq_none (by simpa using h),List.getElem?_eq_none (by simpa [vals] using h)]
theorem const5_any (n:Nat) (b:Bool) (w:World) (hn:n≤16):Calls Tryz.prog 65 #[.int .i64 n,.bool b] w (RetT w n (tab n (fun _=>b))):=by
 have HF:=Lib.hid (fun A C w' (h:BL w' A (2 ^ n) (vals (2 ^ n) (fun _=>b)))=>fill_any n C A (fun _=>b) w' hn h)
 obtain ⟨W,hW⟩:∃ W,W=tab n (fun _=>b):=⟨_,rfl⟩
 rw [← hW] at HF ⊢
 clear hW
 have hp:(2:Nat) ^ n≤2 ^ 16:=Nat.pow_le_pow_right (by omega) hn
 have h2:(2:Int) ^ n=((2 ^ n:Nat):Int):=by rw [Int.natCast_pow];rfl
 obtain ⟨M,hM⟩:∃ M,M=2 ^ n:=⟨_,rfl⟩
 rw [← hM] at HF hp h2
 have hm64:min n 64=n:=by omega
 have hw:IntKind.i64.wrap ((2:Int) ^ n)=(M:Int):=by rw [h2];exact IntWalk.i64_in _ (by omega)
 have hw2:wrap64 ((2:Int) ^ n)=(M:Int):=by rw [← hw];simp [IntKind.wrap_i64,wrap64]
 have hmk:=fun w=>run_make_n (P:=Tryz.prog) Tryz.underlying56 info_bool .i64 .i64 M (show 1 * M≤281474976710656 by omega) (show M≤9223372036854775807 by omega) w
 clear hM h2
 go_enter Tryz.func65,Tryz.ntmps65
 go_upto_region 2 with fail
 refine wp_world fun w1 hw1=>?_
 have hs1:Same w w1:=by rw [hw1];exact ((Frm.refl _ _).alloc _).alloc _
 have hBR:Blk w1 w.heap.size 108 #[.int .i64 0,.slice none 0 0]:=by
  rw [hw1]
  exact (Blk.new w 108 #[.int .i64 0,.slice none 0 0]).alloc _
 have hO:Own w1 4 1 bcl (some ⟨w.heap.size+1,0,none⟩) M M (ctL b M 0):=by
  have h:=Own.ofMade (m:=1) (w.alloc (.cells #[.int .i64 0,.slice none 0 0] 108)) 4 bcl (fun _=>rfl) (by decide) false M (show M≤9223372036854775807 by omega) rfl
  rw [hw1]
  simpa [ctL,bcl] using h
 obtain ⟨R,hR⟩:∃ z,z=w.heap.size:=⟨_,rfl⟩
 obtain ⟨G,hG⟩:∃ z,z=w.heap.size+1:=⟨_,rfl⟩
 have hwR:w.heap.size≤R:=Nat.le_of_eq hR.symm
 have hwG:w.heap.size≤G:=by omega
 have hGR:G≠R:=by omega
 have hgg:(w.alloc (.cells #[.int .i64 0,.slice none 0 0] 108)).heap.size=G:=by simp [hG]
 have hRG:R+1=G:=by omega
 simp only [← hR,hRG] at hO hBR
 simp only [← hR,hRG]
 have HS:=Lib.hid hs1
 have HBR:=Lib.hid hBR
 have HO:=Lib.hid hO
 clear hw1 hs1 hBR hO hG hR hgg hRG hmk hw hw2 hm64
 go_wp2
 go_loopw [6] (fun i wi=>∃ k:Nat,k≤M∧i=.int .i64 k∧Same w wi∧Blk wi R 108 #[.int .i64 0,.slice none 0 0]∧Own wi 4 1 bcl (some ⟨G,0,none⟩) M M (ctL b M k)) (fun i _=>M - (intOf i).toNat)
 case atStart=>exact ⟨0,by omega,rfl,HS.out,HBR.out,HO.out⟩
 case round =>
  clear HS HBR HO
  obtain ⟨k,hk,rfl,hs,hbr,ho⟩:=hrel
  by_cases hlt:k < M
  ·have hlk:k < (ctL b M k).length:=by rw [← ho.len];exact hlt
   obtain ⟨x,hx⟩:∃ x,(ctL b M k)[k]?=some x:=⟨_,List.getElem?_eq_getElem hlk⟩
   obtain ⟨s0,h0,hgl,c0⟩:=Own.at1 (c:=fun x:Bool=>.bool x) ho hx
   injection h0 with h0
   injection h0 with h0
   subst h0
   have fz:=Own.free ho k
   have HP:=Lib.hid (Own.put1 (c:=fun x:Bool=>.bool x) ho hlk b)
   rw [ctL_set b hlt] at HP
   have HSP:=Lib.hid (hs.setNew k (.bool b) hwG)
   have HBP:=Lib.hid (hbr.far (p:=⟨G,k,none⟩) (Ne.symm hGR) (.bool b))
   have hk0:(0:Int)≤k:=by omega
   have hk1:(k:Int) < M:=by omega
   clear hlk hx hs hbr ho
   go_wp2
   go_roundw
   case rel=>exact ⟨k+1,by omega,by go_num,HSP.out,HBP.out,HP.out⟩
   case measure=>simp [intOf] <;> omega
  ·obtain rfl:k=M:=by omega
   have HB:=Lib.hid (show BL wr (some ⟨G,0,none⟩) k (vals k (fun _=>b)) by rw [← ctL_all];exact ho.sl (fun _=>rfl))
   have HS:=Lib.hid hs
   have HBR:=Lib.hid hbr
   clear hs hbr ho
   go_wp2_with (fail)
   refine (HF.out (some ⟨G,0,none⟩) k wr HB.out).mono ?_
   rintro e w2 ⟨A,C,rfl,hNT⟩
   have hBR:=HBR.out.frm hNT.2.2 id
   have cR0:w2.cell? ⟨R,0,none⟩=some (.int .i64 0):=hBR.cell 0
   have cR1:w2.cell? ⟨R,1,none⟩=some (.slice none 0 0):=hBR.cell 1
   have lR:=hBR.lt
   have fR0:=hBR.free 0
   have fR1:=hBR.free 1
   have HB2:=Lib.hid hBR
   have HOT:=Lib.hid hNT.1
   have HFA:=Lib.hid (show Fresh w.heap.size A from fun x hx=>Nat.le_trans HS.out.size (hNT.2.1 x hx))
   have HAR:=Lib.hid (show ∀ a,A=some a→a.block≠R from fun a ha h=>by have:=hNT.2.1 a.block ⟨a,ha,rfl⟩;have:=HBR.out.lt;omega)
   have HS2:=Lib.hid (HS.out.trans hNT.2.2 (fun _ _ h=>h))
   clear hNT hBR
   go_wp2
   refine wp_post fun w3 hw3=>?_
   have hBE:Blk w3 R 108 #[.int .i64 n,.slice A W.length C]:=by
    rw [hw3]
    have:=(HB2.out.set 0 (.int .i64 n)).set 1 (.slice A W.length C)
    simpa using this
   have hSE:Same w w3:=by rw [hw3];exact (HS2.out.setNew 0 _ hwR).setNew 1 _ hwR
   have hOE:OwnW w3 A W.length C W:=by
    rw [hw3]
    exact (Own.far (p:=⟨R,0,none⟩) HOT.out HAR.out _).far (p:=⟨R,1,none⟩) HAR.out _
   have hr0:w3.cell? ⟨R,0,none⟩=some (.int .i64 n):=hBE.cell 0
   have hr1:w3.cell? ⟨R,1,none⟩=some (.slice A W.length C):=hBE.cell 1
   have HFF:=HFA.out
   clear hw3 hBE
   refine bodyPost_ret (v:=.agg #[.int .i64 n,.slice A W.length C]) (by simp [results,Tryz.results65,go_sem,hr0,hr1]) rfl ?_
   exact ⟨A,C,rfl,hOE,HFF,hSE⟩
def vrL (v M k:Nat):List Bool:=(List.range M).map fun i=>decide (i < k) && i.testBit v
theorem vrL_zero (v M:Nat):vrL v M 0=List.replicate M false:=by
 apply List.ext_getElem?
 intro i
 rcases Nat.lt_or_ge i M with h | h
 ·simp [vrL,h]
 ·rw [List.getElem?_eq_none (by simpa [vrL] using h),List.getElem?_eq_none (by simpa using h)]
theorem vrL_all (v M:Nat):vrL v M M=vals M (fun x=>x.testBit v):=by
 unfold vrL vals
 refine List.map_congr_left fun i hi=>?_
 rw [decide_eq_true (List.mem_range.1 hi),Bool.true_and]
theorem vrL_set (v:Nat) {M k:Nat} (h:k < M):(vrL v M k).set k (k.testBit v)=vrL v M (k+1):=by
 apply List.ext_getElem?
 intro i
 rcases Nat.lt_or_ge i M with hi | hi
 ·rw [List.getElem?_set]
  simp only [vrL,List.getElem?_map,List.getElem?_range hi,Option.map_some,List.length_map,List.length_range,h,if_true]
  by_cases he:k=i
  ·subst he;simp
  ·rw [if_neg he]
   congr 2
   rw [decide_eq_decide]
   omega
 ·rw [List.getElem?_eq_none (by simp [vrL,hi]),List.getElem?_eq_none (by simp [vrL,hi])]
theorem rem_nat (ab k:Nat):(((ab:Int) / 2 ^ k).tmod 2 == 1)=ab.testBit k:=by
 rw [Nat.testBit_eq_decide_div_mod_eq]
 have h1:(ab:Int) / 2 ^ k=((ab / 2 ^ k:Nat):Int):=by
  rw [Int.natCast_ediv,Int.natCast_pow]
  rfl
 have h:(((ab / 2 ^ k:Nat):Int)).tmod 2=((ab / 2 ^ k % 2:Nat):Int):=by
  rw [Int.tmod_eq_emod_of_nonneg (Int.natCast_nonneg _),Int.natCast_emod]
  rfl
 rw [h1,h]
 by_cases hb:ab / 2 ^ k % 2=1
 ·rw [hb];rfl
 ·rw [decide_eq_false hb,beq_eq_false_iff_ne]
  omega
theorem var5_any (n v:Nat) (w:World) (hn:n≤16) (hv:v < n):Calls Tryz.prog 134 #[.int .i64 n,.int .i64 v] w (RetT w n (tab n (fun x=>x.testBit v))):=by
 have HF:=Lib.hid (fun A C w' (h:BL w' A (2 ^ n) (vals (2 ^ n) (fun x=>x.testBit v)))=>fill_any n C A (fun x=>x.testBit v) w' hn h)
 obtain ⟨W,hW⟩:∃ W,W=tab n (fun x=>x.testBit v):=⟨_,rfl⟩
 rw [← hW] at HF ⊢
 clear hW
 have hp:(2:Nat) ^ n≤2 ^ 16:=Nat.pow_le_pow_right (by omega) hn
 have h2:(2:Int) ^ n=((2 ^ n:Nat):Int):=by rw [Int.natCast_pow];rfl
 obtain ⟨M,hM⟩:∃ M,M=2 ^ n:=⟨_,rfl⟩
 rw [← hM] at HF hp h2
 have hm64:min n 64=n:=by omega
 have hvm:min v 64=v:=by omega
 have hv0:(0:Int)≤v:=by omega
 have hw:IntKind.i64.wrap ((2:Int) ^ n)=(M:Int):=by rw [h2];exact IntWalk.i64_in _ (by omega)
 have hw2:wrap64 ((2:Int) ^ n)=(M:Int):=by rw [← hw];simp [IntKind.wrap_i64,wrap64]
 have hmk:=fun w=>run_make_n (P:=Tryz.prog) Tryz.underlying56 info_bool .i64 .i64 M (show 1 * M≤281474976710656 by omega) (show M≤9223372036854775807 by omega) w
 clear hM h2
 go_enter Tryz.func134,Tryz.ntmps134
 go_upto_region 2 with fail
 refine wp_world fun w1 hw1=>?_
 have hs1:Same w w1:=by rw [hw1];exact ((Frm.refl _ _).alloc _).alloc _
 have hBR:Blk w1 w.heap.size 108 #[.int .i64 0,.slice none 0 0]:=by
  rw [hw1]
  exact (Blk.new w 108 #[.int .i64 0,.slice none 0 0]).alloc _
 have hO:Own w1 4 1 bcl (some ⟨w.heap.size+1,0,none⟩) M M (vrL v M 0):=by
  have h:=Own.ofMade (m:=1) (w.alloc (.cells #[.int .i64 0,.slice none 0 0] 108)) 4 bcl (fun _=>rfl) (by decide) false M (show M≤9223372036854775807 by omega) rfl
  rw [hw1]
  simpa [bcl,vrL_zero] using h
 obtain ⟨R,hR⟩:∃ z,z=w.heap.size:=⟨_,rfl⟩
 obtain ⟨G,hG⟩:∃ z,z=w.heap.size+1:=⟨_,rfl⟩
 have hwR:w.heap.size≤R:=Nat.le_of_eq hR.symm
 have hwG:w.heap.size≤G:=by omega
 have hGR:G≠R:=by omega
 have hgg:(w.alloc (.cells #[.int .i64 0,.slice none 0 0] 108)).heap.size=G:=by simp [hG]
 have hRG:R+1=G:=by omega
 simp only [← hR,hRG] at hO hBR
 simp only [← hR,hRG]
 have HS:=Lib.hid hs1
 have HBR:=Lib.hid hBR
 have HO:=Lib.hid hO
 clear hw1 hs1 hBR hO hG hR hgg hRG hmk hw hw2 hm64
 go_wp2
 go_loopw [6] (fun i wi=>∃ k:Nat,k≤M∧i=.int .i64 k∧Same w wi∧Blk wi R 108 #[.int .i64 0,.slice none 0 0]∧Own wi 4 1 bcl (some ⟨G,0,none⟩) M M (vrL v M k)) (fun i _=>M - (intOf i).toNat)
 case atStart=>exact ⟨0,by omega,rfl,HS.out,HBR.out,HO.out⟩
 case round =>
  clear HS HBR HO
  obtain ⟨k,hk,rfl,hs,hbr,ho⟩:=hrel
  by_cases hlt:k < M
  ·have hlk:k < (vrL v M k).length:=by rw [← ho.len];exact hlt
   obtain ⟨x,hx⟩:∃ x,(vrL v M k)[k]?=some x:=⟨_,List.getElem?_eq_getElem hlk⟩
   obtain ⟨s0,h0,hgl,c0⟩:=Own.at1 (c:=fun x:Bool=>.bool x) ho hx
   injection h0 with h0
   injection h0 with h0
   subst h0
   have fz:=Own.free ho k
   have HP:=Lib.hid (Own.put1 (c:=fun x:Bool=>.bool x) ho hlk (k.testBit v))
   rw [vrL_set v hlt] at HP
   obtain ⟨b,hb⟩:∃ z,z=k.testBit v:=⟨_,rfl⟩
   rw [← hb] at HP
   have hbr2:(((k:Int) / 2 ^ v).tmod 2 == 1)=b:=by rw [hb];exact rem_nat k v
   have HSP:=Lib.hid (hs.setNew k (.bool b) hwG)
   have HBP:=Lib.hid (hbr.far (p:=⟨G,k,none⟩) (Ne.symm hGR) (.bool b))
   have hk0:(0:Int)≤k:=by omega
   have hk1:(k:Int) < M:=by omega
   clear hlk hx hs hbr ho hb
   go_wp2
   go_roundw
   case rel=>exact ⟨k+1,by omega,by go_num,HSP.out,HBP.out,HP.out⟩
   case measure=>simp [intOf] <;> omega
  ·obtain rfl:k=M:=by omega
   have HB:=Lib.hid (show BL wr (some ⟨G,0,none⟩) k (vals k (fun x=>x.testBit v)) by rw [← vrL_all];exact ho.sl (fun _=>rfl))
   have HS:=Lib.hid hs
   have HBR:=Lib.hid hbr
   clear hs hbr ho
   go_wp2_with (fail)
   refine (HF.out (some ⟨G,0,none⟩) k wr HB.out).mono ?_
   rintro e w2 ⟨A,C,rfl,hNT⟩
   have hBR:=HBR.out.frm hNT.2.2 id
   have cR0:w2.cell? ⟨R,0,none⟩=some (.int .i64 0):=hBR.cell 0
   have cR1:w2.cell? ⟨R,1,none⟩=some (.slice none 0 0):=hBR.cell 1
   have lR:=hBR.lt
   have fR0:=hBR.free 0
   have fR1:=hBR.free 1
   have HB2:=Lib.hid hBR
   have HOT:=Lib.hid hNT.1
   have HFA:=Lib.hid (show Fresh w.heap.size A from fun x hx=>Nat.le_trans HS.out.size (hNT.2.1 x hx))
   have HAR:=Lib.hid (show ∀ a,A=some a→a.block≠R from fun a ha h=>by have:=hNT.2.1 a.block ⟨a,ha,rfl⟩;have:=HBR.out.lt;omega)
   have HS2:=Lib.hid (HS.out.trans hNT.2.2 (fun _ _ h=>h))
   clear hNT hBR
   go_wp2
   refine wp_post fun w3 hw3=>?_
   have hBE:Blk w3 R 108 #[.int .i64 n,.slice A W.length C]:=by
    rw [hw3]
    have:=(HB2.out.set 0 (.int .i64 n)).set 1 (.slice A W.length C)
    simpa using this
   have hSE:Same w w3:=by rw [hw3];exact (HS2.out.setNew 0 _ hwR).setNew 1 _ hwR
   have hOE:OwnW w3 A W.length C W:=by
    rw [hw3]
    exact (Own.far (p:=⟨R,0,none⟩) HOT.out HAR.out _).far (p:=⟨R,1,none⟩) HAR.out _
   have hr0:w3.cell? ⟨R,0,none⟩=some (.int .i64 n):=hBE.cell 0
   have hr1:w3.cell? ⟨R,1,none⟩=some (.slice A W.length C):=hBE.cell 1
   have HFF:=HFA.out
   clear hw3 hBE
   refine bodyPost_ret (v:=.agg #[.int .i64 n,.slice A W.length C]) (by simp [results,Tryz.results134,go_sem,hr0,hr1]) rfl ?_
   exact ⟨A,C,rfl,hOE,HFF,hSE⟩
theorem OwnB.cell {w:World} {sb N C M i:Nat} {F:Nat→Bool} (h:OwnB w (some ⟨sb,0,none⟩) N C (vals M F)) (hi:i < M):sb < w.heap.size∧w.cell? ⟨sb,i,none⟩=some (.bool (F i)):=by
 obtain ⟨sb',h1,h2,h3⟩:=Own.at1 (c:=fun b:Bool=>.bool b) h (vals_get hi)
 injection h1 with h1
 injection h1 with h1
 subst h1
 exact ⟨h2,h3⟩
end Go.Proofs.YtiomgckodmecbaaGreat
namespace Go.Tk
open Go.RowKit Go.Sort
theorem effStep_on {P:Program} {ops:Array Oper} {C:World→Prop} {o:Oper} {a:Act} {w:World} {K:Act→World→Prop} (hg:Region.wanted o (yielded ops a.tmps)=true)
  (h:∀ K':Act→World→Prop,(∀ a w,C w→K a w→K' a w)→o.wp P a w K' (fun _ _ _=>False)):effStep P ops C o a w K:=by
 have h1:=h (fun a w=>C w∧K a w) (fun a w hc hw=>⟨hc,hw⟩)
 unfold effStep
 rw [if_pos hg]
 exact h1
end Go.Tk
namespace Go.Proofs.YtiomgckodmecbaaGreat
open Go.RowKit Go.Tk
end Go.Proofs.YtiomgckodmecbaaGreat
namespace Go.Tk
open Go.RowKit
end Go.Tk
namespace Go.Proofs.YtiomgckodmecbaaGreat
open Go.RowKit Go.Tk
def Tb.cells (t:Tb):List Value:=[.int .i64 t.N,.slice t.A t.ws.length t.C]
theorem run_words (a:Int) (A:Option Addr) (n C:Nat) (w:World):(Instr.field 108 (.agg #[.int .i64 a,.slice A n C]) 1).run Tryz.prog w=.ok (.slice A n C) w:=rfl
def depB (n:Nat) (ws:List Nat) (v:Nat):Bool:=!decide (tab n (hfF v false ws)=tab n (hfF v true ws))
theorem var_six (v:Nat):tab 6 (fun x=>x.testBit v)=[bsum (fun j=>j.testBit v) 64]:=by
 have h:nw 6=1:=rfl
 unfold tab
 rw [h]
 simp [word]
 exact bsum_congr fun j hj=>by simp [hj]
theorem half_true {x O p z:Nat} (hx:x < 18446744073709551616) (hO:O < 18446744073709551616) (hz:z=(x &&& O) ||| (x &&& O) / 2 ^ p):∃ y:Nat,bits .and .u64 (x:Int) (O:Int)=(y:Int)∧bits .or .u64 (y:Int) ((y:Int) / 2 ^ p)=(z:Int):=by
 have h1:x &&& O < 18446744073709551616:=Nat.lt_of_le_of_lt Nat.and_le_left hx
 refine ⟨x &&& O,u64_and_nat x O hx hO,?_⟩
 rw [hz,← u64_or_nat _ _ h1 (Nat.lt_of_le_of_lt (Nat.div_le_self _ _) h1),Int.natCast_ediv,Int.natCast_pow]
 rfl
theorem half_false {x O p z:Nat} (hx:x < 18446744073709551616) (hO:O < 18446744073709551616) (hz:z=(x &&& (18446744073709551615 - O)) ||| ((x &&& (18446744073709551615 - O)) * 2 ^ p) % 18446744073709551616):∃ y:Nat,bits .andNot .u64 (x:Int) (O:Int)=(y:Int)∧bits .or .u64 (y:Int) (IntKind.u64.wrap ((y:Int) * 2 ^ p))=(z:Int):=by
 have h1:x &&& (18446744073709551615 - O) < 18446744073709551616:=Nat.lt_of_le_of_lt Nat.and_le_left hx
 refine ⟨x &&& (18446744073709551615 - O),u64_andNot_nat x O hx hO,?_⟩
 rw [hz,← u64_or_nat _ _ h1 (Nat.mod_lt _ (by decide))]
 congr 1
theorem cof5_any (n v:Nat) (b:Bool) (Aa:Option Addr) (Ca:Nat) (wsa:List Nat) (w:World) (h:TbOk w ⟨n,Aa,Ca,wsa⟩) (hf:FormN n wsa) (hv:v < n) :
  Calls Tryz.prog 127 #[.agg #[.int .i64 n,.slice Aa wsa.length Ca],.int .i64 v,.bool b] w (RetT w n (tab n (hfF v b wsa))):=by
 have hn:=hf.n16
 have hnl:=nw_le hn
 have hnp:=nw_pos n
 have hct:=cof_tab (b:=b) hf h.small hv
 have hlen:=hf.len
 obtain ⟨G,hG⟩:∃ z,z=halfN v b wsa:=⟨_,rfl⟩
 rw [← hG] at hct
 have hGs:∀ i,G i < 18446744073709551616:=fun i=>by rw [hG];exact halfN_lt h.small
 have hmk:=fun w=>run_make_n (P:=Tryz.prog) Tryz.underlying74 info_u64 .i64 .i64 (nw n) (show 8 * nw n≤281474976710656 by omega) (show nw n≤9223372036854775807 by omega) w
 obtain ⟨L,hL⟩:∃ z,z=nw n:=⟨_,rfl⟩
 have hLn:=hL
 rw [← hL] at hct hnl hnp hlen hmk
 rw [hct,hlen]
 have H:=Lib.hid (show WL w Aa L wsa by rw [← hlen];exact h.wl)
 have HSM:=Lib.hid h.small
 have HGS:=Lib.hid hGs
 have HGD:=Lib.hid hG
 have HLN:=Lib.hid hLn
 have HLEN:=Lib.hid hlen
 clear h hf hct hlen hG hGs hL hLn
 go_enter Tryz.func127,Tryz.ntmps127
 go_upto_region 1 with fail
 refine wp_world fun w1 hw1=>?_
 have hs1:Same w w1:=by rw [hw1];exact ((Frm.refl _ _).alloc _).alloc _
 have hBXT:Blk w1 (w.heap.size) 108 #[.int .i64 n,.slice Aa L Ca]:=by
  rw [hw1]
  have:=((Blk.new w 108 #[.int .i64 n,.slice Aa L Ca]).alloc (.cells #[.int .i64 0,.slice none 0 0] 108))
  simpa using this
 have hBR:Blk w1 (w.heap.size+1) 108 #[.int .i64 0,.slice none 0 0]:=by
  rw [hw1]
  have:=(Blk.new (w.alloc (.cells #[.int .i64 n,.slice Aa L Ca] 108)) 108 #[.int .i64 0,.slice none 0 0])
  simpa using this
 clear hw1
 obtain ⟨R,hR⟩:∃ b,w.heap.size+1=b:=⟨_,rfl⟩
 rw [hR] at hBR ⊢
 have leR:w.heap.size≤R:=by omega
 have neXTR:w.heap.size≠R:=by omega
 clear hR
 have cXT0:w1.cell? ⟨w.heap.size,0,none⟩=some (.int .i64 n):=hBXT.cell 0
 have cXT1:w1.cell? ⟨w.heap.size,1,none⟩=some (.slice Aa L Ca):=hBXT.cell 1
 have lXT:=hBXT.lt
 have fXT0:=hBXT.free 0
 have fXT1:=hBXT.free 1
 have HBXT:=Lib.hid hBXT
 have cR0:w1.cell? ⟨R,0,none⟩=some (.int .i64 0):=hBR.cell 0
 have cR1:w1.cell? ⟨R,1,none⟩=some (.slice none 0 0):=hBR.cell 1
 have lR:=hBR.lt
 have fR0:=hBR.free 0
 have fR1:=hBR.free 1
 have HBR:=Lib.hid hBR
 have HS1:=Lib.hid hs1
 clear hs1 hBXT hBR
 go_cut [7] (fun s7 wx=>∃ X G:Nat,s7=.pointer (some ⟨X,0,none⟩)∧X≠G∧w1.heap.size≤X∧w1.heap.size≤G∧Blk wx X 108 #[.int .i64 n,.slice (some ⟨G,0,none⟩) L L]∧OwnW wx (some ⟨G,0,none⟩) L L (List.replicate L 0)∧Same w1 wx)
 case first =>
  refine wp_tS (fun _=>False) (.q [0,1,2,3,4] (.fork 5 (.q [6] (.step 7 (.last 8))) 7 (.step 5 (.q [6] (.last 8))))) (by kernel_rfl) (by kernel_rfl) ?_
  simp only [wpT,pick,List.map_cons,List.map_nil,List.getD_cons_zero,List.getD_cons_succ]
  repeat (any_goals (first | go_big_quiet_step (fail) | quiet_step (fail)))
  refine wpQuiet_nil ?_
  have hqd:Same w1 w1.drew:=(Frm.refl _ _).drew
  refine ⟨?_,?_⟩
  ·refine effStep_plain rfl fun K hK=>?_
   go_simp
   refine hK _ _ (Lat.mk_ (Frm.alloc hqd _)) ?_
   clear hK K
   repeat (any_goals (first | go_big_quiet_step (fail) | quiet_step (fail)))
   refine wpQuiet_nil ?_
   refine effStep_plain rfl fun K hK=>?_
   go_simp
   refine hK _ _ (Lat.mk_ (Frm.alloc (Frm.alloc hqd _) _)) ?_
   clear hK K
   go_wp2_with fail
   go_meet
   obtain ⟨g1,g2,g3⟩:=cof_made w1 n L (by simp [maxLen] <;> omega)
   exact ⟨w1.heap.size+1,w1.heap.size,rfl,by omega,by omega,Nat.le_refl _,g1.drew,Own.frm g2 ((Frm.refl (fun _=>False) _).drew) (fun _ _=>id),g3.drew⟩
  ·refine effStep_plain rfl fun K hK=>?_
   go_simp
   refine hK _ _ (Lat.mk_ (Frm.alloc hqd _)) ?_
   clear hK K
   refine effStep_plain rfl fun K hK=>?_
   go_simp
   refine hK _ _ (Lat.mk_ (Frm.alloc (Frm.alloc hqd _) _)) ?_
   clear hK K
   repeat (any_goals (first | go_big_quiet_step (fail) | quiet_step (fail)))
   refine wpQuiet_nil ?_
   go_wp2_with fail
   go_meet
   obtain ⟨g1,g2,g3⟩:=cof_made2 w1 n L (by simp [maxLen] <;> omega)
   exact ⟨w1.heap.size,w1.heap.size+1,rfl,by omega,Nat.le_refl _,by omega,g1.drew,Own.frm g2 ((Frm.refl (fun _=>False) _).drew) (fun _ _=>id),g3.drew⟩
 case rest =>
  obtain ⟨X,D,rfl,hXD,hX0,hD0,hBX,hOD,hsc⟩:=hcut
  have hwX:w.heap.size≤X:=by have:=HS1.out.size;omega
  have hwD:w.heap.size≤D:=by have:=HS1.out.size;omega
  have hXR:X≠R:=by omega
  have hDR:D≠R:=by omega
  have hTX:w.heap.size≠X:=by omega
  have hTD:w.heap.size≠D:=by omega
  have HBT:=Lib.hid (HBXT.out.frm hsc id)
  have HBRR:=Lib.hid (HBR.out.frm hsc id)
  have HS:=Lib.hid (HS1.out.trans hsc (fun _ _ h=>h))
  have HBX:=Lib.hid hBX
  have HOD:=Lib.hid hOD
  clear hBX hOD hsc HBXT HBR HS1 cXT0 cXT1 lXT fXT0 fXT1 cR0 cR1 lR fR0 fR1 hmk hX0 hD0
  by_cases h6:6≤v
  ·obtain ⟨s,hs⟩:∃ s,s=v - 6:=⟨_,rfl⟩
   have hv6:(v:Int) - 6=s:=by omega
   have h6':(v:Int) ≥ 6:=by omega
   have hs10:s≤10:=by omega
   have hPle:2 ^ s≤2 ^ 10:=Nat.pow_le_pow_right (by omega) hs10
   have h2:(2:Int) ^ s=((2 ^ s:Nat):Int):=pow_int s
   have hpar:=fun i=>cof_idx i s
   obtain ⟨P,hP⟩:∃ z,z=2 ^ s:=⟨_,rfl⟩
   have hP0:0 < P:=by rw [hP];exact Nat.pow_pos (by omega)
   rw [← hP] at hPle h2
   have hm64:min s 64=s:=by omega
   have hw:IntKind.i64.wrap ((2:Int) ^ s)=(P:Int):=by rw [h2];exact IntWalk.i64_in _ (by omega)
   have hw2:wrap64 ((2:Int) ^ (v - 6))=(P:Int):=by rw [← hs,← hw];simp [IntKind.wrap_i64,wrap64]
   have HP:=Lib.hid hP
   have HPAR:=Lib.hid hpar
   clear hP hpar h2
   have hsn:s < n - 6:=by omega
   have HSN:=Lib.hid hsn
   have HS0:=Lib.hid hs
   clear hs hv6 hw hsn
   go_wp2
   go_loopw [9] (fun i wi=>∃ k:Nat,k≤L∧i=.int .i64 k∧Same w wi∧Blk wi w.heap.size 108 #[.int .i64 n,.slice Aa L Ca]∧Blk wi R 108 #[.int .i64 0,.slice none 0 0]∧Blk wi X 108 #[.int .i64 n,.slice (some ⟨D,0,none⟩) L L]∧OwnW wi (some ⟨D,0,none⟩) L L (soF G L k)) (fun i _=>L - (intOf i).toNat)
   case atStart=>exact ⟨0,by omega,rfl,HS.out,HBT.out,HBRR.out,HBX.out,by rw [soF_zero];exact HOD.out⟩
   case round =>
    clear HS HBT HBRR HBX HOD
    obtain ⟨k,hk,rfl,hs,hbt,hbr,hbx,hod⟩:=hrel
    have c0:wr.cell? ⟨w.heap.size,0,none⟩=some (.int .i64 n):=hbt.cell 0
    have c1:wr.cell? ⟨w.heap.size,1,none⟩=some (.slice Aa L Ca):=hbt.cell 1
    have lT:=hbt.lt
    by_cases hlt:k < L
    ·have hk0:(0:Int)≤k:=by omega
     have hk1:(k:Int) < L:=by omega
     obtain ⟨Q,E,M,J,f1,f2,f3,f4,hJ,hQk,hE1,hMk,hJk,hp2⟩:=HPAR.out k
     rw [← HP.out] at f1 f3 hp2
     have F1:=Lib.hid f1
     have F2:=Lib.hid f2
     have F3:=Lib.hid f3
     have F4:=Lib.hid f4
     clear f1 f2 f3 f4 hw2
     have hPne:¬ P=0:=Nat.pos_iff_ne_zero.1 hP0
     obtain ⟨I,hI⟩:∃ z,z=wth k s b:=⟨_,rfl⟩
     have hIL:I < L:=by
      rw [hI,HLN.out,show nw n=2 ^ (n - 6) by unfold nw;rw [if_neg (by omega)]]
      refine wth_lt ?_ HSN.out
      rw [HLN.out,show nw n=2 ^ (n - 6) by unfold nw;rw [if_neg (by omega)]] at hlt
      exact hlt
     obtain ⟨x,hx⟩:∃ x,wsa[I]?=some x:=⟨_,List.getElem?_eq_getElem (by rw [HLEN.out];exact hIL)⟩
     have hGk:G k=x:=by
      rw [HGD.out]
      unfold halfN
      rw [if_pos h6,← HS0.out,← hI,List.getD_eq_getElem?_getD,hx]
      rfl
     obtain ⟨ba,oa,hA,hba,hca⟩:=WL.at1 (Sl.same H.out hs) hx
     subst hA
     have hI0:(0:Int)≤I:=by omega
     have hI1:(I:Int) < L:=by omega
     obtain ⟨sb,hsb,hDl,hcD⟩:=hod.at1 (c:=fun x:Nat=>.int .u64 (x:Int)) (soF_get (g:=G) hlt)
     injection hsb with hsb
     injection hsb with hsb
     subst hsb
     have hst:=fun (w':World) (hs':Same wr w')=>Own.put1 (c:=fun x:Nat=>.int .u64 (x:Int)) (Own.frm hod hs' (fun _ _=>id)) (i:=k) (by rw [soF_len];exact hlt) x
     rw [show (soF G L k).set k x=soF G L (k+1) by rw [← hGk];exact soF_set hlt] at hst
     have hcX:wr.cell? ⟨X,1,none⟩=some (.slice (some ⟨D,0,none⟩) L L):=hbx.cell 1
     have hXl:=hbx.lt
     have hfree:=fun (w':World) (hs':Same wr w')=>Own.free (Own.frm hod hs' (fun _ _=>id)) k
     have HST:=Lib.hid hst
     have HFREE:=Lib.hid hfree
     have HS:=Lib.hid hs
     have HBT:=Lib.hid hbt
     have HBRR:=Lib.hid hbr
     have HBX:=Lib.hid hbx
     have hbI:(if b then J+P else J)=I:=by
      rw [hI]
      cases b
      ·exact hJ
      ·rw [hp2];rfl
     have hk3:k≤1024:=by omega
     clear hp2 hJ hI hx hGk hst hfree hs hbt hbr hbx hod
     cases b with
     | false =>
      have hJI:J=I:=hbI
      clear hbI
      subst hJI
      go_upto_region 7 with fail
      refine wp_region_lit ?_
      refine wpList_read 3 ?_
      simp only [List.take_succ_cons,List.take_zero,List.drop_succ_cons,List.drop_zero]
      repeat (any_goals (first | go_big_quiet_step (fail) | quiet_step (fail)))
      refine wpQuiet_nil ?_
      refine wpList_plain rfl fun K hK=>?_
      go_simp
      rw [F1.out,show IntKind.i64.wrap (Q:Int)=Q from IntWalk.i64_in _ (by omega)]
      go_simp
      refine hK _ _ ?_
      clear hK K
      have f2:=F2.out
      refine wpList_plain rfl fun K hK=>?_
      go_simp
      refine hK _ _ ?_
      clear hK K
      clear f2
      refine wpList_plain rfl fun K hK=>?_
      go_simp
      refine hK _ _ ?_
      clear hK K
      have f3:=F3.out
      refine wpList_plain rfl fun K hK=>?_
      go_simp
      clear f3
      rw [show IntKind.i64.wrap (M:Int)=M from IntWalk.i64_in _ (by omega)]
      refine hK _ _ ?_
      clear hK K
      refine wpList_plain rfl fun K hK=>?_
      go_simp
      rw [F4.out,show IntKind.i64.wrap (J:Int)=J from IntWalk.i64_in _ (by omega)]
      refine hK _ _ ?_
      clear hK K
      go_upto_region 10 with fail
      refine wp_quiet_tail 9 (by kernel_rfl) (by kernel_rfl) ?_
      simp only [List.take_succ_cons,List.take_zero,List.drop_succ_cons,List.drop_zero]
      repeat (any_goals (first | go_big_quiet_step (fail) | quiet_step (fail)))
      refine wpQuiet_nil ?_
      rintro wz ⟨q,hq⟩
      have hsz:Same wr wz:=by rw [hq];exact more_same _ q
      have hfz:=HFREE.out wz hsz
      have hcz:=(hsz.cell (p:=⟨D,k,none⟩) hDl id).trans hcD
      have HSZ:=Lib.hid ((HS.out.trans hsz (fun _ _ h=>h)).setNew (g:=D) k (.int .u64 (x:Int)) hwD)
      have HBTz:=Lib.hid ((HBT.out.frm hsz id).far (p:=⟨D,k,none⟩) hTD (.int .u64 (x:Int)))
      have HBRz:=Lib.hid ((HBRR.out.frm hsz id).far (p:=⟨D,k,none⟩) (Ne.symm hDR) (.int .u64 (x:Int)))
      have HBXz:=Lib.hid ((HBX.out.frm hsz id).far (p:=⟨D,k,none⟩) hXD (.int .u64 (x:Int)))
      have HOZ:=Lib.hid (HST.out wz hsz)
      have hDz:D < wz.heap.size:=by have:=hsz.size;omega
      clear hq hsz hcD hDl hcX hXl hca hba c0 c1 lT
      go_wp2
      go_roundw
      case rel=>exact ⟨k+1,by omega,by go_num,HSZ.out,HBTz.out,HBRz.out,HBXz.out,HOZ.out⟩
      case measure=>simp [intOf] <;> omega
     | true =>
      have f5:(J:Int)+(P:Int)=(I:Int):=by rw [← hbI];simp
      clear hbI
      go_upto_region 7 with fail
      refine wp_region_lit ?_
      refine wpList_read 3 ?_
      simp only [List.take_succ_cons,List.take_zero,List.drop_succ_cons,List.drop_zero]
      repeat (any_goals (first | go_big_quiet_step (fail) | quiet_step (fail)))
      refine wpQuiet_nil ?_
      refine wpList_plain rfl fun K hK=>?_
      go_simp
      rw [F1.out,show IntKind.i64.wrap (Q:Int)=Q from IntWalk.i64_in _ (by omega)]
      go_simp
      refine hK _ _ ?_
      clear hK K
      have f2:=F2.out
      refine wpList_plain rfl fun K hK=>?_
      go_simp
      refine hK _ _ ?_
      clear hK K
      clear f2
      refine wpList_plain rfl fun K hK=>?_
      go_simp
      refine hK _ _ ?_
      clear hK K
      have f3:=F3.out
      refine wpList_plain rfl fun K hK=>?_
      go_simp
      clear f3
      rw [show IntKind.i64.wrap (M:Int)=M from IntWalk.i64_in _ (by omega)]
      refine hK _ _ ?_
      clear hK K
      refine wpList_plain rfl fun K hK=>?_
      go_simp
      rw [F4.out,show IntKind.i64.wrap (J:Int)=J from IntWalk.i64_in _ (by omega)]
      refine hK _ _ ?_
      clear hK K
      go_upto_region 10 with fail
      refine wp_quiet_tail 9 (by kernel_rfl) (by kernel_rfl) ?_
      simp only [List.take_succ_cons,List.take_zero,List.drop_succ_cons,List.drop_zero]
      repeat (any_goals (first | go_big_quiet_step (fail) | quiet_step (fail)))
      refine wpQuiet_nil ?_
      rintro wz ⟨q,hq⟩
      have hsz:Same wr wz:=by rw [hq];exact more_same _ q
      have hfz:=HFREE.out wz hsz
      have hcz:=(hsz.cell (p:=⟨D,k,none⟩) hDl id).trans hcD
      have HSZ:=Lib.hid ((HS.out.trans hsz (fun _ _ h=>h)).setNew (g:=D) k (.int .u64 (x:Int)) hwD)
      have HBTz:=Lib.hid ((HBT.out.frm hsz id).far (p:=⟨D,k,none⟩) hTD (.int .u64 (x:Int)))
      have HBRz:=Lib.hid ((HBRR.out.frm hsz id).far (p:=⟨D,k,none⟩) (Ne.symm hDR) (.int .u64 (x:Int)))
      have HBXz:=Lib.hid ((HBX.out.frm hsz id).far (p:=⟨D,k,none⟩) hXD (.int .u64 (x:Int)))
      have HOZ:=Lib.hid (HST.out wz hsz)
      have hDz:D < wz.heap.size:=by have:=hsz.size;omega
      clear hq hsz hcD hDl hcX hXl hca hba c0 c1 lT
      go_wp2
      go_roundw
      case rel=>exact ⟨k+1,by omega,by go_num,HSZ.out,HBTz.out,HBRz.out,HBXz.out,HOZ.out⟩
      case measure=>simp [intOf] <;> omega
    ·obtain rfl:k=L:=by omega
     rw [soF_all] at hod
     have HS:=Lib.hid hs
     have HBRR:=Lib.hid hbr
     have HOD:=Lib.hid hod
     have hcX0:wr.cell? ⟨X,0,none⟩=some (.int .i64 n):=hbx.cell 0
     have hcX1:wr.cell? ⟨X,1,none⟩=some (.slice (some ⟨D,0,none⟩) k k):=hbx.cell 1
     have hXl:=hbx.lt
     have hRl:=hbr.lt
     have hfR0:=hbr.free 0
     have hfR1:=hbr.free 1
     have hcR0:wr.cell? ⟨R,0,none⟩=some (.int .i64 0):=hbr.cell 0
     have hcR1:wr.cell? ⟨R,1,none⟩=some (.slice none 0 0):=hbr.cell 1
     clear hs hbt hbr hbx hod HGS
     have HWL:=Lib.hid (show (List.map G (List.range k)).length=k by simp)
     clear HGD HSM
     go_wp2
     refine wp_post fun we hwe=>?_
     have hBE:Blk we R 108 #[.int .i64 n,.slice (some ⟨D,0,none⟩) k k]:=by
      rw [hwe]
      have:=(HBRR.out.set 0 (.int .i64 n)).set 1 (.slice (some ⟨D,0,none⟩) k k)
      simpa using this
     have hSE:Same w we:=by rw [hwe];exact (HS.out.setNew 0 _ leR).setNew 1 _ leR
     have hOE:OwnW we (some ⟨D,0,none⟩) k k (List.map G (List.range k)):=by
      rw [hwe]
      exact (Own.far (p:=⟨R,0,none⟩) HOD.out (fun a ha h=>by injection ha with ha;subst ha;exact hDR h) _).far (p:=⟨R,1,none⟩) (fun a ha h=>by injection ha with ha;subst ha;exact hDR h) _
     have hr0:we.cell? ⟨R,0,none⟩=some (.int .i64 n):=hBE.cell 0
     have hr1:we.cell? ⟨R,1,none⟩=some (.slice (some ⟨D,0,none⟩) k k):=hBE.cell 1
     clear hwe hBE
     refine bodyPost_ret (v:=.agg #[.int .i64 n,.slice (some ⟨D,0,none⟩) k k]) (by simp [results,Tryz.results127,go_sem,hr0,hr1]) rfl ?_
     refine ⟨some ⟨D,0,none⟩,k,by rw [HWL.out],?_,fresh_some hwD,hSE⟩
     rw [HWL.out]
     exact hOE
  ·have h6':¬ (v:Int) ≥ 6:=by omega
   go_wp2_with (fail)
   refine (var5_any 6 v wc (by omega) (by omega)).mono ?_
   rintro e w3 ⟨A3,C3,rfl,hNT⟩
   have ho3:=hNT.wl
   have hs3:=hNT.2.2
   obtain ⟨O,hO⟩:∃ z,z=bsum (fun j=>j.testBit v) 64:=⟨_,rfl⟩
   have hO64:O < 18446744073709551616:=by rw [hO];exact bsum_lt _ 64
   rw [var_six v,← hO] at ho3 ⊢
   have h3l:[O].length=1:=rfl
   rw [h3l] at ho3 ⊢
   obtain ⟨b3,o3,hA3,hb3,hc3⟩:=WL.at1 ho3 (i:=0) (x:=O) rfl
   subst hA3
   have hc3':w3.cell? ⟨b3,o3,none⟩=some (.int .u64 O):=by simpa using hc3
   replace HBT:=Lib.hid (HBT.out.frm hs3 id)
   replace HBRR:=Lib.hid (HBRR.out.frm hs3 id)
   replace HBX:=Lib.hid (HBX.out.frm hs3 id)
   replace HOD:=Lib.hid (Own.frm HOD.out hs3 (fun _ _=>id))
   replace HS:=Lib.hid (HS.out.trans hs3 (fun _ _ h=>h))
   have HOV:=Lib.hid hO
   have hrw:=run_words
   clear hNT ho3 hs3 h3l hc3 hO
   have HV6:=Lib.hid (show v < 6 by omega)
   have hvp:2 ^ v≤2 ^ 5:=Nat.pow_le_pow_right (by omega) (by omega)
   have hvi:(2:Int) ^ v=((2 ^ v:Nat):Int):=pow_int v
   have hvm:min v 64=v:=by omega
   have hv0:(0:Int)≤v:=by omega
   obtain ⟨p,hp⟩:∃ z,z=2 ^ v:=⟨_,rfl⟩
   rw [← hp] at hvp hvi
   have hpw:IntKind.u64.wrap ((2:Int) ^ v)=(p:Int):=by rw [hvi];exact IntWalk.u64_in _ (by omega)
   have hpm:min p 64=p:=by omega
   have HPP:=Lib.hid hp
   clear hp hvi
   go_wp2
   go_loopw [12] (fun i wi=>∃ k:Nat,k≤L∧i=.int .i64 k∧Same w wi∧Blk wi w.heap.size 108 #[.int .i64 n,.slice Aa L Ca]∧Blk wi R 108 #[.int .i64 0,.slice none 0 0]∧Blk wi X 108 #[.int .i64 n,.slice (some ⟨D,0,none⟩) L L]∧OwnW wi (some ⟨D,0,none⟩) L L (soF G L k)) (fun i _=>L - (intOf i).toNat)
   case atStart=>exact ⟨0,by omega,rfl,HS.out,HBT.out,HBRR.out,HBX.out,by rw [soF_zero];exact HOD.out⟩
   case round =>
    clear HS HBT HBRR HBX HOD hc3' hb3
    obtain ⟨k,hk,rfl,hs,hbt,hbr,hbx,hod⟩:=hrel
    have c0:wr.cell? ⟨w.heap.size,0,none⟩=some (.int .i64 n):=hbt.cell 0
    have c1:wr.cell? ⟨w.heap.size,1,none⟩=some (.slice Aa L Ca):=hbt.cell 1
    have lT:=hbt.lt
    by_cases hlt:k < L
    ·have hk0:(0:Int)≤k:=by omega
     have hk1:(k:Int) < L:=by omega
     obtain ⟨x,hx⟩:∃ x,wsa[k]?=some x:=⟨_,List.getElem?_eq_getElem (by rw [HLEN.out];exact hlt)⟩
     have hxl:=HSM.out.at1 hx
     have hGk:G k=halfW v b x:=by
      rw [HGD.out]
      unfold halfN
      rw [if_neg (by have:=HV6.out;omega),List.getD_eq_getElem?_getD,hx]
      rfl
     obtain ⟨ba,oa,hA,hba,hca⟩:=WL.at1 (Sl.same H.out hs) hx
     subst hA
     obtain ⟨sb,hsb,hDl,hcD⟩:=hod.at1 (c:=fun x:Nat=>.int .u64 (x:Int)) (soF_get (g:=G) hlt)
     injection hsb with hsb
     injection hsb with hsb
     subst hsb
     obtain ⟨z,hz⟩:∃ z,z=halfW v b x:=⟨_,rfl⟩
     rw [← hz] at hGk
     have hst:=fun (w':World) (hs':Same wr w')=>Own.put1 (c:=fun x:Nat=>.int .u64 (x:Int)) (Own.frm hod hs' (fun _ _=>id)) (i:=k) (by rw [soF_len];exact hlt) z
     rw [show (soF G L k).set k z=soF G L (k+1) by rw [← hGk];exact soF_set hlt] at hst
     have hcX:wr.cell? ⟨X,1,none⟩=some (.slice (some ⟨D,0,none⟩) L L):=hbx.cell 1
     have hXl:=hbx.lt
     have hfree:=fun (w':World) (hs':Same wr w')=>Own.free (Own.frm hod hs' (fun _ _=>id)) k
     have HST:=Lib.hid hst
     have HFREE:=Lib.hid hfree
     have HS:=Lib.hid hs
     have HBT:=Lib.hid hbt
     have HBRR:=Lib.hid hbr
     have HBX:=Lib.hid hbx
     clear hx hst hfree hs hbt hbr hbx hod hGk
     cases b with
     | false =>
      have hhf:=half_false (p:=p) (z:=z) hxl hO64 (by rw [hz,HPP.out,HOV.out];exact (if_neg (by decide):halfW v false x=_))
      obtain ⟨y,fa,fc⟩:=hhf
      clear hz
      go_upto_region 20 with fail
      refine wp_quiet_tail 10 (by kernel_rfl) (by kernel_rfl) ?_
      simp only [List.take_succ_cons,List.take_zero,List.drop_succ_cons,List.drop_zero]
      repeat (any_goals (first | go_big_quiet_step (fail) | quiet_step (fail)))
      refine wpQuiet_nil ?_
      rintro wz ⟨q,hq⟩
      have hsz:Same wr wz:=by rw [hq];exact more_same _ q
      have hfz:=HFREE.out wz hsz
      have hcz:=(hsz.cell (p:=⟨D,k,none⟩) hDl id).trans hcD
      have HSZ:=Lib.hid ((HS.out.trans hsz (fun _ _ h=>h)).setNew (g:=D) k (.int .u64 (z:Int)) hwD)
      have HBTz:=Lib.hid ((HBT.out.frm hsz id).far (p:=⟨D,k,none⟩) hTD (.int .u64 (z:Int)))
      have HBRz:=Lib.hid ((HBRR.out.frm hsz id).far (p:=⟨D,k,none⟩) (Ne.symm hDR) (.int .u64 (z:Int)))
      have HBXz:=Lib.hid ((HBX.out.frm hsz id).far (p:=⟨D,k,none⟩) hXD (.int .u64 (z:Int)))
      have HOZ:=Lib.hid (HST.out wz hsz)
      have hDz:D < wz.heap.size:=by have:=hsz.size;omega
      clear hq hsz hcD hDl hcX hXl hca hba c0 c1 lT fa
      go_wp2
      go_roundw
      case rel=>exact ⟨k+1,by omega,by go_num,HSZ.out,HBTz.out,HBRz.out,HBXz.out,HOZ.out⟩
      case measure=>simp [intOf] <;> omega
     | true =>
      have hhf:=half_true (p:=p) (z:=z) hxl hO64 (by rw [hz,HPP.out,HOV.out];exact (if_pos rfl:halfW v true x=_))
      obtain ⟨y,fa,fc⟩:=hhf
      clear hz
      go_upto_region 18 with fail
      refine wp_quiet_tail 10 (by kernel_rfl) (by kernel_rfl) ?_
      simp only [List.take_succ_cons,List.take_zero,List.drop_succ_cons,List.drop_zero]
      repeat (any_goals (first | go_big_quiet_step (fail) | quiet_step (fail)))
      refine wpQuiet_nil ?_
      rintro wz ⟨q,hq⟩
      have hsz:Same wr wz:=by rw [hq];exact more_same _ q
      have hfz:=HFREE.out wz hsz
      have hcz:=(hsz.cell (p:=⟨D,k,none⟩) hDl id).trans hcD
      have HSZ:=Lib.hid ((HS.out.trans hsz (fun _ _ h=>h)).setNew (g:=D) k (.int .u64 (z:Int)) hwD)
      have HBTz:=Lib.hid ((HBT.out.frm hsz id).far (p:=⟨D,k,none⟩) hTD (.int .u64 (z:Int)))
      have HBRz:=Lib.hid ((HBRR.out.frm hsz id).far (p:=⟨D,k,none⟩) (Ne.symm hDR) (.int .u64 (z:Int)))
      have HBXz:=Lib.hid ((HBX.out.frm hsz id).far (p:=⟨D,k,none⟩) hXD (.int .u64 (z:Int)))
      have HOZ:=Lib.hid (HST.out wz hsz)
      have hDz:D < wz.heap.size:=by have:=hsz.size;omega
      clear hq hsz hcD hDl hcX hXl hca hba c0 c1 lT fa
      go_wp2
      go_roundw
      case rel=>exact ⟨k+1,by omega,by go_num,HSZ.out,HBTz.out,HBRz.out,HBXz.out,HOZ.out⟩
      case measure=>simp [intOf] <;> omega
    ·obtain rfl:k=L:=by omega
     rw [soF_all] at hod
     have HS:=Lib.hid hs
     have HBRR:=Lib.hid hbr
     have HOD:=Lib.hid hod
     have hcX0:wr.cell? ⟨X,0,none⟩=some (.int .i64 n):=hbx.cell 0
     have hcX1:wr.cell? ⟨X,1,none⟩=some (.slice (some ⟨D,0,none⟩) k k):=hbx.cell 1
     have hXl:=hbx.lt
     have hRl:=hbr.lt
     have hfR0:=hbr.free 0
     have hfR1:=hbr.free 1
     have hcR0:wr.cell? ⟨R,0,none⟩=some (.int .i64 0):=hbr.cell 0
     have hcR1:wr.cell? ⟨R,1,none⟩=some (.slice none 0 0):=hbr.cell 1
     clear hs hbt hbr hbx hod HGS
     have HWL:=Lib.hid (show (List.map G (List.range k)).length=k by simp)
     clear HGD HSM
     go_wp2
     refine wp_post fun we hwe=>?_
     have hBE:Blk we R 108 #[.int .i64 n,.slice (some ⟨D,0,none⟩) k k]:=by
      rw [hwe]
      have:=(HBRR.out.set 0 (.int .i64 n)).set 1 (.slice (some ⟨D,0,none⟩) k k)
      simpa using this
     have hSE:Same w we:=by rw [hwe];exact (HS.out.setNew 0 _ leR).setNew 1 _ leR
     have hOE:OwnW we (some ⟨D,0,none⟩) k k (List.map G (List.range k)):=by
      rw [hwe]
      exact (Own.far (p:=⟨R,0,none⟩) HOD.out (fun a ha h=>by injection ha with ha;subst ha;exact hDR h) _).far (p:=⟨R,1,none⟩) (fun a ha h=>by injection ha with ha;subst ha;exact hDR h) _
     have hr0:we.cell? ⟨R,0,none⟩=some (.int .i64 n):=hBE.cell 0
     have hr1:we.cell? ⟨R,1,none⟩=some (.slice (some ⟨D,0,none⟩) k k):=hBE.cell 1
     clear hwe hBE
     refine bodyPost_ret (v:=.agg #[.int .i64 n,.slice (some ⟨D,0,none⟩) k k]) (by simp [results,Tryz.results127,go_sem,hr0,hr1]) rfl ?_
     refine ⟨some ⟨D,0,none⟩,k,by rw [HWL.out],?_,fresh_some hwD,hSE⟩
     rw [HWL.out]
     exact hOE
theorem depends5_any (n v:Nat) (Aa:Option Addr) (Ca:Nat) (wsa:List Nat) (w:World) (h:TbOk w ⟨n,Aa,Ca,wsa⟩) (hf:FormN n wsa) (hv:v < n) :
  Calls Tryz.prog 128 #[.agg #[.int .i64 n,.slice Aa wsa.length Ca],.int .i64 v] w fun e w'=>e=.returned (.bool (depB n wsa v))∧Same w w':=by
 have hn:=hf.n16
 have H:=Lib.hid h
 have HF:=Lib.hid hf
 have HV:=Lib.hid hv
 obtain ⟨d,hd⟩:∃ z,z=depB n wsa v:=⟨_,rfl⟩
 rw [← hd]
 have HD:=Lib.hid (show (!decide (tab n (hfF v false wsa)=tab n (hfF v true wsa)))=d from hd.symm)
 clear h hf hd
 go_enter Tryz.func128,Tryz.ntmps128
 go_upto_region 1 with fail
 refine wp_world fun w1 hw1=>?_
 have hs1:Same w w1:=by rw [hw1];exact (Frm.refl _ _).alloc _
 have hBXT:Blk w1 (w.heap.size) 108 #[.int .i64 n,.slice Aa wsa.length Ca]:=by
  rw [hw1]
  have:=(Blk.new w 108 #[.int .i64 n,.slice Aa wsa.length Ca])
  simpa using this
 clear hw1
 have cXT0:w1.cell? ⟨w.heap.size,0,none⟩=some (.int .i64 n):=hBXT.cell 0
 have cXT1:w1.cell? ⟨w.heap.size,1,none⟩=some (.slice Aa wsa.length Ca):=hBXT.cell 1
 have lXT:=hBXT.lt
 have fXT0:=hBXT.free 0
 have fXT1:=hBXT.free 1
 have HBXT:=Lib.hid hBXT
 have HS1:=Lib.hid hs1
 clear hs1 hBXT
 refine wp_phS (fun _=>False) [([0,1,3,4],2),([],5),([],6),([7],8)] (by kernel_rfl) (by kernel_rfl) ?_
 simp only [wpPh,pick,List.map_cons,List.map_nil,List.getD_cons_zero,List.getD_cons_succ]
 have hs:Same w1 w1.drew:=(Frm.refl _ _).drew
 repeat (any_goals (first | go_big_quiet_step (fail) | quiet_step (fail)))
 refine wpQuiet_nil ?_
 refine effStep_plain rfl fun K hK=>?_
 go_simp
 refine (cof5_any n v false Aa Ca wsa _ (H.out.same (HS1.out.trans hs (fun _ _ h=>h))) HF.out HV.out).mono ?_
 rintro e u ⟨A0,C0,rfl,hNT⟩
 have hs:=hs.trans hNT.2.2 (fun _ _ h=>h)
 have ho0:=hNT.1
 refine hK _ _ (Lat.mk_ (Frm.mono hs (fun _ _ h=>h.elim))) ?_
 clear hK K hNT
 refine wpQuiet_nil ?_
 refine effStep_plain rfl fun K hK=>?_
 go_simp
 refine (cof5_any n v true Aa Ca wsa _ (H.out.same (HS1.out.trans hs (fun _ _ h=>h))) HF.out HV.out).mono ?_
 rintro e u ⟨A1,C1,rfl,hNT⟩
 have hs:=hs.trans hNT.2.2 (fun _ _ h=>h)
 have ho0:=Own.frm ho0 hNT.2.2 (fun _ _=>id)
 have ho1:=hNT.1
 refine hK _ _ (Lat.mk_ (Frm.mono hs (fun _ _ h=>h.elim))) ?_
 clear hK K hNT
 refine wpQuiet_nil ?_
 refine effStep_plain rfl fun K hK=>?_
 go_simp
 refine (tsame_any n A0 _ C0 _ n A1 _ C1 _ _ (ho0.sl ucell_len) (ho1.sl ucell_len) (by rw [tab_len];have:=nw_le hn;omega)).mono ?_
 rintro e u ⟨rfl,hsz⟩
 have hs:=hs.trans hsz (fun _ _ h=>h)
 refine hK _ _ (Lat.mk_ (Frm.mono hs (fun _ _ h=>h.elim))) ?_
 have hdd:=HD.out
 rw [show sm (n:Int) n (tab n (hfF v false wsa)) (tab n (hfF v true wsa))=decide (tab n (hfF v false wsa)=tab n (hfF v true wsa)) by unfold sm;simp]
 generalize decide (tab n (hfF v false wsa)=tab n (hfF v true wsa))=dd at *
 subst hdd
 have HSN:=Lib.hid (HS1.out.trans hs (fun _ _ h=>h))
 clear hK K hsz ho0 ho1 hs HD
 repeat (any_goals (first | go_big_quiet_step (fail) | quiet_step (fail)))
 refine wpQuiet_nil ?_
 go_wp2
 go_ret
 exact ⟨rfl,HSN.out⟩
theorem info_tbl:(Tryz.prog.info? 108).map (fun i=>(i.zero,i.size,i.bytes))=some (some (.agg #[.int .i64 0,.slice none 0 0]),2,32):=by kernel_rfl
structure TW (w:World) (n:Nat) (t:Tb):Prop where
 N:t.N=(n:Int)
 own:OwnW w t.A t.ws.length t.C t.ws
 fm:FormN n t.ws
 sm:Small t.ws
structure TL (w:World) (n:Nat) (A:Option Addr) (ts:List Tb):Prop where
 sl:Sl w 2 Tb.cells A ts.length ts
 tw:∀ t∈ts,TW w n t
structure TN (lo:Nat) (w:World) (n:Nat) (A:Option Addr) (C:Nat) (ts:List Tb):Prop where
 own:Go.Tk.Own w 108 2 Tb.cells A ts.length C ts
 tw:∀ t∈ts,TW w n t
 fresh:Fresh lo A
theorem Tb.cells_len (t:Tb):t.cells.length=2:=rfl
section
variable {w w':World} {n:Nat} {A:Option Addr} {C:Nat} {ts:List Tb} {t:Tb} {lo:Nat}
theorem TW.same (h:TW w n t) (hs:Same w w'):TW w' n t:=⟨h.N,h.own.frm hs (fun _ _=>id),h.fm,h.sm⟩
theorem TW.ok (h:TW w n t):TbOk w t:=⟨h.own.sl ucell_len,h.sm⟩
theorem TL.same (h:TL w n A ts) (hs:Same w w'):TL w' n A ts:=⟨Sl.same h.sl hs,fun t ht=>(h.tw t ht).same hs⟩
theorem TN.tl (h:TN lo w n A C ts):TL w n A ts:=⟨h.own.sl Tb.cells_len,h.tw⟩
theorem TN.same (h:TN lo w n A C ts) (hs:Same w w'):TN lo w' n A C ts:=⟨h.own.frm hs (fun _ _=>id),fun t ht=>(h.tw t ht).same hs,h.fresh⟩
theorem TN.nil (lo:Nat) (w:World) (n:Nat):TN lo w n none 0 []:=⟨Own.nil _ _ _ _,fun _ h=>(by cases h),fresh_none _⟩
theorem TL.at (h:TL w n A ts) {i:Nat} (hi:ts[i]?=some t):∃ b off,A=some ⟨b,off,none⟩∧b < w.heap.size∧w.cell? ⟨b,off+i * 2,none⟩=some (.int .i64 t.N)∧w.cell? ⟨b,off+i * 2+1,none⟩=some (.slice t.A t.ws.length t.C):=by
 obtain ⟨b,off,h1,h2,h3⟩:=h.sl.get i t hi
 exact ⟨b,off,h1,h2,h3 0 (by omega),h3 1 (by omega)⟩
theorem in5_any (hL:TL w n A ts) (ht:TW w n t) (hl:ts.length≤1000000000000000000) :
  Calls Tryz.prog 103 #[.slice A ts.length C,t.val] w fun e w'=>e=.returned (.bool (decide (t.ws∈ts.map Tb.ws)))∧Same w w':=by
 have htl:t.ws.length≤1000000000000000000:=by rw [ht.fm.len];have:=nw_le ht.fm.n16;omega
 have hsm:=fun (u:Tb) w' (h1:TW w' n t) (h2:TW w' n u)=>tsame_any t.N t.A t.ws.length t.C t.ws u.N u.A u.ws.length u.C u.ws w' h1.ok.wl h2.ok.wl htl
 have HSM:=Lib.hid hsm
 have HL:=Lib.hid hL
 have HT:=Lib.hid ht
 clear hL ht hsm htl
 unfold Tb.val
 go_enter Tryz.func103,Tryz.ntmps103
 go_wp2_with (fail)
 refine wp_world fun w1 hw1=>?_
 have hX:=Blk.new w 108 #[.int .i64 t.N,.slice t.A t.ws.length t.C]
 have hs1:Same w w1:=by rw [hw1];exact (Frm.refl _ _).alloc _
 rw [← hw1] at hX
 clear hw1
 have HX:=Lib.hid hX
 have HS1:=Lib.hid hs1
 clear hX hs1
 go_loopw [9] (fun i wr=>∃ k:Nat,k≤ts.length∧i=.int .i64 k∧Same w1 wr∧∀ u∈ts.take k,u.ws≠t.ws) (fun i _=>ts.length - (intOf i).toNat)
 case atStart=>exact ⟨0,by omega,rfl,Frm.refl _ _,fun u hu=>by simp at hu⟩
 case round =>
  obtain ⟨k,hk,rfl,hS,hno⟩:=hrel
  have HS:=Lib.hid hS
  have HNO:=Lib.hid hno
  have hX:=HX.out.frm hS id
  have x0:=hX.cell 0
  have x1:=hX.cell 1
  have hxl:=hX.lt
  simp at x0 x1
  clear hS hno hX
  by_cases hlt:k < ts.length
  ·obtain ⟨u,hu⟩:∃ u,ts[k]?=some u:=⟨_,List.getElem?_eq_getElem hlt⟩
   have hL:=HL.out.same (HS1.out.trans HS.out (fun _ _ h=>h))
   obtain ⟨b,off,rfl,hb,c0,c1⟩:=hL.at hu
   have hI:(k:Int) < (ts.length:Int):=by omega
   have hsm:=HSM.out u
   have hse:sm t.N u.N t.ws u.ws=decide (u.ws=t.ws):=by
    unfold sm
    rw [HT.out.N,(HL.out.tw u (List.mem_of_getElem? hu)).N]
    by_cases h:t.ws=u.ws
    ·simp [h]
    ·have h':¬ u.ws=t.ws:=fun e=>h e.symm
     simp [h,h']
   have HSMU:=Lib.hid (show ∀ w',Same w1 w'→Calls Tryz.prog 71 #[.agg #[.int .i64 t.N,.slice t.A t.ws.length t.C],.agg #[.int .i64 u.N,.slice u.A u.ws.length u.C]] w' fun e w''=>e=.returned (.bool (decide (u.ws=t.ws)))∧Same w' w'' from fun w' hw=>by
    have:=hsm w' (HT.out.same (HS1.out.trans hw (fun _ _ h=>h))) ((HL.out.tw u (List.mem_of_getElem? hu)).same (HS1.out.trans hw (fun _ _ h=>h)))
    rwa [hse] at this)
   have HU:=Lib.hid hu
   clear hu hL hsm hse
   obtain ⟨bb,hbb⟩:∃ bb,decide (u.ws=t.ws)=bb:=⟨_,rfl⟩
   rw [hbb] at HSMU
   have HBB:=Lib.hid hbb
   clear hbb
   cases bb with
   | true =>
    go_wp2_with (fail)
    refine (HSMU.out _ (HS.out.alloc _)).mono ?_
    rintro e w3 ⟨rfl,hs3⟩
    have HS3:=Lib.hid hs3
    clear hs3
    go_wp2
    go_ret
    refine ⟨?_,(HS1.out.trans (HS.out.alloc _) (fun _ _ h=>h)).trans HS3.out (fun _ _ h=>h)⟩
    have:t.ws∈ts.map Tb.ws:=List.mem_map.2 ⟨u,List.mem_of_getElem? HU.out,of_decide_eq_true HBB.out⟩
    exact ret_bool (by simpa using this)
   | false =>
    go_wp2_with (fail)
    refine (HSMU.out _ (HS.out.alloc _)).mono ?_
    rintro e w3 ⟨rfl,hs3⟩
    have HS3:=Lib.hid ((HS.out.alloc (.cells #[.int .i64 u.N,.slice u.A u.ws.length u.C] 108)).trans hs3 (fun _ _ h=>h))
    clear hs3
    go_wp2
    go_roundw
    case rel =>
     refine ⟨k+1,by omega,by go_num,HS3.out,fun v hv=>?_⟩
     rw [List.take_add_one,HU.out] at hv
     rcases List.mem_append.1 hv with hv | hv
     ·exact HNO.out v hv
     ·simp at hv
      rw [hv]
      exact of_decide_eq_false HBB.out
    case measure=>simp [intOf] <;> omega
  ·obtain rfl:k=ts.length:=by omega
   have hI:¬ ((ts.length:Nat):Int) < (ts.length:Int):=by omega
   go_wp2
   go_ret
   refine ⟨ret_bool ?_,HS1.out.trans HS.out (fun _ _ h=>h)⟩
   have:t.ws ∉ ts.map Tb.ws:=fun hm=>by
    obtain ⟨u,hu,he⟩:=List.mem_map.1 hm
    exact HNO.out u (by rw [List.take_length];exact hu) he
   symm
   apply decide_eq_false
   simpa using this
def addN (l:List (List Nat)) (z:List Nat):List (List Nat):=if z∈l then l else l ++ [z]
def unlikeL (zs:List (List Nat)):List (List Nat):=zs.foldl addN []
def nodesL (n:Nat) (zs:List (List Nat)) (v:Nat):List (List Nat):=zs.filter fun z=>depB n z v
theorem addN_len (l:List (List Nat)) (z:List Nat):(addN l z).length≤l.length+1:=by unfold addN;split <;> simp
theorem TN.push (h:TN lo w n A C ts) (ht:TW w n t) {wb:World} {g cap:Nat} (hO:Go.Tk.Own wb 108 2 Tb.cells (some ⟨g,0,none⟩) (ts.length+1) cap (ts ++ [t])) (hg:w.grownBy wb (Value.slice A ts.length C).ownBlock)
  (hat:(Value.slice A ts.length C).ownBlock=some g∨g=w.heap.size) (hlo:lo≤w.heap.size):TN lo wb n (some ⟨g,0,none⟩) cap (ts ++ [t])∧∀ (w0:World),Same w0 w→w0.heap.size=lo→Same w0 wb:=by
 have kp:∀ u,TW w n u→TW wb n u:=fun u hu=>⟨hu.N,hu.own.keptBy hg (fun b hb hA=>h.own.ne_own hu.own (by decide) b (ownBlock_row.1 hb) hA),hu.fm,hu.sm⟩
 refine ⟨⟨by rw [List.length_append];exact hO,fun u hu=>?_,fresh_some ?_⟩,fun w0 hs hz=>hs.grown hg (fun g' hg'=>.inr ?_)⟩
 ·rcases List.mem_append.1 hu with hu | hu
  ·exact kp u (h.tw u hu)
  ·simp at hu
   subst hu
   exact kp _ ht
 ·rcases hat with h1 | h1
  ·exact h.fresh g (ownBlock_row.1 h1)
  ·omega
 ·rw [hz];exact h.fresh g' (ownBlock_row.1 hg')
theorem unlike5_any (hL:TL w n A ts) (hl:ts.length≤4300000000000) :
  Calls Tryz.prog 126 #[.slice A ts.length C] w fun e w'=>∃ A' C' us,e=.returned (.slice A' us.length C')∧TN w.heap.size w' n A' C' us∧us.map Tb.ws=unlikeL (ts.map Tb.ws)∧us.length≤ts.length∧Same w w':=by
 have HL:=Lib.hid hL
 clear hL
 go_enter Tryz.func126,Tryz.ntmps126
 go_wp2_with (fail)
 go_loopw [8,3] (fun i v wr=>∃ (k:Nat) (A':Option Addr) (C':Nat) (us:List Tb),k≤ts.length∧i=.int .i64 k∧v=.slice A' us.length C'∧TN w.heap.size wr n A' C' us∧us.map Tb.ws=unlikeL ((ts.take k).map Tb.ws)∧us.length≤k∧Same w wr) (fun i _ _=>ts.length - (intOf i).toNat)
 case atStart=>exact ⟨0,none,0,[],by omega,rfl,rfl,TN.nil _ _ _,rfl,Nat.le_refl _,Frm.refl _ _⟩
 case round =>
  obtain ⟨k,A',C',us,hk,rfl,rfl,hN,hus,hul,hS⟩:=hrel
  by_cases hlt:k < ts.length
  ·obtain ⟨t,ht⟩:∃ t,ts[k]?=some t:=⟨_,List.getElem?_eq_getElem hlt⟩
   have hL:=HL.out.same hS
   have htw:=hL.tw t (List.mem_of_getElem? ht)
   obtain ⟨b,off,rfl,hb,c0,c1⟩:=hL.at ht
   have hI:(k:Int) < (ts.length:Int):=by omega
   have hin:=fun w' (hw:Same wr w')=>in5_any (w:=w') (t:=t) (C:=C') (hN.tl.same hw) (htw.same hw) (by omega)
   have hstep:unlikeL ((ts.take (k+1)).map Tb.ws)=addN (unlikeL ((ts.take k).map Tb.ws)) t.ws:=by
    rw [List.take_add_one,ht]
    unfold unlikeL
    simp
   unfold Tb.val at hin
   obtain ⟨bb,hbb⟩:∃ bb,decide (t.ws∈us.map Tb.ws)=bb:=⟨_,rfl⟩
   rw [hbb] at hin
   have HIN:=Lib.hid hin
   have HST:=Lib.hid hstep
   have HN:=Lib.hid hN
   have HU:=Lib.hid hus
   have HS:=Lib.hid hS
   have HTW:=Lib.hid htw
   have HBB:=Lib.hid hbb
   clear hL htw hin hstep hN hus hS ht hbb
   go_upto_region 5 with fail
   refine wp_world fun w1 hw1=>?_
   have hX:=Blk.new wr 108 #[.int .i64 t.N,.slice t.A t.ws.length t.C]
   have hs1:Same wr w1:=by rw [hw1];exact (Frm.refl _ _).alloc _
   rw [← hw1] at hX
   clear hw1
   have x0:=hX.cell 0
   have x1:=hX.cell 1
   have hxl:=hX.lt
   simp at x0 x1
   have HX:=Lib.hid hX
   have HS1:=Lib.hid hs1
   clear hX hs1
   go_wp2_with (fail)
   refine (HIN.out _ HS1.out).mono ?_
   rintro e w2 ⟨rfl,hs2⟩
   have hX2:=HX.out.frm hs2 id
   have HS2:=Lib.hid (HS1.out.trans hs2 (fun _ _ h=>h))
   have x0:=hX2.cell 0
   have x1:=hX2.cell 1
   have hxl2:=hX2.lt
   simp at x0 x1
   clear hX2 hs2 HX HS1
   cases bb with
   | true =>
    go_wp2
    go_roundw
    case rel =>
     have e1:unlikeL ((ts.take (k+1)).map Tb.ws)=us.map Tb.ws:=by
      rw [HST.out,← HU.out]
      unfold addN
      rw [if_pos (of_decide_eq_true HBB.out)]
     exact ⟨k+1,A',C',us,by omega,by go_num,rfl,HN.out.same HS2.out,e1.symm,by omega,HS.out.trans HS2.out (fun _ _ h=>h)⟩
    case measure=>simp [intOf] <;> omega
   | false =>
    go_upto_region 6 with fail
    refine wp_read 2 ?_
    simp only [List.take_succ_cons,List.take_zero,List.drop_succ_cons,List.drop_zero]
    repeat (any_goals (first | go_big_quiet_step (fail) | quiet_step (fail)))
    refine wpQuiet_nil ?_
    refine wpList_plain rfl fun K hK=>?_
    go_simp
    refine hK _ _ ?_
    clear hK K
    refine list_world fun wa hwa=>?_
    have hM:=Blk.new w2 108 #[.int .i64 t.N,.slice t.A t.ws.length t.C]
    have hsa:Same wr wa:=by rw [hwa];exact HS2.out.alloc _
    rw [← hwa] at hM
    clear hwa
    have hNa:=HN.out.same hsa
    refine Own.append_list rfl (.tmp 16) (.tmp 18) _ rfl Tryz.underlying55 info_tbl rfl (by omega) rfl hNa.own Tb.cells_len t w2.heap.size 1 rfl hM (by simp [Value.oneCell',Tb.cells]) (by unfold maxLen;omega) (by omega) ?_
    intro gg cap wb hOb hgb hat
    have hza:w.heap.size≤wa.heap.size:=(HS.out.trans hsa (fun _ _ h=>h)).size
    have hp:=hNa.push (HTW.out.same hsa) hOb hgb hat hza
    have HP:=Lib.hid hp.1
    have HSB:=Lib.hid (hp.2 w (HS.out.trans hsa (fun _ _ h=>h)) rfl)
    clear hp hOb hgb hat hNa hsa hM
    go_wp2
    go_roundw
    case rel =>
     have e1:unlikeL ((ts.take (k+1)).map Tb.ws)=(us ++ [t]).map Tb.ws:=by
      rw [HST.out,← HU.out]
      unfold addN
      rw [if_neg (of_decide_eq_false HBB.out)]
      simp
     exact ⟨k+1,some ⟨gg,0,none⟩,cap,us ++ [t],by omega,by go_num,by rw [List.length_append];rfl,HP.out,e1.symm,by simp <;> omega,HSB.out⟩
    case measure=>simp [intOf] <;> omega
  ·obtain rfl:k=ts.length:=by omega
   have hI:¬ ((ts.length:Nat):Int) < (ts.length:Int):=by omega
   have HN:=Lib.hid hN
   have HU:=Lib.hid hus
   have HS:=Lib.hid hS
   clear hN hus hS
   go_wp2
   go_ret
   exact ⟨A',C',us,rfl,HN.out,by have:=HU.out;rwa [List.take_length] at this,hul,HS.out⟩
theorem nodes5_any (hL:TL w n A ts) (v:Nat) (hv:v < n) (hl:ts.length≤1000000000000) :
  Calls Tryz.prog 129 #[.slice A ts.length C,.int .i64 v] w fun e w'=>∃ A' C' us,e=.returned (.slice A' us.length C')∧TN w.heap.size w' n A' C' us∧us.map Tb.ws=nodesL n (ts.map Tb.ws) v∧us.length≤ts.length∧Same w w':=by
 have HL:=Lib.hid hL
 clear hL
 go_enter Tryz.func129,Tryz.ntmps129
 go_wp2_with (fail)
 go_loopw [10,5] (fun i v' wr=>∃ (k:Nat) (A':Option Addr) (C':Nat) (us:List Tb),k≤ts.length∧i=.int .i64 k∧v'=.slice A' us.length C'∧TN w.heap.size wr n A' C' us∧us.map Tb.ws=nodesL n ((ts.take k).map Tb.ws) v∧us.length≤k∧Same w wr) (fun i _ _=>ts.length - (intOf i).toNat)
 case atStart=>exact ⟨0,none,0,[],by omega,rfl,rfl,TN.nil _ _ _,rfl,Nat.le_refl _,Frm.refl _ _⟩
 case round =>
  obtain ⟨k,A',C',us,hk,rfl,rfl,hN,hus,hul,hS⟩:=hrel
  by_cases hlt:k < ts.length
  ·obtain ⟨t,ht⟩:∃ t,ts[k]?=some t:=⟨_,List.getElem?_eq_getElem hlt⟩
   have hL:=HL.out.same hS
   have htw:=hL.tw t (List.mem_of_getElem? ht)
   obtain ⟨b,off,rfl,hb,c0,c1⟩:=hL.at ht
   have hI:(k:Int) < (ts.length:Int):=by omega
   have hin:=fun w' (hw:Same wr w')=>depends5_any n v t.A t.C t.ws w' (by have:=(htw.same hw).ok;rw [show t=⟨t.N,t.A,t.C,t.ws⟩ from rfl,htw.N] at this;exact this) htw.fm hv
   have htN:=htw.N
   have hstep:nodesL n ((ts.take (k+1)).map Tb.ws) v=if depB n t.ws v then nodesL n ((ts.take k).map Tb.ws) v ++ [t.ws] else nodesL n ((ts.take k).map Tb.ws) v:=by
    rw [List.take_add_one,ht]
    unfold nodesL
    rw [Option.toList_some,List.map_append,List.filter_append,List.map_singleton,List.filter_cons]
    split <;> simp
   obtain ⟨bb,hbb⟩:∃ bb,depB n t.ws v=bb:=⟨_,rfl⟩
   rw [hbb] at hin hstep
   rw [htN] at c0
   have HIN:=Lib.hid hin
   have HST:=Lib.hid hstep
   have HN:=Lib.hid hN
   have HU:=Lib.hid hus
   have HS:=Lib.hid hS
   have HTW:=Lib.hid htw
   have HTN:=Lib.hid htN
   clear hL htw hin hstep hN hus hS ht hbb htN
   go_upto_region 5 with fail
   refine wp_world fun w1 hw1=>?_
   have hX:=Blk.new wr 108 #[.int .i64 n,.slice t.A t.ws.length t.C]
   have hs1:Same wr w1:=by rw [hw1];exact (Frm.refl _ _).alloc _
   rw [← hw1] at hX
   clear hw1
   have x0:=hX.cell 0
   have x1:=hX.cell 1
   have hxl:=hX.lt
   simp at x0 x1
   have HX:=Lib.hid hX
   have HS1:=Lib.hid hs1
   clear hX hs1
   go_wp2_with (fail)
   refine (HIN.out _ HS1.out).mono ?_
   rintro e w2 ⟨rfl,hs2⟩
   have hX2:=HX.out.frm hs2 id
   have HS2:=Lib.hid (HS1.out.trans hs2 (fun _ _ h=>h))
   have x0:=hX2.cell 0
   have x1:=hX2.cell 1
   have hxl2:=hX2.lt
   simp at x0 x1
   clear hX2 hs2 HX HS1
   cases bb with
   | false =>
    go_wp2
    go_roundw
    case rel =>
     have e1:nodesL n ((ts.take (k+1)).map Tb.ws) v=us.map Tb.ws:=by rw [HST.out,if_neg (by simp),← HU.out]
     exact ⟨k+1,A',C',us,by omega,by go_num,rfl,HN.out.same HS2.out,e1.symm,by omega,HS.out.trans HS2.out (fun _ _ h=>h)⟩
    case measure=>simp [intOf] <;> omega
   | true =>
    go_upto_region 6 with fail
    refine wp_read 2 ?_
    simp only [List.take_succ_cons,List.take_zero,List.drop_succ_cons,List.drop_zero]
    repeat (any_goals (first | go_big_quiet_step (fail) | quiet_step (fail)))
    refine wpQuiet_nil ?_
    refine wpList_plain rfl fun K hK=>?_
    go_simp
    refine hK _ _ ?_
    clear hK K
    refine list_world fun wa hwa=>?_
    have hM:=Blk.new w2 108 #[.int .i64 n,.slice t.A t.ws.length t.C]
    have hsa:Same wr wa:=by rw [hwa];exact HS2.out.alloc _
    rw [← hwa] at hM
    clear hwa
    have hNa:=HN.out.same hsa
    refine Own.append_list rfl (.tmp 17) (.tmp 19) _ rfl Tryz.underlying55 info_tbl rfl (by omega) rfl hNa.own Tb.cells_len t w2.heap.size 1 rfl (by unfold Tb.cells;rw [HTN.out];exact hM) (by simp [Value.oneCell',Tb.cells]) (by unfold maxLen;omega) (by omega) ?_
    intro gg cap wb hOb hgb hat
    have hza:w.heap.size≤wa.heap.size:=(HS.out.trans hsa (fun _ _ h=>h)).size
    have hp:=hNa.push (HTW.out.same hsa) hOb hgb hat hza
    have HP:=Lib.hid hp.1
    have HSB:=Lib.hid (hp.2 w (HS.out.trans hsa (fun _ _ h=>h)) rfl)
    clear hp hOb hgb hat hNa hsa hM
    go_wp2
    go_roundw
    case rel =>
     have e1:nodesL n ((ts.take (k+1)).map Tb.ws) v=(us ++ [t]).map Tb.ws:=by
      rw [HST.out,if_pos trivial,← HU.out]
      simp
     exact ⟨k+1,some ⟨gg,0,none⟩,cap,us ++ [t],by omega,by go_num,by rw [List.length_append];rfl,HP.out,e1.symm,by simp <;> omega,HSB.out⟩
    case measure=>simp [intOf] <;> omega
  ·obtain rfl:k=ts.length:=by omega
   have hI:¬ ((ts.length:Nat):Int) < (ts.length:Int):=by omega
   have HN:=Lib.hid hN
   have HU:=Lib.hid hus
   have HS:=Lib.hid hS
   clear hN hus hS
   go_wp2
   go_ret
   exact ⟨A',C',us,rfl,HN.out,by have:=HU.out;rwa [List.take_length] at this,hul,HS.out⟩
end
def cofT (n v:Nat) (b:Bool) (z:List Nat):List Nat:=tab n (hfF v b z)
def givenL (n:Nat) (zs:List (List Nat)) (v:Nat):List (List Nat):=zs.foldl (fun l z=>addN (addN l (cofT n v false z)) (cofT n v true z)) []
structure GV (wb W:World) (n:Nat) (zf zt:List Nat) (X Y:Option Nat) (F G:Option (Option Addr × Nat)):Prop where
 s:Same wb W
 x:∀ b,X=some b→Blk W b 108 #[.int .i64 0,.slice none 0 0]∧wb.heap.size≤b
 y:∀ b,Y=some b→Blk W b 108 #[.int .i64 0,.slice none 0 0]∧wb.heap.size≤b
 ne:∀ b c,X=some b→Y=some c→b≠c
 f:∀ p,F=some p→OwnW W p.1 zf.length p.2 zf
 g:∀ p,G=some p→OwnW W p.1 zt.length p.2 zt
section
variable {wb W W':World} {n:Nat} {zf zt:List Nat} {X Y:Option Nat} {F G:Option (Option Addr × Nat)} {A:Option Addr} {C:Nat}
theorem GV.start (wb:World) (n:Nat) (zf zt:List Nat):GV wb wb n zf zt none none none none:=⟨Frm.refl _ _,(fun _ h=>by cases h),(fun _ h=>by cases h),(fun _ _ h=>by cases h),(fun _ h=>by cases h),(fun _ h=>by cases h)⟩
theorem GV.later (h:GV wb W n zf zt X Y F G) (hs:Same W W'):GV wb W' n zf zt X Y F G :=
 ⟨h.s.trans hs (fun _ _ h=>h),fun b hb=>⟨(h.x b hb).1.frm hs id,(h.x b hb).2⟩,fun b hb=>⟨(h.y b hb).1.frm hs id,(h.y b hb).2⟩,h.ne,fun p hp=>(h.f p hp).frm hs (fun _ _=>id),fun p hp=>(h.g p hp).frm hs (fun _ _=>id)⟩
theorem GV.callF (h:GV wb W n zf zt X Y none G) (hn:NewT W zf A C W'):GV wb W' n zf zt X Y (some (A,C)) G :=
 let k:=h.later hn.2.2
 ⟨k.s,k.x,k.y,k.ne,fun p hp=>by injection hp with hp;subst hp;exact hn.1,k.g⟩
theorem GV.callT (h:GV wb W n zf zt X Y F none) (hn:NewT W zt A C W'):GV wb W' n zf zt X Y F (some (A,C)) :=
 let k:=h.later hn.2.2
 ⟨k.s,k.x,k.y,k.ne,k.f,fun p hp=>by injection hp with hp;subst hp;exact hn.1⟩
theorem GV.allocX (h:GV wb W n zf zt none Y F G):GV wb (W.alloc (.cells #[.int .i64 0,.slice none 0 0] 108)) n zf zt (some W.heap.size) Y F G :=
 let k:=h.later ((Frm.refl _ W).alloc (.cells #[.int .i64 0,.slice none 0 0] 108))
 ⟨k.s,fun b hb=>by injection hb with hb;subst hb;exact ⟨Blk.new _ _ _,h.s.size⟩,k.y,fun b c hb hc=>by injection hb with hb;have:=(h.y c hc).1.lt;omega,k.f,k.g⟩
theorem GV.allocY (h:GV wb W n zf zt X none F G):GV wb (W.alloc (.cells #[.int .i64 0,.slice none 0 0] 108)) n zf zt X (some W.heap.size) F G :=
 let k:=h.later ((Frm.refl _ W).alloc (.cells #[.int .i64 0,.slice none 0 0] 108))
 ⟨k.s,k.x,fun b hb=>by injection hb with hb;subst hb;exact ⟨Blk.new _ _ _,h.s.size⟩,fun b c hb hc=>by injection hc with hc;have:=(h.x b hb).1.lt;omega,k.f,k.g⟩
theorem GV.xb {x:Nat} (h:GV wb W n zf zt (some x) Y F G):Blk W x 108 #[.int .i64 0,.slice none 0 0]:=(h.x x rfl).1
structure GX (wb W:World) (n:Nat) (zf zt:List Nat) (x y:Nat) (A1 A2:Option Addr) (C1 C2:Nat):Prop where
 s:Same wb W
 xw:wb.heap.size≤x
 xb:Blk W x 108 #[.int .i64 n,.slice A1 zf.length C1]
 yb:Blk W y 108 #[.int .i64 0,.slice none 0 0]
 yw:wb.heap.size≤y
 ne:x≠y
 f:OwnW W A1 zf.length C1 zf
 g:OwnW W A2 zt.length C2 zt
theorem own_off {A:Option Addr} {zs:List Nat} {x:Nat} {cs:Array Value} (h:OwnW W A zs.length C zs) (hb:Blk W x 108 cs) (i:Nat) (u:Value):OwnW (W.setCell ⟨x,i,none⟩ u) A zs.length C zs :=
 h.far (p:=⟨x,i,none⟩) (h.ne_blk hb (by decide)) u
theorem GV.storeX {x y:Nat} {A1 A2:Option Addr} {C1 C2:Nat} (h:GV wb W n zf zt (some x) (some y) (some (A1,C1)) (some (A2,C2))) :
  GX wb ((W.setCell ⟨x,0,none⟩ (.int .i64 n)).setCell ⟨x,1,none⟩ (.slice A1 zf.length C1)) n zf zt x y A1 A2 C1 C2:=by
 have hx:=(h.x x rfl).1
 have hw:=(h.x x rfl).2
 have hy:=(h.y y rfl).1
 have hne:=h.ne x y rfl rfl
 have hx1:=hx.set 0 (.int .i64 n)
 refine ⟨(h.s.setNew _ _ hw).setNew _ _ hw,hw,?_,(hy.far (p:=⟨x,0,none⟩) (fun e=>hne e.symm) _).far (p:=⟨x,1,none⟩) (fun e=>hne e.symm) _,(h.y y rfl).2,hne,own_off (own_off (h.f _ rfl) hx _ _) hx1 _ _,own_off (own_off (h.g _ rfl) hx _ _) hx1 _ _⟩
 have:=hx1.set 1 (.slice A1 zf.length C1)
 simpa using this
theorem GX.storeY {x y:Nat} {A1 A2:Option Addr} {C1 C2:Nat} (h:GX wb W n zf zt x y A1 A2 C1 C2) :
  (x≠y∧wb.heap.size≤x∧wb.heap.size≤y)∧Blk ((W.setCell ⟨y,0,none⟩ (.int .i64 n)).setCell ⟨y,1,none⟩ (.slice A2 zt.length C2)) x 108 #[.int .i64 n,.slice A1 zf.length C1] ∧
   Blk ((W.setCell ⟨y,0,none⟩ (.int .i64 n)).setCell ⟨y,1,none⟩ (.slice A2 zt.length C2)) y 108 #[.int .i64 n,.slice A2 zt.length C2] ∧
   OwnW ((W.setCell ⟨y,0,none⟩ (.int .i64 n)).setCell ⟨y,1,none⟩ (.slice A2 zt.length C2)) A1 zf.length C1 zf∧OwnW ((W.setCell ⟨y,0,none⟩ (.int .i64 n)).setCell ⟨y,1,none⟩ (.slice A2 zt.length C2)) A2 zt.length C2 zt ∧
   Same wb ((W.setCell ⟨y,0,none⟩ (.int .i64 n)).setCell ⟨y,1,none⟩ (.slice A2 zt.length C2)):=by
 have hy1:=h.yb.set 0 (.int .i64 n)
 refine ⟨⟨h.ne,h.xw,h.yw⟩,(h.xb.far (p:=⟨y,0,none⟩) h.ne _).far (p:=⟨y,1,none⟩) h.ne _,?_,own_off (own_off h.f h.yb _ _) hy1 _ _,own_off (own_off h.g h.yb _ _) hy1 _ _,(h.s.setNew _ _ h.yw).setNew _ _ h.yw⟩
 have:=hy1.set 1 (.slice A2 zt.length C2)
 simpa using this
end
section
variable {w w':World} {n:Nat} {A:Option Addr} {C:Nat} {ts:List Tb} {t:Tb} {lo:Nat}
structure GQ (w0 W:World) (n:Nat) (A:Option Addr) (C:Nat) (us:List Tb) (X Y:Nat) (tf tt:Tb):Prop where
 tn:TN w0.heap.size W n A C us
 s:Same w0 W
 x:Blk W X 108 #[.int .i64 n,.slice tf.A tf.ws.length tf.C]
 y:Blk W Y 108 #[.int .i64 n,.slice tt.A tt.ws.length tt.C]
 ap:∀ b,rowOf A b→b≠X∧b≠Y
 tf:TW W n tf
 tt:TW W n tt
theorem GQ.later {w0 W W':World} {us:List Tb} {X Y:Nat} {tf tt:Tb} (h:GQ w0 W n A C us X Y tf tt) (hs:Same W W'):GQ w0 W' n A C us X Y tf tt :=
 ⟨h.tn.same hs,h.s.trans hs (fun _ _ h=>h),h.x.frm hs id,h.y.frm hs id,h.ap,h.tf.same hs,h.tt.same hs⟩
theorem GQ.push {w0 W wb:World} {us:List Tb} {X Y g cap N:Nat} {tf tt t:Tb} (h:GQ w0 W n A C us X Y tf tt) (ht:TW W n t) (hN:N=us.length) (hO:Go.Tk.Own wb 108 2 Tb.cells (some ⟨g,0,none⟩) (N+1) cap (us ++ [t])) (hg:W.grownBy wb (Value.slice A N C).ownBlock)
  (hat:(Value.slice A N C).ownBlock=some g∨g=W.heap.size)  :GQ w0 wb n (some ⟨g,0,none⟩) cap (us ++ [t]) X Y tf tt:=by
 subst hN
 have kp:∀ u,TW W n u→TW wb n u:=fun u hu=>⟨hu.N,hu.own.keptBy hg (fun b hb hA=>h.tn.own.ne_own hu.own (by decide) b (ownBlock_row.1 hb) hA),hu.fm,hu.sm⟩
 obtain ⟨h1,h2⟩:=h.tn.push ht hO hg hat h.s.size
 refine ⟨h1,h2 w0 h.s rfl,h.x.grown hg (fun hb=>(h.ap X (ownBlock_row.1 hb.symm)).1 rfl),h.y.grown hg (fun hb=>(h.ap Y (ownBlock_row.1 hb.symm)).2 rfl),?_,kp _ h.tf,kp _ h.tt⟩
 rintro b ⟨a,ha,rfl⟩
 injection ha with ha
 subst ha
 rcases hat with h3 | h3
 ·exact h.ap g (ownBlock_row.1 h3)
 ·have:=h.x.lt
  have:=h.y.lt
  simp only
  omega
theorem addN_in {l:List (List Nat)} {z:List Nat} (h:decide (z∈l)=true):addN l z=l:=by unfold addN;rw [if_pos (of_decide_eq_true h)]
theorem addN_out {l:List (List Nat)} {z:List Nat} (h:decide (z∈l)=false):addN l z=l ++ [z]:=by unfold addN;rw [if_neg (of_decide_eq_false h)]
theorem given5_any (hL:TL w n A ts) (v:Nat) (hv:v < n) (hl:ts.length≤500000000000) (hn16:n≤16) :
  Calls Tryz.prog 130 #[.slice A ts.length C,.int .i64 v] w fun e w'=>∃ A' C' us,e=.returned (.slice A' us.length C')∧TN w.heap.size w' n A' C' us∧us.map Tb.ws=givenL n (ts.map Tb.ws) v∧us.length≤2 * ts.length∧Same w w':=by
 have HL:=Lib.hid hL
 clear hL
 go_enter Tryz.func130,Tryz.ntmps130
 go_wp2_with (fail)
 go_loopw [12,5] (fun i v' wr=>∃ (k:Nat) (A':Option Addr) (C':Nat) (us:List Tb),k≤ts.length∧i=.int .i64 k∧v'=.slice A' us.length C'∧TN w.heap.size wr n A' C' us∧us.map Tb.ws=givenL n ((ts.take k).map Tb.ws) v∧us.length≤2 * k∧Same w wr) (fun i _ _=>ts.length - (intOf i).toNat)
 case atStart=>exact ⟨0,none,0,[],by omega,rfl,rfl,TN.nil _ _ _,rfl,Nat.le_refl _,Frm.refl _ _⟩
 case round =>
  obtain ⟨k,A',C',us,hk,rfl,rfl,hN,hus,hul,hS⟩:=hrel
  by_cases hlt:k < ts.length
  ·obtain ⟨t,ht⟩:∃ t,ts[k]?=some t:=⟨_,List.getElem?_eq_getElem hlt⟩
   have hL:=HL.out.same hS
   have htw:=hL.tw t (List.mem_of_getElem? ht)
   obtain ⟨b,off,rfl,hb,c0,c1⟩:=hL.at ht
   have hI:(k:Int) < (ts.length:Int):=by omega
   have htN:=htw.N
   have hcf:=fun (bb:Bool) w' (hw:Same wr w')=>cof5_any n v bb t.A t.C t.ws w' (by have:=(htw.same hw).ok;rw [show t=⟨t.N,t.A,t.C,t.ws⟩ from rfl,htw.N] at this;exact this) htw.fm hv
   rw [htN] at c0
   have HCF:=Lib.hid hcf
   have HN:=Lib.hid hN
   have HU:=Lib.hid hus
   have HS:=Lib.hid hS
   have HT:=Lib.hid ht
   clear hL htw hN hus hS ht htN hcf
   go_upto_region 5 with fail
   refine wp_world fun w1 hw1=>?_
   have hX:=Blk.new wr 108 #[.int .i64 n,.slice t.A t.ws.length t.C]
   have hs1:Same wr w1:=by rw [hw1];exact (Frm.refl _ _).alloc _
   rw [← hw1] at hX
   clear hw1
   have x0:=hX.cell 0
   have x1:=hX.cell 1
   have hxl:=hX.lt
   simp at x0 x1
   have HX:=Lib.hid hX
   have HS1:=Lib.hid hs1
   clear hX hs1
   go_cut [8,9] from 16 to 21 (fun s8 s9 wx=>∃ (X Y:Nat) (Af At:Option Addr) (Cf Ct:Nat),s8=.pointer (some ⟨X,0,none⟩)∧s9=.pointer (some ⟨Y,0,none⟩)∧X≠Y∧w1.heap.size≤X∧w1.heap.size≤Y ∧
    Blk wx X 108 #[.int .i64 n,.slice Af (tab n (hfF v false t.ws)).length Cf]∧Blk wx Y 108 #[.int .i64 n,.slice At (tab n (hfF v true t.ws)).length Ct] ∧
    OwnW wx Af (tab n (hfF v false t.ws)).length Cf (tab n (hfF v false t.ws))∧OwnW wx At (tab n (hfF v true t.ws)).length Ct (tab n (hfF v true t.ws))∧Same w1 wx)
   case first =>
    refine wp_fS (fun _=>False) (.q [0,1,3,4] (.br 2 (.br 5 (.br 6 (.br 7 (.br 8 (.last 9) .stop) .stop) (.br 7 (.br 6 (.br 8 (.last 9) .stop) .stop) .stop)) (.br 6 (.br 5 (.br 7 (.br 8 (.last 9) .stop) .stop) (.br 7 (.br 5 (.br 8 (.last 9) .stop) .stop) .stop)) (.br 7 (.br 5 (.br 6 (.br 8 (.last 9) .stop) .stop) (.br 6 (.br 5 (.br 8 (.last 9) .stop) .stop) .stop)) .stop))) (.br 6 (.br 2 (.br 5 (.br 7 (.br 8 (.last 9) .stop) .stop) (.br 7 (.br 5 (.br 8 (.last 9) .stop) .stop) .stop)) (.br 7 (.br 2 (.br 5 (.br 8 (.last 9) .stop) .stop) .stop) .stop)) (.br 7 (.br 2 (.br 5 (.br 6 (.br 8 (.last 9) .stop) .stop) (.br 6 (.br 5 (.br 8 (.last 9) .stop) .stop) .stop)) (.br 6 (.br 2 (.br 5 (.br 8 (.last 9) .stop) .stop) .stop) .stop)) .stop)))) (by kernel_rfl) (by kernel_rfl) ?_
    simp only [wpF,pick,List.map_cons,List.map_nil,List.getD_cons_zero,List.getD_cons_succ]
    have hx00:¬ False:=id
    repeat (any_goals (first | go_big_quiet_step (fail) | quiet_step (fail)))
    refine wpQuiet_nil ?_
    have hbase:Same w1 w1.drew:=(Frm.refl _ _).drew
    have hG:GV w1.drew w1.drew n (tab n (hfF v false t.ws)) (tab n (hfF v true t.ws)) none none none none:=GV.start _ _ _ _
    generalize w1.drew=wb at *
    have hG0:=hG
    refine ⟨?_,?_,?_⟩
    ·refine effStep_plain rfl fun K hK=>?_
     go_simp
     refine (HCF.out false _ (HS1.out.trans (hbase.trans hG.s (fun _ _ h=>h)) (fun _ _ h=>h))).mono ?_
     rintro e wx1 ⟨A2,C2,rfl,hNT⟩
     have hg:=hG.callF hNT
     refine hK _ _ (Lat.mk_ (hbase.trans hg.s (fun _ _ h=>h))) ?_
     clear hK K hNT hG
     have hG:=hg
     clear hg
     refine ⟨?_,?_,?_⟩
     ·refine effStep_plain rfl fun K hK=>?_
      go_simp
      refine (HCF.out true _ (HS1.out.trans (hbase.trans hG.s (fun _ _ h=>h)) (fun _ _ h=>h))).mono ?_
      rintro e wx2 ⟨A5,C5,rfl,hNT⟩
      have hg:=hG.callT hNT
      refine hK _ _ (Lat.mk_ (hbase.trans hg.s (fun _ _ h=>h))) ?_
      clear hK K hNT hG
      have hG:=hg
      clear hg
      refine ⟨?_,?_⟩
      ·refine effStep_plain rfl fun K hK=>?_
       go_simp
       have hg:=hG.allocX
       refine hK _ _ (Lat.mk_ (hbase.trans hg.s (fun _ _ h=>h))) ?_
       clear hK K hG
       generalize wx2.alloc (.cells #[.int .i64 0,.slice none 0 0] 108)=wx3 at *
       generalize wx2.heap.size=X6 at *
       have hG:=hg
       clear hg
       refine effStep_plain rfl fun K hK=>?_
       go_simp
       have hg:=hG.allocY
       refine hK _ _ (Lat.mk_ (hbase.trans hg.s (fun _ _ h=>h))) ?_
       clear hK K hG
       generalize wx3.alloc (.cells #[.int .i64 0,.slice none 0 0] 108)=wx4 at *
       generalize wx3.heap.size=X7 at *
       have hG:=hg
       clear hg
       have hx0:=hG.xb.cell 0
       have hx1:=hG.xb.cell 1
       have fx0:=hG.xb.free 0
       have fx1:=hG.xb.free 1
       have hxl:=hG.xb.lt
       simp at hx0 hx1
       refine effStep_plain rfl fun K hK=>?_
       go_simp
       have hg:=hG.storeX
       refine hK _ _ (Lat.mk_ (hbase.trans hg.s (fun _ _ h=>h))) ?_
       clear hK K hx0 hx1 fx0 fx1 hxl
       generalize (wx4.setCell ⟨X6,0,none⟩ (.int .i64 n)).setCell ⟨X6,1,none⟩ (.slice A2 (tab n (hfF v false t.ws)).length C2)=WL at *
       have hy0:=hg.yb.cell 0
       have hy1:=hg.yb.cell 1
       have fy0:=hg.yb.free 0
       have fy1:=hg.yb.free 1
       have hyl:=hg.yb.lt
       simp at hy0 hy1
       have hfin:=hg.storeY
       have HFIN:=Lib.hid hfin
       clear hfin hg hG
       go_wp2_with fail
       go_meet
       exact ⟨X6,X7,A2,A5,C2,C5,rfl,rfl,HFIN.out.1.1,Nat.le_trans hbase.size HFIN.out.1.2.1,Nat.le_trans hbase.size HFIN.out.1.2.2,HFIN.out.2.1,HFIN.out.2.2.1,HFIN.out.2.2.2.1,HFIN.out.2.2.2.2.1,hbase.trans HFIN.out.2.2.2.2.2 (fun _ _ h=>h)⟩
      ·refine effStep_plain rfl fun K hK=>?_
       go_simp
       have hg:=hG.allocY
       refine hK _ _ (Lat.mk_ (hbase.trans hg.s (fun _ _ h=>h))) ?_
       clear hK K hG
       generalize wx2.alloc (.cells #[.int .i64 0,.slice none 0 0] 108)=wx5 at *
       generalize wx2.heap.size=X7 at *
       have hG:=hg
       clear hg
       refine effStep_plain rfl fun K hK=>?_
       go_simp
       have hg:=hG.allocX
       refine hK _ _ (Lat.mk_ (hbase.trans hg.s (fun _ _ h=>h))) ?_
       clear hK K hG
       generalize wx5.alloc (.cells #[.int .i64 0,.slice none 0 0] 108)=wx6 at *
       generalize wx5.heap.size=X6 at *
       have hG:=hg
       clear hg
       have hx0:=hG.xb.cell 0
       have hx1:=hG.xb.cell 1
       have fx0:=hG.xb.free 0
       have fx1:=hG.xb.free 1
       have hxl:=hG.xb.lt
       simp at hx0 hx1
       refine effStep_plain rfl fun K hK=>?_
       go_simp
       have hg:=hG.storeX
       refine hK _ _ (Lat.mk_ (hbase.trans hg.s (fun _ _ h=>h))) ?_
       clear hK K hx0 hx1 fx0 fx1 hxl
       generalize (wx6.setCell ⟨X6,0,none⟩ (.int .i64 n)).setCell ⟨X6,1,none⟩ (.slice A2 (tab n (hfF v false t.ws)).length C2)=WL at *
       have hy0:=hg.yb.cell 0
       have hy1:=hg.yb.cell 1
       have fy0:=hg.yb.free 0
       have fy1:=hg.yb.free 1
       have hyl:=hg.yb.lt
       simp at hy0 hy1
       have hfin:=hg.storeY
       have HFIN:=Lib.hid hfin
       clear hfin hg hG
       go_wp2_with fail
       go_meet
       exact ⟨X6,X7,A2,A5,C2,C5,rfl,rfl,HFIN.out.1.1,Nat.le_trans hbase.size HFIN.out.1.2.1,Nat.le_trans hbase.size HFIN.out.1.2.2,HFIN.out.2.1,HFIN.out.2.2.1,HFIN.out.2.2.2.1,HFIN.out.2.2.2.2.1,hbase.trans HFIN.out.2.2.2.2.2 (fun _ _ h=>h)⟩
     ·refine effStep_plain rfl fun K hK=>?_
      go_simp
      have hg:=hG.allocX
      refine hK _ _ (Lat.mk_ (hbase.trans hg.s (fun _ _ h=>h))) ?_
      clear hK K hG
      generalize wx1.alloc (.cells #[.int .i64 0,.slice none 0 0] 108)=wx7 at *
      generalize wx1.heap.size=X6 at *
      have hG:=hg
      clear hg
      refine ⟨?_,?_⟩
      ·refine effStep_plain rfl fun K hK=>?_
       go_simp
       refine (HCF.out true _ (HS1.out.trans (hbase.trans hG.s (fun _ _ h=>h)) (fun _ _ h=>h))).mono ?_
       rintro e wx8 ⟨A5,C5,rfl,hNT⟩
       have hg:=hG.callT hNT
       refine hK _ _ (Lat.mk_ (hbase.trans hg.s (fun _ _ h=>h))) ?_
       clear hK K hNT hG
       have hG:=hg
       clear hg
       refine effStep_plain rfl fun K hK=>?_
       go_simp
       have hg:=hG.allocY
       refine hK _ _ (Lat.mk_ (hbase.trans hg.s (fun _ _ h=>h))) ?_
       clear hK K hG
       generalize wx8.alloc (.cells #[.int .i64 0,.slice none 0 0] 108)=wx9 at *
       generalize wx8.heap.size=X7 at *
       have hG:=hg
       clear hg
       have hx0:=hG.xb.cell 0
       have hx1:=hG.xb.cell 1
       have fx0:=hG.xb.free 0
       have fx1:=hG.xb.free 1
       have hxl:=hG.xb.lt
       simp at hx0 hx1
       refine effStep_plain rfl fun K hK=>?_
       go_simp
       have hg:=hG.storeX
       refine hK _ _ (Lat.mk_ (hbase.trans hg.s (fun _ _ h=>h))) ?_
       clear hK K hx0 hx1 fx0 fx1 hxl
       generalize (wx9.setCell ⟨X6,0,none⟩ (.int .i64 n)).setCell ⟨X6,1,none⟩ (.slice A2 (tab n (hfF v false t.ws)).length C2)=WL at *
       have hy0:=hg.yb.cell 0
       have hy1:=hg.yb.cell 1
       have fy0:=hg.yb.free 0
       have fy1:=hg.yb.free 1
       have hyl:=hg.yb.lt
       simp at hy0 hy1
       have hfin:=hg.storeY
       have HFIN:=Lib.hid hfin
       clear hfin hg hG
       go_wp2_with fail
       go_meet
       exact ⟨X6,X7,A2,A5,C2,C5,rfl,rfl,HFIN.out.1.1,Nat.le_trans hbase.size HFIN.out.1.2.1,Nat.le_trans hbase.size HFIN.out.1.2.2,HFIN.out.2.1,HFIN.out.2.2.1,HFIN.out.2.2.2.1,HFIN.out.2.2.2.2.1,hbase.trans HFIN.out.2.2.2.2.2 (fun _ _ h=>h)⟩
      ·refine effStep_plain rfl fun K hK=>?_
       go_simp
       have hg:=hG.allocY
       refine hK _ _ (Lat.mk_ (hbase.trans hg.s (fun _ _ h=>h))) ?_
       clear hK K hG
       generalize wx7.alloc (.cells #[.int .i64 0,.slice none 0 0] 108)=wx10 at *
       generalize wx7.heap.size=X7 at *
       have hG:=hg
       clear hg
       refine effStep_plain rfl fun K hK=>?_
       go_simp
       refine (HCF.out true _ (HS1.out.trans (hbase.trans hG.s (fun _ _ h=>h)) (fun _ _ h=>h))).mono ?_
       rintro e wx11 ⟨A5,C5,rfl,hNT⟩
       have hg:=hG.callT hNT
       refine hK _ _ (Lat.mk_ (hbase.trans hg.s (fun _ _ h=>h))) ?_
       clear hK K hNT hG
       have hG:=hg
       clear hg
       have hx0:=hG.xb.cell 0
       have hx1:=hG.xb.cell 1
       have fx0:=hG.xb.free 0
       have fx1:=hG.xb.free 1
       have hxl:=hG.xb.lt
       simp at hx0 hx1
       refine effStep_plain rfl fun K hK=>?_
       go_simp
       have hg:=hG.storeX
       refine hK _ _ (Lat.mk_ (hbase.trans hg.s (fun _ _ h=>h))) ?_
       clear hK K hx0 hx1 fx0 fx1 hxl
       generalize (wx11.setCell ⟨X6,0,none⟩ (.int .i64 n)).setCell ⟨X6,1,none⟩ (.slice A2 (tab n (hfF v false t.ws)).length C2)=WL at *
       have hy0:=hg.yb.cell 0
       have hy1:=hg.yb.cell 1
       have fy0:=hg.yb.free 0
       have fy1:=hg.yb.free 1
       have hyl:=hg.yb.lt
       simp at hy0 hy1
       have hfin:=hg.storeY
       have HFIN:=Lib.hid hfin
       clear hfin hg hG
       go_wp2_with fail
       go_meet
       exact ⟨X6,X7,A2,A5,C2,C5,rfl,rfl,HFIN.out.1.1,Nat.le_trans hbase.size HFIN.out.1.2.1,Nat.le_trans hbase.size HFIN.out.1.2.2,HFIN.out.2.1,HFIN.out.2.2.1,HFIN.out.2.2.2.1,HFIN.out.2.2.2.2.1,hbase.trans HFIN.out.2.2.2.2.2 (fun _ _ h=>h)⟩
     ·refine effStep_plain rfl fun K hK=>?_
      go_simp
      have hg:=hG.allocY
      refine hK _ _ (Lat.mk_ (hbase.trans hg.s (fun _ _ h=>h))) ?_
      clear hK K hG
      generalize wx1.alloc (.cells #[.int .i64 0,.slice none 0 0] 108)=wx12 at *
      generalize wx1.heap.size=X7 at *
      have hG:=hg
      clear hg
      refine ⟨?_,?_⟩
      ·refine effStep_plain rfl fun K hK=>?_
       go_simp
       refine (HCF.out true _ (HS1.out.trans (hbase.trans hG.s (fun _ _ h=>h)) (fun _ _ h=>h))).mono ?_
       rintro e wx13 ⟨A5,C5,rfl,hNT⟩
       have hg:=hG.callT hNT
       refine hK _ _ (Lat.mk_ (hbase.trans hg.s (fun _ _ h=>h))) ?_
       clear hK K hNT hG
       have hG:=hg
       clear hg
       refine effStep_plain rfl fun K hK=>?_
       go_simp
       have hg:=hG.allocX
       refine hK _ _ (Lat.mk_ (hbase.trans hg.s (fun _ _ h=>h))) ?_
       clear hK K hG
       generalize wx13.alloc (.cells #[.int .i64 0,.slice none 0 0] 108)=wx14 at *
       generalize wx13.heap.size=X6 at *
       have hG:=hg
       clear hg
       have hx0:=hG.xb.cell 0
       have hx1:=hG.xb.cell 1
       have fx0:=hG.xb.free 0
       have fx1:=hG.xb.free 1
       have hxl:=hG.xb.lt
       simp at hx0 hx1
       refine effStep_plain rfl fun K hK=>?_
       go_simp
       have hg:=hG.storeX
       refine hK _ _ (Lat.mk_ (hbase.trans hg.s (fun _ _ h=>h))) ?_
       clear hK K hx0 hx1 fx0 fx1 hxl
       generalize (wx14.setCell ⟨X6,0,none⟩ (.int .i64 n)).setCell ⟨X6,1,none⟩ (.slice A2 (tab n (hfF v false t.ws)).length C2)=WL at *
       have hy0:=hg.yb.cell 0
       have hy1:=hg.yb.cell 1
       have fy0:=hg.yb.free 0
       have fy1:=hg.yb.free 1
       have hyl:=hg.yb.lt
       simp at hy0 hy1
       have hfin:=hg.storeY
       have HFIN:=Lib.hid hfin
       clear hfin hg hG
       go_wp2_with fail
       go_meet
       exact ⟨X6,X7,A2,A5,C2,C5,rfl,rfl,HFIN.out.1.1,Nat.le_trans hbase.size HFIN.out.1.2.1,Nat.le_trans hbase.size HFIN.out.1.2.2,HFIN.out.2.1,HFIN.out.2.2.1,HFIN.out.2.2.2.1,HFIN.out.2.2.2.2.1,hbase.trans HFIN.out.2.2.2.2.2 (fun _ _ h=>h)⟩
      ·refine effStep_plain rfl fun K hK=>?_
       go_simp
       have hg:=hG.allocX
       refine hK _ _ (Lat.mk_ (hbase.trans hg.s (fun _ _ h=>h))) ?_
       clear hK K hG
       generalize wx12.alloc (.cells #[.int .i64 0,.slice none 0 0] 108)=wx15 at *
       generalize wx12.heap.size=X6 at *
       have hG:=hg
       clear hg
       refine effStep_plain rfl fun K hK=>?_
       go_simp
       refine (HCF.out true _ (HS1.out.trans (hbase.trans hG.s (fun _ _ h=>h)) (fun _ _ h=>h))).mono ?_
       rintro e wx16 ⟨A5,C5,rfl,hNT⟩
       have hg:=hG.callT hNT
       refine hK _ _ (Lat.mk_ (hbase.trans hg.s (fun _ _ h=>h))) ?_
       clear hK K hNT hG
       have hG:=hg
       clear hg
       have hx0:=hG.xb.cell 0
       have hx1:=hG.xb.cell 1
       have fx0:=hG.xb.free 0
       have fx1:=hG.xb.free 1
       have hxl:=hG.xb.lt
       simp at hx0 hx1
       refine effStep_plain rfl fun K hK=>?_
       go_simp
       have hg:=hG.storeX
       refine hK _ _ (Lat.mk_ (hbase.trans hg.s (fun _ _ h=>h))) ?_
       clear hK K hx0 hx1 fx0 fx1 hxl
       generalize (wx16.setCell ⟨X6,0,none⟩ (.int .i64 n)).setCell ⟨X6,1,none⟩ (.slice A2 (tab n (hfF v false t.ws)).length C2)=WL at *
       have hy0:=hg.yb.cell 0
       have hy1:=hg.yb.cell 1
       have fy0:=hg.yb.free 0
       have fy1:=hg.yb.free 1
       have hyl:=hg.yb.lt
       simp at hy0 hy1
       have hfin:=hg.storeY
       have HFIN:=Lib.hid hfin
       clear hfin hg hG
       go_wp2_with fail
       go_meet
       exact ⟨X6,X7,A2,A5,C2,C5,rfl,rfl,HFIN.out.1.1,Nat.le_trans hbase.size HFIN.out.1.2.1,Nat.le_trans hbase.size HFIN.out.1.2.2,HFIN.out.2.1,HFIN.out.2.2.1,HFIN.out.2.2.2.1,HFIN.out.2.2.2.2.1,hbase.trans HFIN.out.2.2.2.2.2 (fun _ _ h=>h)⟩
    ·refine effStep_plain rfl fun K hK=>?_
     go_simp
     have hg:=hG.allocX
     refine hK _ _ (Lat.mk_ (hbase.trans hg.s (fun _ _ h=>h))) ?_
     clear hK K hG
     generalize wb.alloc (.cells #[.int .i64 0,.slice none 0 0] 108)=wx17 at *
     generalize wb.heap.size=X6 at *
     have hG:=hg
     clear hg
     refine ⟨?_,?_⟩
     ·refine effStep_plain rfl fun K hK=>?_
      go_simp
      refine (HCF.out false _ (HS1.out.trans (hbase.trans hG.s (fun _ _ h=>h)) (fun _ _ h=>h))).mono ?_
      rintro e wx18 ⟨A2,C2,rfl,hNT⟩
      have hg:=hG.callF hNT
      refine hK _ _ (Lat.mk_ (hbase.trans hg.s (fun _ _ h=>h))) ?_
      clear hK K hNT hG
      have hG:=hg
      clear hg
      refine ⟨?_,?_⟩
      ·refine effStep_plain rfl fun K hK=>?_
       go_simp
       refine (HCF.out true _ (HS1.out.trans (hbase.trans hG.s (fun _ _ h=>h)) (fun _ _ h=>h))).mono ?_
       rintro e wx19 ⟨A5,C5,rfl,hNT⟩
       have hg:=hG.callT hNT
       refine hK _ _ (Lat.mk_ (hbase.trans hg.s (fun _ _ h=>h))) ?_
       clear hK K hNT hG
       have hG:=hg
       clear hg
       refine effStep_plain rfl fun K hK=>?_
       go_simp
       have hg:=hG.allocY
       refine hK _ _ (Lat.mk_ (hbase.trans hg.s (fun _ _ h=>h))) ?_
       clear hK K hG
       generalize wx19.alloc (.cells #[.int .i64 0,.slice none 0 0] 108)=wx20 at *
       generalize wx19.heap.size=X7 at *
       have hG:=hg
       clear hg
       have hx0:=hG.xb.cell 0
       have hx1:=hG.xb.cell 1
       have fx0:=hG.xb.free 0
       have fx1:=hG.xb.free 1
       have hxl:=hG.xb.lt
       simp at hx0 hx1
       refine effStep_plain rfl fun K hK=>?_
       go_simp
       have hg:=hG.storeX
       refine hK _ _ (Lat.mk_ (hbase.trans hg.s (fun _ _ h=>h))) ?_
       clear hK K hx0 hx1 fx0 fx1 hxl
       generalize (wx20.setCell ⟨X6,0,none⟩ (.int .i64 n)).setCell ⟨X6,1,none⟩ (.slice A2 (tab n (hfF v false t.ws)).length C2)=WL at *
       have hy0:=hg.yb.cell 0
       have hy1:=hg.yb.cell 1
       have fy0:=hg.yb.free 0
       have fy1:=hg.yb.free 1
       have hyl:=hg.yb.lt
       simp at hy0 hy1
       have hfin:=hg.storeY
       have HFIN:=Lib.hid hfin
       clear hfin hg hG
       go_wp2_with fail
       go_meet
       exact ⟨X6,X7,A2,A5,C2,C5,rfl,rfl,HFIN.out.1.1,Nat.le_trans hbase.size HFIN.out.1.2.1,Nat.le_trans hbase.size HFIN.out.1.2.2,HFIN.out.2.1,HFIN.out.2.2.1,HFIN.out.2.2.2.1,HFIN.out.2.2.2.2.1,hbase.trans HFIN.out.2.2.2.2.2 (fun _ _ h=>h)⟩
      ·refine effStep_plain rfl fun K hK=>?_
       go_simp
       have hg:=hG.allocY
       refine hK _ _ (Lat.mk_ (hbase.trans hg.s (fun _ _ h=>h))) ?_
       clear hK K hG
       generalize wx18.alloc (.cells #[.int .i64 0,.slice none 0 0] 108)=wx21 at *
       generalize wx18.heap.size=X7 at *
       have hG:=hg
       clear hg
       refine effStep_plain rfl fun K hK=>?_
       go_simp
       refine (HCF.out true _ (HS1.out.trans (hbase.trans hG.s (fun _ _ h=>h)) (fun _ _ h=>h))).mono ?_
       rintro e wx22 ⟨A5,C5,rfl,hNT⟩
       have hg:=hG.callT hNT
       refine hK _ _ (Lat.mk_ (hbase.trans hg.s (fun _ _ h=>h))) ?_
       clear hK K hNT hG
       have hG:=hg
       clear hg
       have hx0:=hG.xb.cell 0
       have hx1:=hG.xb.cell 1
       have fx0:=hG.xb.free 0
       have fx1:=hG.xb.free 1
       have hxl:=hG.xb.lt
       simp at hx0 hx1
       refine effStep_plain rfl fun K hK=>?_
       go_simp
       have hg:=hG.storeX
       refine hK _ _ (Lat.mk_ (hbase.trans hg.s (fun _ _ h=>h))) ?_
       clear hK K hx0 hx1 fx0 fx1 hxl
       generalize (wx22.setCell ⟨X6,0,none⟩ (.int .i64 n)).setCell ⟨X6,1,none⟩ (.slice A2 (tab n (hfF v false t.ws)).length C2)=WL at *
       have hy0:=hg.yb.cell 0
       have hy1:=hg.yb.cell 1
       have fy0:=hg.yb.free 0
       have fy1:=hg.yb.free 1
       have hyl:=hg.yb.lt
       simp at hy0 hy1
       have hfin:=hg.storeY
       have HFIN:=Lib.hid hfin
       clear hfin hg hG
       go_wp2_with fail
       go_meet
       exact ⟨X6,X7,A2,A5,C2,C5,rfl,rfl,HFIN.out.1.1,Nat.le_trans hbase.size HFIN.out.1.2.1,Nat.le_trans hbase.size HFIN.out.1.2.2,HFIN.out.2.1,HFIN.out.2.2.1,HFIN.out.2.2.2.1,HFIN.out.2.2.2.2.1,hbase.trans HFIN.out.2.2.2.2.2 (fun _ _ h=>h)⟩
     ·refine effStep_plain rfl fun K hK=>?_
      go_simp
      have hg:=hG.allocY
      refine hK _ _ (Lat.mk_ (hbase.trans hg.s (fun _ _ h=>h))) ?_
      clear hK K hG
      generalize wx17.alloc (.cells #[.int .i64 0,.slice none 0 0] 108)=wx23 at *
      generalize wx17.heap.size=X7 at *
      have hG:=hg
      clear hg
      refine effStep_plain rfl fun K hK=>?_
      go_simp
      refine (HCF.out false _ (HS1.out.trans (hbase.trans hG.s (fun _ _ h=>h)) (fun _ _ h=>h))).mono ?_
      rintro e wx24 ⟨A2,C2,rfl,hNT⟩
      have hg:=hG.callF hNT
      refine hK _ _ (Lat.mk_ (hbase.trans hg.s (fun _ _ h=>h))) ?_
      clear hK K hNT hG
      have hG:=hg
      clear hg
      refine effStep_plain rfl fun K hK=>?_
      go_simp
      refine (HCF.out true _ (HS1.out.trans (hbase.trans hG.s (fun _ _ h=>h)) (fun _ _ h=>h))).mono ?_
      rintro e wx25 ⟨A5,C5,rfl,hNT⟩
      have hg:=hG.callT hNT
      refine hK _ _ (Lat.mk_ (hbase.trans hg.s (fun _ _ h=>h))) ?_
      clear hK K hNT hG
      have hG:=hg
      clear hg
      have hx0:=hG.xb.cell 0
      have hx1:=hG.xb.cell 1
      have fx0:=hG.xb.free 0
      have fx1:=hG.xb.free 1
      have hxl:=hG.xb.lt
      simp at hx0 hx1
      refine effStep_plain rfl fun K hK=>?_
      go_simp
      have hg:=hG.storeX
      refine hK _ _ (Lat.mk_ (hbase.trans hg.s (fun _ _ h=>h))) ?_
      clear hK K hx0 hx1 fx0 fx1 hxl
      generalize (wx25.setCell ⟨X6,0,none⟩ (.int .i64 n)).setCell ⟨X6,1,none⟩ (.slice A2 (tab n (hfF v false t.ws)).length C2)=WL at *
      have hy0:=hg.yb.cell 0
      have hy1:=hg.yb.cell 1
      have fy0:=hg.yb.free 0
      have fy1:=hg.yb.free 1
      have hyl:=hg.yb.lt
      simp at hy0 hy1
      have hfin:=hg.storeY
      have HFIN:=Lib.hid hfin
      clear hfin hg hG
      go_wp2_with fail
      go_meet
      exact ⟨X6,X7,A2,A5,C2,C5,rfl,rfl,HFIN.out.1.1,Nat.le_trans hbase.size HFIN.out.1.2.1,Nat.le_trans hbase.size HFIN.out.1.2.2,HFIN.out.2.1,HFIN.out.2.2.1,HFIN.out.2.2.2.1,HFIN.out.2.2.2.2.1,hbase.trans HFIN.out.2.2.2.2.2 (fun _ _ h=>h)⟩
    ·refine effStep_plain rfl fun K hK=>?_
     go_simp
     have hg:=hG.allocY
     refine hK _ _ (Lat.mk_ (hbase.trans hg.s (fun _ _ h=>h))) ?_
     clear hK K hG
     generalize wb.alloc (.cells #[.int .i64 0,.slice none 0 0] 108)=wx26 at *
     generalize wb.heap.size=X7 at *
     have hG:=hg
     clear hg
     refine ⟨?_,?_⟩
     ·refine effStep_plain rfl fun K hK=>?_
      go_simp
      refine (HCF.out false _ (HS1.out.trans (hbase.trans hG.s (fun _ _ h=>h)) (fun _ _ h=>h))).mono ?_
      rintro e wx27 ⟨A2,C2,rfl,hNT⟩
      have hg:=hG.callF hNT
      refine hK _ _ (Lat.mk_ (hbase.trans hg.s (fun _ _ h=>h))) ?_
      clear hK K hNT hG
      have hG:=hg
      clear hg
      refine ⟨?_,?_⟩
      ·refine effStep_plain rfl fun K hK=>?_
       go_simp
       refine (HCF.out true _ (HS1.out.trans (hbase.trans hG.s (fun _ _ h=>h)) (fun _ _ h=>h))).mono ?_
       rintro e wx28 ⟨A5,C5,rfl,hNT⟩
       have hg:=hG.callT hNT
       refine hK _ _ (Lat.mk_ (hbase.trans hg.s (fun _ _ h=>h))) ?_
       clear hK K hNT hG
       have hG:=hg
       clear hg
       refine effStep_plain rfl fun K hK=>?_
       go_simp
       have hg:=hG.allocX
       refine hK _ _ (Lat.mk_ (hbase.trans hg.s (fun _ _ h=>h))) ?_
       clear hK K hG
       generalize wx28.alloc (.cells #[.int .i64 0,.slice none 0 0] 108)=wx29 at *
       generalize wx28.heap.size=X6 at *
       have hG:=hg
       clear hg
       have hx0:=hG.xb.cell 0
       have hx1:=hG.xb.cell 1
       have fx0:=hG.xb.free 0
       have fx1:=hG.xb.free 1
       have hxl:=hG.xb.lt
       simp at hx0 hx1
       refine effStep_plain rfl fun K hK=>?_
       go_simp
       have hg:=hG.storeX
       refine hK _ _ (Lat.mk_ (hbase.trans hg.s (fun _ _ h=>h))) ?_
       clear hK K hx0 hx1 fx0 fx1 hxl
       generalize (wx29.setCell ⟨X6,0,none⟩ (.int .i64 n)).setCell ⟨X6,1,none⟩ (.slice A2 (tab n (hfF v false t.ws)).length C2)=WL at *
       have hy0:=hg.yb.cell 0
       have hy1:=hg.yb.cell 1
       have fy0:=hg.yb.free 0
       have fy1:=hg.yb.free 1
       have hyl:=hg.yb.lt
       simp at hy0 hy1
       have hfin:=hg.storeY
       have HFIN:=Lib.hid hfin
       clear hfin hg hG
       go_wp2_with fail
       go_meet
       exact ⟨X6,X7,A2,A5,C2,C5,rfl,rfl,HFIN.out.1.1,Nat.le_trans hbase.size HFIN.out.1.2.1,Nat.le_trans hbase.size HFIN.out.1.2.2,HFIN.out.2.1,HFIN.out.2.2.1,HFIN.out.2.2.2.1,HFIN.out.2.2.2.2.1,hbase.trans HFIN.out.2.2.2.2.2 (fun _ _ h=>h)⟩
      ·refine effStep_plain rfl fun K hK=>?_
       go_simp
       have hg:=hG.allocX
       refine hK _ _ (Lat.mk_ (hbase.trans hg.s (fun _ _ h=>h))) ?_
       clear hK K hG
       generalize wx27.alloc (.cells #[.int .i64 0,.slice none 0 0] 108)=wx30 at *
       generalize wx27.heap.size=X6 at *
       have hG:=hg
       clear hg
       refine effStep_plain rfl fun K hK=>?_
       go_simp
       refine (HCF.out true _ (HS1.out.trans (hbase.trans hG.s (fun _ _ h=>h)) (fun _ _ h=>h))).mono ?_
       rintro e wx31 ⟨A5,C5,rfl,hNT⟩
       have hg:=hG.callT hNT
       refine hK _ _ (Lat.mk_ (hbase.trans hg.s (fun _ _ h=>h))) ?_
       clear hK K hNT hG
       have hG:=hg
       clear hg
       have hx0:=hG.xb.cell 0
       have hx1:=hG.xb.cell 1
       have fx0:=hG.xb.free 0
       have fx1:=hG.xb.free 1
       have hxl:=hG.xb.lt
       simp at hx0 hx1
       refine effStep_plain rfl fun K hK=>?_
       go_simp
       have hg:=hG.storeX
       refine hK _ _ (Lat.mk_ (hbase.trans hg.s (fun _ _ h=>h))) ?_
       clear hK K hx0 hx1 fx0 fx1 hxl
       generalize (wx31.setCell ⟨X6,0,none⟩ (.int .i64 n)).setCell ⟨X6,1,none⟩ (.slice A2 (tab n (hfF v false t.ws)).length C2)=WL at *
       have hy0:=hg.yb.cell 0
       have hy1:=hg.yb.cell 1
       have fy0:=hg.yb.free 0
       have fy1:=hg.yb.free 1
       have hyl:=hg.yb.lt
       simp at hy0 hy1
       have hfin:=hg.storeY
       have HFIN:=Lib.hid hfin
       clear hfin hg hG
       go_wp2_with fail
       go_meet
       exact ⟨X6,X7,A2,A5,C2,C5,rfl,rfl,HFIN.out.1.1,Nat.le_trans hbase.size HFIN.out.1.2.1,Nat.le_trans hbase.size HFIN.out.1.2.2,HFIN.out.2.1,HFIN.out.2.2.1,HFIN.out.2.2.2.1,HFIN.out.2.2.2.2.1,hbase.trans HFIN.out.2.2.2.2.2 (fun _ _ h=>h)⟩
     ·refine effStep_plain rfl fun K hK=>?_
      go_simp
      have hg:=hG.allocX
      refine hK _ _ (Lat.mk_ (hbase.trans hg.s (fun _ _ h=>h))) ?_
      clear hK K hG
      generalize wx26.alloc (.cells #[.int .i64 0,.slice none 0 0] 108)=wx32 at *
      generalize wx26.heap.size=X6 at *
      have hG:=hg
      clear hg
      refine effStep_plain rfl fun K hK=>?_
      go_simp
      refine (HCF.out false _ (HS1.out.trans (hbase.trans hG.s (fun _ _ h=>h)) (fun _ _ h=>h))).mono ?_
      rintro e wx33 ⟨A2,C2,rfl,hNT⟩
      have hg:=hG.callF hNT
      refine hK _ _ (Lat.mk_ (hbase.trans hg.s (fun _ _ h=>h))) ?_
      clear hK K hNT hG
      have hG:=hg
      clear hg
      refine effStep_plain rfl fun K hK=>?_
      go_simp
      refine (HCF.out true _ (HS1.out.trans (hbase.trans hG.s (fun _ _ h=>h)) (fun _ _ h=>h))).mono ?_
      rintro e wx34 ⟨A5,C5,rfl,hNT⟩
      have hg:=hG.callT hNT
      refine hK _ _ (Lat.mk_ (hbase.trans hg.s (fun _ _ h=>h))) ?_
      clear hK K hNT hG
      have hG:=hg
      clear hg
      have hx0:=hG.xb.cell 0
      have hx1:=hG.xb.cell 1
      have fx0:=hG.xb.free 0
      have fx1:=hG.xb.free 1
      have hxl:=hG.xb.lt
      simp at hx0 hx1
      refine effStep_plain rfl fun K hK=>?_
      go_simp
      have hg:=hG.storeX
      refine hK _ _ (Lat.mk_ (hbase.trans hg.s (fun _ _ h=>h))) ?_
      clear hK K hx0 hx1 fx0 fx1 hxl
      generalize (wx34.setCell ⟨X6,0,none⟩ (.int .i64 n)).setCell ⟨X6,1,none⟩ (.slice A2 (tab n (hfF v false t.ws)).length C2)=WL at *
      have hy0:=hg.yb.cell 0
      have hy1:=hg.yb.cell 1
      have fy0:=hg.yb.free 0
      have fy1:=hg.yb.free 1
      have hyl:=hg.yb.lt
      simp at hy0 hy1
      have hfin:=hg.storeY
      have HFIN:=Lib.hid hfin
      clear hfin hg hG
      go_wp2_with fail
      go_meet
      exact ⟨X6,X7,A2,A5,C2,C5,rfl,rfl,HFIN.out.1.1,Nat.le_trans hbase.size HFIN.out.1.2.1,Nat.le_trans hbase.size HFIN.out.1.2.2,HFIN.out.2.1,HFIN.out.2.2.1,HFIN.out.2.2.2.1,HFIN.out.2.2.2.2.1,hbase.trans HFIN.out.2.2.2.2.2 (fun _ _ h=>h)⟩
   case rest =>
    obtain ⟨X,Y,Af,At,Cf,Ct,rfl,rfl,hXY,hXs,hYs,hXb,hYb,hOf,hOt,hsx⟩:=hcut
    rename World=>w2
    have hstep:givenL n ((ts.take (k+1)).map Tb.ws) v=addN (addN (givenL n ((ts.take k).map Tb.ws) v) (cofT n v false t.ws)) (cofT n v true t.ws):=by
     rw [List.take_add_one,HT.out]
     unfold givenL
     simp
    have HST:=Lib.hid hstep
    have hs2:Same wr w2:=HS1.out.trans hsx (fun _ _ h=>h)
    have hq:GQ w w2 n A' C' us X Y ⟨n,Af,Cf,tab n (hfF v false t.ws)⟩ ⟨n,At,Ct,tab n (hfF v true t.ws)⟩ :=
     ⟨HN.out.same hs2,HS.out.trans hs2 (fun _ _ h=>h),hXb,hYb,fun b hb=>by obtain ⟨ad,had,rfl⟩:=hb;have:=HN.out.own.block ad had;have:=HS1.out.size;omega,⟨rfl,hOf,tab_form hn16,tab_lt⟩,⟨rfl,hOt,tab_form hn16,tab_lt⟩⟩
    have HQ:=Lib.hid hq
    clear hstep hs2 hq hXb hYb hOf hOt hsx HCF HX hXs hYs c0 c1 x0 x1 hxl
    generalize hzf:tab n (hfF v false t.ws)=zf at *
    generalize hzt:tab n (hfF v true t.ws)=zt at *
    have HZF:Hid (cofT n v false t.ws=zf):=Lib.hid hzf
    have HZT:Hid (cofT n v true t.ws=zt):=Lib.hid hzt
    clear hzf hzt
    have hin:=fun w' (hw:Same w2 w')=>in5_any (w:=w') (n:=n) (t:=⟨n,Af,Cf,zf⟩) (C:=C') (HQ.out.tn.tl.same hw) (HQ.out.tf.same hw) (by first | omega | (simp <;> omega))
    unfold Tb.val at hin
    simp only at hin
    obtain ⟨bb1,hbb⟩:∃ bb,decide (zf∈List.map Tb.ws (us))=bb:=⟨_,rfl⟩
    rw [hbb] at hin
    try simp only [List.length_append,List.length_cons,List.length_nil,Nat.zero_add] at hin
    have HIN:=Lib.hid hin
    have HBB1:=Lib.hid hbb
    clear hin hbb
    have x0:=HQ.out.x.cell 0
    have x1:=HQ.out.x.cell 1
    have hxl:=HQ.out.x.lt
    simp at x0 x1
    go_wp2_with (fail)
    refine (HIN.out _ (Frm.refl _ _)).mono ?_
    rintro e v1 ⟨rfl,hs3⟩
    have hq:=HQ.out.later hs3
    have x0:=hq.x.cell 0
    have x1:=hq.x.cell 1
    have hxl:=hq.x.lt
    simp at x0 x1
    have HQ1:=Lib.hid hq
    clear hs3 hq HIN HQ
    cases bb1 with
    | true =>
     have HQ:=HQ1
     clear HQ1
     have hin:=fun w' (hw:Same v1 w')=>in5_any (w:=w') (n:=n) (t:=⟨n,At,Ct,zt⟩) (C:=C') (HQ.out.tn.tl.same hw) (HQ.out.tt.same hw) (by first | omega | (simp <;> omega))
     unfold Tb.val at hin
     simp only at hin
     obtain ⟨bb2,hbb⟩:∃ bb,decide (zt∈List.map Tb.ws (us))=bb:=⟨_,rfl⟩
     rw [hbb] at hin
     try simp only [List.length_append,List.length_cons,List.length_nil,Nat.zero_add] at hin
     have HIN:=Lib.hid hin
     have HBB2:=Lib.hid hbb
     clear hin hbb
     have x0:=HQ.out.y.cell 0
     have x1:=HQ.out.y.cell 1
     have hxl:=HQ.out.y.lt
     simp at x0 x1
     go_wp2_with (fail)
     refine (HIN.out _ (Frm.refl _ _)).mono ?_
     rintro e v2 ⟨rfl,hs3⟩
     have hq:=HQ.out.later hs3
     have x0:=hq.y.cell 0
     have x1:=hq.y.cell 1
     have hxl:=hq.y.lt
     simp at x0 x1
     have HQ2:=Lib.hid hq
     clear hs3 hq HIN HQ
     cases bb2 with
     | true =>
      go_wp2
      go_roundw
      case rel =>
       have e1:givenL n ((ts.take (k+1)).map Tb.ws) v=List.map Tb.ws (us):=by
        have i1:addN (List.map Tb.ws us) zf=List.map Tb.ws (us):=by rw [addN_in HBB1.out];try simp
        have i2:addN (List.map Tb.ws (us)) zt=List.map Tb.ws (us):=by rw [addN_in HBB2.out];try simp
        rw [HST.out,← HU.out,HZF.out,HZT.out,i1,i2]
       exact ⟨k+1,A',C',us,by omega,by go_num,by first | rfl | (simp;done),HQ2.out.tn,e1.symm,by first | omega | (simp <;> omega),HQ2.out.s⟩
      case measure=>simp [intOf] <;> omega
     | false =>
      go_upto_region 9 with fail
      refine wp_read 2 ?_
      simp only [List.take_succ_cons,List.take_zero,List.drop_succ_cons,List.drop_zero]
      repeat (any_goals (first | go_big_quiet_step (fail) | quiet_step (fail)))
      refine wpQuiet_nil ?_
      refine wpList_plain rfl fun K hK=>?_
      go_simp
      refine hK _ _ ?_
      clear hK K
      refine list_world fun wa hwa=>?_
      have hM:=Blk.new v2 108 #[.int .i64 n,.slice At zt.length Ct]
      have hsa:Same v2 wa:=by rw [hwa];exact (Frm.refl _ _).alloc _
      rw [← hwa] at hM
      clear hwa
      have hqa:=HQ2.out.later hsa
      have hown:=hqa.tn.own
      try simp only [List.length_append,List.length_cons,List.length_nil,Nat.zero_add] at hown
      refine Own.append_list rfl (.tmp 34) (.tmp 36) _ rfl Tryz.underlying55 info_tbl rfl (by omega) rfl hown Tb.cells_len ⟨n,At,Ct,zt⟩ v2.heap.size 1 rfl hM (by simp [Value.oneCell',Tb.cells]) (by unfold maxLen;first | omega | (simp <;> omega)) (by first | omega | (simp <;> omega)) ?_
      intro gg2 cap2 v2p hOb hgb hat
      have hqb:=hqa.push hqa.tt (by first | rfl | simp) hOb hgb hat
      have HQ2p:=Lib.hid hqb
      clear hown hOb hgb hat hqa hqb hM hsa HQ2
      go_wp2
      go_roundw
      case rel =>
       have e1:givenL n ((ts.take (k+1)).map Tb.ws) v=List.map Tb.ws (us ++ [⟨n,At,Ct,zt⟩]):=by
        have i1:addN (List.map Tb.ws us) zf=List.map Tb.ws (us):=by rw [addN_in HBB1.out];try simp
        have i2:addN (List.map Tb.ws (us)) zt=List.map Tb.ws (us ++ [⟨n,At,Ct,zt⟩]):=by rw [addN_out HBB2.out];try simp
        rw [HST.out,← HU.out,HZF.out,HZT.out,i1,i2]
       exact ⟨k+1,(some ⟨gg2,0,none⟩),cap2,us ++ [⟨n,At,Ct,zt⟩],by omega,by go_num,by first | rfl | (simp;done),HQ2p.out.tn,e1.symm,by first | omega | (simp <;> omega),HQ2p.out.s⟩
      case measure=>simp [intOf] <;> omega
    | false =>
     go_upto_region 7 with fail
     refine wp_read 2 ?_
     simp only [List.take_succ_cons,List.take_zero,List.drop_succ_cons,List.drop_zero]
     repeat (any_goals (first | go_big_quiet_step (fail) | quiet_step (fail)))
     refine wpQuiet_nil ?_
     refine wpList_plain rfl fun K hK=>?_
     go_simp
     refine hK _ _ ?_
     clear hK K
     refine list_world fun wa hwa=>?_
     have hM:=Blk.new v1 108 #[.int .i64 n,.slice Af zf.length Cf]
     have hsa:Same v1 wa:=by rw [hwa];exact (Frm.refl _ _).alloc _
     rw [← hwa] at hM
     clear hwa
     have hqa:=HQ1.out.later hsa
     have hown:=hqa.tn.own
     try simp only [List.length_append,List.length_cons,List.length_nil,Nat.zero_add] at hown
     refine Own.append_list rfl (.tmp 26) (.tmp 28) _ rfl Tryz.underlying55 info_tbl rfl (by omega) rfl hown Tb.cells_len ⟨n,Af,Cf,zf⟩ v1.heap.size 1 rfl hM (by simp [Value.oneCell',Tb.cells]) (by unfold maxLen;first | omega | (simp <;> omega)) (by first | omega | (simp <;> omega)) ?_
     intro gg1 cap1 v1p hOb hgb hat
     have hqb:=hqa.push hqa.tf (by first | rfl | simp) hOb hgb hat
     have HQ1p:=Lib.hid hqb
     clear hown hOb hgb hat hqa hqb hM hsa HQ1
     have HQ:=HQ1p
     clear HQ1p
     have hin:=fun w' (hw:Same v1p w')=>in5_any (w:=w') (n:=n) (t:=⟨n,At,Ct,zt⟩) (C:=cap1) (HQ.out.tn.tl.same hw) (HQ.out.tt.same hw) (by first | omega | (simp <;> omega))
     unfold Tb.val at hin
     simp only at hin
     obtain ⟨bb3,hbb⟩:∃ bb,decide (zt∈List.map Tb.ws (us ++ [⟨n,Af,Cf,zf⟩]))=bb:=⟨_,rfl⟩
     rw [hbb] at hin
     try simp only [List.length_append,List.length_cons,List.length_nil,Nat.zero_add] at hin
     have HIN:=Lib.hid hin
     have HBB3:=Lib.hid hbb
     clear hin hbb
     have x0:=HQ.out.y.cell 0
     have x1:=HQ.out.y.cell 1
     have hxl:=HQ.out.y.lt
     simp at x0 x1
     go_wp2_with (fail)
     refine (HIN.out _ (Frm.refl _ _)).mono ?_
     rintro e v3 ⟨rfl,hs3⟩
     have hq:=HQ.out.later hs3
     have x0:=hq.y.cell 0
     have x1:=hq.y.cell 1
     have hxl:=hq.y.lt
     simp at x0 x1
     have HQ3:=Lib.hid hq
     clear hs3 hq HIN HQ
     cases bb3 with
     | true =>
      go_wp2
      go_roundw
      case rel =>
       have e1:givenL n ((ts.take (k+1)).map Tb.ws) v=List.map Tb.ws (us ++ [⟨n,Af,Cf,zf⟩]):=by
        have i1:addN (List.map Tb.ws us) zf=List.map Tb.ws (us ++ [⟨n,Af,Cf,zf⟩]):=by rw [addN_out HBB1.out];try simp
        have i2:addN (List.map Tb.ws (us ++ [⟨n,Af,Cf,zf⟩])) zt=List.map Tb.ws (us ++ [⟨n,Af,Cf,zf⟩]):=by rw [addN_in HBB3.out];try simp
        rw [HST.out,← HU.out,HZF.out,HZT.out,i1,i2]
       exact ⟨k+1,(some ⟨gg1,0,none⟩),cap1,us ++ [⟨n,Af,Cf,zf⟩],by omega,by go_num,by first | rfl | (simp;done),HQ3.out.tn,e1.symm,by first | omega | (simp <;> omega),HQ3.out.s⟩
      case measure=>simp [intOf] <;> omega
     | false =>
      go_upto_region 9 with fail
      refine wp_read 2 ?_
      simp only [List.take_succ_cons,List.take_zero,List.drop_succ_cons,List.drop_zero]
      repeat (any_goals (first | go_big_quiet_step (fail) | quiet_step (fail)))
      refine wpQuiet_nil ?_
      refine wpList_plain rfl fun K hK=>?_
      go_simp
      refine hK _ _ ?_
      clear hK K
      refine list_world fun wa hwa=>?_
      have hM:=Blk.new v3 108 #[.int .i64 n,.slice At zt.length Ct]
      have hsa:Same v3 wa:=by rw [hwa];exact (Frm.refl _ _).alloc _
      rw [← hwa] at hM
      clear hwa
      have hqa:=HQ3.out.later hsa
      have hown:=hqa.tn.own
      try simp only [List.length_append,List.length_cons,List.length_nil,Nat.zero_add] at hown
      refine Own.append_list rfl (.tmp 34) (.tmp 36) _ rfl Tryz.underlying55 info_tbl rfl (by omega) rfl hown Tb.cells_len ⟨n,At,Ct,zt⟩ v3.heap.size 1 rfl hM (by simp [Value.oneCell',Tb.cells]) (by unfold maxLen;first | omega | (simp <;> omega)) (by first | omega | (simp <;> omega)) ?_
      intro gg3 cap3 v3p hOb hgb hat
      have hqb:=hqa.push hqa.tt (by first | rfl | simp) hOb hgb hat
      have HQ3p:=Lib.hid hqb
      clear hown hOb hgb hat hqa hqb hM hsa HQ3
      go_wp2
      go_roundw
      case rel =>
       have e1:givenL n ((ts.take (k+1)).map Tb.ws) v=List.map Tb.ws (us ++ [⟨n,Af,Cf,zf⟩] ++ [⟨n,At,Ct,zt⟩]):=by
        have i1:addN (List.map Tb.ws us) zf=List.map Tb.ws (us ++ [⟨n,Af,Cf,zf⟩]):=by rw [addN_out HBB1.out];try simp
        have i2:addN (List.map Tb.ws (us ++ [⟨n,Af,Cf,zf⟩])) zt=List.map Tb.ws ((us ++ [⟨n,Af,Cf,zf⟩]) ++ [⟨n,At,Ct,zt⟩]):=by rw [addN_out HBB3.out];try simp
        rw [HST.out,← HU.out,HZF.out,HZT.out,i1,i2]
       exact ⟨k+1,(some ⟨gg3,0,none⟩),cap3,us ++ [⟨n,Af,Cf,zf⟩] ++ [⟨n,At,Ct,zt⟩],by omega,by go_num,by first | rfl | (simp;done),HQ3p.out.tn,e1.symm,by first | omega | (simp <;> omega),HQ3p.out.s⟩
      case measure=>simp [intOf] <;> omega
  ·obtain rfl:k=ts.length:=by omega
   have hI:¬ ((ts.length:Nat):Int) < (ts.length:Int):=by omega
   have HN:=Lib.hid hN
   have HU:=Lib.hid hus
   have HS:=Lib.hid hS
   clear hN hus hS
   go_wp2
   go_ret
   exact ⟨A',C',us,rfl,HN.out,by have:=HU.out;rwa [List.take_length] at this,hul,HS.out⟩
end
end Go.Proofs.YtiomgckodmecbaaGreat
