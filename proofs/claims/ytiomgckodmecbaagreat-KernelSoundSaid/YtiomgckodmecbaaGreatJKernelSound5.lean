/- Contracts and plain laws, put together in one file. No condition. -/
import Derived.Test.YtiomgckodmecbaaGreatJKernelSound4
import Derived.Test.YtiomgckodmecbaaGreatProg
import Derived.KernelRfl
import Derived.BigRegion

set_option maxRecDepth 100000
set_option maxHeartbeats 32000000
namespace Go.Proofs.YtiomgckodmecbaaGreat
open Go.RowKit Go.Tk
structure LRow where
 A:Option Addr
 C:Nat
 ts:List Tb
def LRow.cells (r:LRow):List Value:=[.slice r.A r.ts.length r.C]
theorem LRow.cells_len (r:LRow):r.cells.length=1:=rfl
theorem info_lrow:(Tryz.prog.info? 55).map (fun i=>(i.zero,i.size,i.bytes))=some (some (.slice none 0 0),1,24):=by kernel_rfl
def levStep (n:Nat) (s:List (List (List Nat)) × List (List Nat)) (v:Int):List (List (List Nat)) × List (List Nat):=(s.1 ++ [nodesL n s.2 v.toNat],givenL n s.2 v.toNat)
def levelsL (n:Nat) (zs:List (List Nat)) (ord:List Int):List (List (List Nat)):=(ord.foldl (levStep n) ([],unlikeL zs)).1
def sizeL (n:Nat) (zs:List (List Nat)) (ord:List Int):Nat:=((levelsL n zs ord).map List.length).sum
structure LN (lo:Nat) (w:World) (n:Nat) (A:Option Addr) (C:Nat) (rs:List LRow):Prop where
 own:Go.Tk.Own w 55 1 LRow.cells A rs.length C rs
 tn:∀ r∈rs,TN lo w n r.A r.C r.ts
 fresh:Fresh lo A
def lz (rs:List LRow):List (List (List Nat)):=rs.map fun r=>r.ts.map Tb.ws
theorem TN.lower {lo lo':Nat} {w:World} {n:Nat} {A:Option Addr} {C:Nat} {ts:List Tb} (h:TN lo w n A C ts) (hl:lo'≤lo):TN lo' w n A C ts:=⟨h.own,h.tw,fun b hb=>Nat.le_trans hl (h.fresh b hb)⟩
theorem foldl_take' {α β:Type} (f:β→α→β) (s:β) {l:List α} {i:Nat} {c:α} (h:l[i]?=some c):(l.take (i+1)).foldl f s=f ((l.take i).foldl f s) c:=by
 rw [List.take_add_one,h]
 simp
section
variable {w w':World} {n:Nat} {A:Option Addr} {C:Nat} {ts:List Tb} {rs:List LRow} {lo:Nat}
theorem LN.same (h:LN lo w n A C rs) (hs:Same w w'):LN lo w' n A C rs:=⟨h.own.frm hs (fun _ _=>id),fun r hr=>(h.tn r hr).same hs,h.fresh⟩
theorem LN.push (h:LN lo w n A C rs) {r:LRow} (hr:TN lo w n r.A r.C r.ts) {wb:World} {g cap:Nat} (hO:Go.Tk.Own wb 55 1 LRow.cells (some ⟨g,0,none⟩) (rs.length+1) cap (rs ++ [r])) (hg:w.grownBy wb (Value.slice A rs.length C).ownBlock)
  (hat:(Value.slice A rs.length C).ownBlock=some g∨g=w.heap.size) (hlo:lo≤w.heap.size):LN lo wb n (some ⟨g,0,none⟩) cap (rs ++ [r]):=by
 have kp:∀ u,TW w n u→TW wb n u:=fun u hu=>⟨hu.N,hu.own.keptBy hg (fun b hb hA=>h.own.ne_own hu.own (by decide) b (ownBlock_row.1 hb) hA),hu.fm,hu.sm⟩
 have kt:∀ q:LRow,TN lo w n q.A q.C q.ts→TN lo wb n q.A q.C q.ts:=fun q hq=>⟨hq.own.keptBy hg (fun b hb hA=>h.own.ne_own hq.own (by decide) b (ownBlock_row.1 hb) hA),fun t ht=>kp t (hq.tw t ht),hq.fresh⟩
 refine ⟨by rw [List.length_append];exact hO,fun q hq=>?_,fresh_some ?_⟩
 ·rcases List.mem_append.1 hq with hq | hq
  ·exact kt q (h.tn q hq)
  ·simp at hq
   subst hq
   exact kt _ hr
 ·rcases hat with h1 | h1
  ·exact h.fresh g (ownBlock_row.1 h1)
  ·omega
theorem levels_len (n:Nat):∀ (ord:List Int) (s:List (List (List Nat)) × List (List Nat)),(ord.foldl (levStep n) s).1.length=s.1.length+ord.length
 | [],s=>rfl
 | v :: ord,s=>by rw [List.foldl_cons,levels_len n ord];simp [levStep] <;> omega
theorem unlike_len (zs:List (List Nat)):(unlikeL zs).length≤zs.length:=by
 unfold unlikeL
 have:∀ (l s:List (List Nat)),(l.foldl addN s).length≤s.length+l.length:=by
  intro l
  induction l with
  | nil=>intro s;simp
  | cons z l ih=>intro s;rw [List.foldl_cons];have:=ih (addN s z);have:=addN_len s z;simp only [List.length_cons];omega
 have:=this zs []
 simpa using this
theorem given_len (n:Nat) (zs:List (List Nat)) (v:Nat):(givenL n zs v).length≤2 * zs.length:=by
 unfold givenL
 have:∀ (l s:List (List Nat)),(l.foldl (fun l z=>addN (addN l (cofT n v false z)) (cofT n v true z)) s).length≤s.length+2 * l.length:=by
  intro l
  induction l with
  | nil=>intro s;simp
  | cons z l ih =>
   intro s
   rw [List.foldl_cons]
   have h1:=ih (addN (addN s (cofT n v false z)) (cofT n v true z))
   have h2:=addN_len (addN s (cofT n v false z)) (cofT n v true z)
   have h3:=addN_len s (cofT n v false z)
   simp only [List.length_cons]
   omega
 have:=this zs []
 simpa using this
theorem level_small (n:Nat) (zs:List (List Nat)) (hz:zs.length≤2000000) (ord:List Int) (hol:ord.length≤16):∀ z∈levelsL n zs ord,z.length≤131072000000:=by
 have key:∀ (o:List Int) (i:Nat) (s:List (List (List Nat)) × List (List Nat)),i+o.length≤16→s.2.length≤2 ^ i * 2000000→(∀ z∈s.1,z.length≤131072000000)→∀ z∈(o.foldl (levStep n) s).1,z.length≤131072000000:=by
  intro o
  induction o with
  | nil=>intro i s _ _ h;exact h
  | cons v o ih =>
   intro i s hi hs h
   simp only [List.length_cons] at hi
   rw [List.foldl_cons]
   have hp:2 ^ i≤65536:=by
    have:2 ^ i≤2 ^ 16:=Nat.pow_le_pow_right (by omega) (by omega)
    omega
   refine ih (i+1) _ (by omega) ?_ ?_
   ·have:=given_len n s.2 v.toNat
    show (givenL n s.2 v.toNat).length≤_
    rw [Nat.pow_succ]
    omega
   ·intro z hz
    replace hz:z∈s.1 ++ [nodesL n s.2 v.toNat]:=hz
    rcases List.mem_append.1 hz with hz | hz
    ·exact h z hz
    ·simp at hz
     subst hz
     have:(nodesL n s.2 v.toNat).length≤s.2.length:=List.length_filter_le _ _
     have h3:2 ^ i * 2000000≤65536 * 2000000:=Nat.mul_le_mul_right _ hp
     omega
 have h0:(unlikeL zs).length≤2 ^ 0 * 2000000:=by
  have:=unlike_len zs
  omega
 have h1:∀ z∈(([]:List (List (List Nat))),unlikeL zs).1,z.length≤131072000000:=by
  intro z hz
  cases hz
 exact key ord 0 ([],unlikeL zs) (by omega) h0 h1
theorem sum_small (l:List (List (List Nat))) (b:Nat) (h:∀ z∈l,z.length≤b) (k:Nat):((l.take k).map List.length).sum≤k * b:=by
 induction l generalizing k with
 | nil=>simp
 | cons z l ih =>
  cases k with
  | zero=>simp
  | succ k =>
   have h1:=ih (fun q hq=>h q (List.mem_cons_of_mem _ hq)) k
   have h2:=h z (List.mem_cons_self ..)
   simp only [List.take_succ_cons,List.map_cons,List.sum_cons]
   rw [Nat.add_mul]
   omega
theorem levels5_any (hL:TL w n A ts) (hn:n≤16) (hl:ts.length≤2000000) {O:Option Addr} {OC:Nat} {ord:List Int} (hO:IL w O ord.length ord) (hv:∀ v∈ord,0≤v∧v < n) (hol:ord.length≤16) :
  Calls Tryz.prog 116 #[.slice A ts.length C,.slice O ord.length OC] w fun e w'=>∃ A' C' rs,e=.returned (.slice A' rs.length C')∧LN w.heap.size w' n A' C' rs∧lz rs=levelsL n (ts.map Tb.ws) ord∧Same w w':=by
 have HL:=Lib.hid hL
 have HO:=Lib.hid hO
 have HV:=Lib.hid hv
 have hu:=unlike5_any (C:=C) hL (by omega)
 have HU:=Lib.hid hu
 clear hL hO hv hu
 go_enter Tryz.func116,Tryz.ntmps116
 go_wp2_with (fail)
 refine HU.out.mono ?_
 rintro e w1 ⟨A1,C1,us1,rfl,hN1,hu1,hl1,hs1⟩
 have HN1:=Lib.hid hN1
 have HU1:=Lib.hid hu1
 have HS1:=Lib.hid hs1
 clear hN1 hu1 hs1
 go_wp2_with (fail)
 go_loopw [13,5,6] (fun i a c wr=>∃ (k:Nat) (A':Option Addr) (C':Nat) (rs:List LRow) (B:Option Addr) (D:Nat) (us:List Tb),k≤ord.length∧i=.int .i64 k∧a=.slice A' rs.length C'∧c=.slice B us.length D∧LN w.heap.size wr n A' C' rs∧TN w.heap.size wr n B D us ∧
  (lz rs,us.map Tb.ws)=(ord.take k).foldl (levStep n) ([],unlikeL (ts.map Tb.ws))∧us.length≤2 ^ k * 2000000∧rs.length=k∧Same w wr) (fun i _ _ _=>ord.length - (intOf i).toNat)
 case atStart=>exact ⟨0,none,0,[],A1,C1,us1,by omega,rfl,rfl,rfl,⟨Own.nil _ _ _ _,(fun _ h=>by cases h),fresh_none _⟩,HN1.out,by rw [HU1.out];rfl,by omega,rfl,HS1.out⟩
 case round =>
  obtain ⟨k,A',C',rs,B,D,us,hk,rfl,rfl,rfl,hLN,hTN,hst,hul,hrl,hS⟩:=hrel
  by_cases hlt:k < ord.length
  ·obtain ⟨v,hv⟩:∃ v,ord[k]?=some v:=⟨_,List.getElem?_eq_getElem hlt⟩
   obtain ⟨v0,v1⟩:=HV.out v (List.mem_of_getElem? hv)
   obtain ⟨m,rfl⟩:=Int.eq_ofNat_of_zero_le v0
   have hil:IL wr O ord.length ord:=Sl.same HO.out hS
   obtain ⟨ob,off,rfl,hob,hoc⟩:=hil.at1 hv
   have hI:(k:Int) < (ord.length:Int):=by omega
   have hp:2 ^ k≤65536:=by
    have:2 ^ k≤2 ^ 16:=Nat.pow_le_pow_right (by omega) (by omega)
    omega
   have hul2:us.length≤131072000000:=Nat.le_trans hul (by omega)
   have hnd:=fun w' (hw:Same wr w')=>nodes5_any (w:=w') (C:=D) (hTN.tl.same hw) m (by omega) (by omega)
   have hstep:(ord.take (k+1)).foldl (levStep n) ([],unlikeL (ts.map Tb.ws))=(lz rs ++ [nodesL n (us.map Tb.ws) m],givenL n (us.map Tb.ws) m):=by
    rw [foldl_take' _ _ hv,← hst]
    simp [levStep]
   have HND:=Lib.hid hnd
   have HST:=Lib.hid hstep
   have HLN:=Lib.hid hLN
   have HTN:=Lib.hid hTN
   have HS:=Lib.hid hS
   have HP:Hid (2 * us.length≤2 ^ (k+1) * 2000000):=Lib.hid (by rw [Nat.pow_succ];omega)
   clear hv hil hnd hstep hLN hTN hst hS hp hul
   have HRL:=Lib.hid hrl
   clear hrl
   go_upto_region 6 with fail
   refine wp_read 3 ?_
   simp only [List.take_succ_cons,List.take_zero,List.drop_succ_cons,List.drop_zero]
   repeat (any_goals (first | go_big_quiet_step (fail) | quiet_step (fail)))
   refine wpQuiet_nil ?_
   refine wpList_plain rfl fun K hK=>?_
   go_simp
   refine (HND.out _ (Frm.refl _ _)).mono ?_
   rintro e w2 ⟨A2,C2,us2,rfl,hN2,hu2,hl2,hs2⟩
   refine hK _ _ ?_
   clear hK K
   have HN2:=Lib.hid hN2
   have HU2:=Lib.hid hu2
   have HS2:=Lib.hid hs2
   clear hN2 hu2 hs2
   refine wpList_plain rfl fun K hK=>?_
   go_simp
   refine hK _ _ ?_
   clear hK K
   refine list_world fun wa hwa=>?_
   have hM:=Blk.new w2 55 #[.slice A2 us2.length C2]
   have hsa:Same w2 wa:=by rw [hwa];exact (Frm.refl _ _).alloc _
   rw [← hwa] at hM
   clear hwa
   have hra:Same wr wa:=HS2.out.trans hsa (fun _ _ h=>h)
   have hLa:=HLN.out.same hra
   refine Own.append_list rfl (.tmp 17) (.tmp 21) _ rfl Tryz.underlying126 info_lrow rfl (by omega) rfl hLa.own LRow.cells_len ⟨A2,C2,us2⟩ w2.heap.size 1 rfl hM (by simp [Value.oneCell',LRow.cells]) (by have:=HRL.out;unfold maxLen;omega) (by have:=HRL.out;omega) ?_
   intro gg cap wb hOb hgb hat
   have hzw:w.heap.size≤wr.heap.size:=HS.out.size
   have hza:w.heap.size≤wa.heap.size:=Nat.le_trans hzw hra.size
   have hpl:=hLa.push (r:=⟨A2,C2,us2⟩) ((HN2.out.same hsa).lower hzw) hOb hgb hat hza
   have hTa:=HTN.out.same hra
   have hTb:TN w.heap.size wb n B D us:=⟨hTa.own.keptBy hgb (fun b hb hA=>hLa.own.ne_own hTa.own (by decide) b (ownBlock_row.1 hb) hA),fun t ht=>by
    have hu:=hTa.tw t ht
    exact ⟨hu.N,hu.own.keptBy hgb (fun b hb hA=>hLa.own.ne_own hu.own (by decide) b (ownBlock_row.1 hb) hA),hu.fm,hu.sm⟩,hTa.fresh⟩
   have hSb:Same w wb:=(HS.out.trans hra (fun _ _ h=>h)).grown hgb (fun g hg=>.inr (hLa.fresh g (ownBlock_row.1 hg)))
   have hgv:=fun w' (hw:Same wb w')=>given5_any (w:=w') (C:=D) (hTb.tl.same hw) m (by omega) (by omega) hn
   have HGV:=Lib.hid hgv
   have HPL:=Lib.hid hpl
   have HSB:=Lib.hid hSb
   clear hOb hgb hat hLa hTa hTb hSb hpl hM hsa hra hgv
   go_wp2_with (fail)
   refine (HGV.out _ (Frm.refl _ _)).mono ?_
   rintro e w3 ⟨A3,C3,us3,rfl,hN3,hu3,hl3,hs3⟩
   have HN3:=Lib.hid hN3
   have HU3:=Lib.hid hu3
   have HS3:=Lib.hid hs3
   have HL3:=Lib.hid hl3
   clear hN3 hu3 hs3 hl3
   go_wp2
   go_roundw
   case rel =>
    refine ⟨k+1,some ⟨gg,0,none⟩,cap,rs ++ [⟨A2,C2,us2⟩],A3,C3,us3,by omega,by go_num,by rw [List.length_append];rfl,rfl,HPL.out.same HS3.out,HN3.out.lower HSB.out.size,?_,Nat.le_trans HL3.out HP.out,by rw [List.length_append,HRL.out];rfl,HSB.out.trans HS3.out (fun _ _ h=>h)⟩
    rw [HST.out,HU3.out]
    congr 1
    unfold lz
    rw [List.map_append,← HU2.out]
    rfl
   case measure=>simp [intOf] <;> omega
  ·obtain rfl:k=ord.length:=by omega
   have hI:¬ ((ord.length:Nat):Int) < (ord.length:Int):=by omega
   have HLN:=Lib.hid hLN
   have HST:=Lib.hid hst
   have HS:=Lib.hid hS
   have HRL:=Lib.hid hrl
   clear hLN hst hS hTN hrl
   go_wp2
   go_ret
   refine ⟨A',C',rs,rfl,HLN.out,?_,HS.out⟩
   have:=HST.out
   rw [List.take_length] at this
   exact congrArg (·.1) this
theorem lz_len (rs:List LRow):(lz rs).length=rs.length:=by simp [lz]
theorem size5_any (hL:TL w n A ts) (hn:n≤16) (hl:ts.length≤2000000) {O:Option Addr} {OC:Nat} {ord:List Int} (hO:IL w O ord.length ord) (hv:∀ v∈ord,0≤v∧v < n) (hol:ord.length≤16) :
  Calls Tryz.prog 142 #[.slice A ts.length C,.slice O ord.length OC] w fun e w'=>e=.returned (.int .i64 (sizeL n (ts.map Tb.ws) ord))∧Same w w':=by
 have hv2:=levels5_any (C:=C) (OC:=OC) hL hn hl hO hv hol
 have HV:=Lib.hid hv2
 have hsz:∀ z∈levelsL n (ts.map Tb.ws) ord,z.length≤131072000000:=level_small n _ (by rw [List.length_map];exact hl) ord hol
 have hll:(levelsL n (ts.map Tb.ws) ord).length=ord.length:=by unfold levelsL;rw [levels_len];simp
 have HSZ:=Lib.hid hsz
 have HLL:=Lib.hid hll
 clear hL hO hv hv2 hsz hll
 go_enter Tryz.func142,Tryz.ntmps142
 go_wp2_with (fail)
 refine HV.out.mono ?_
 rintro e w1 ⟨A1,C1,rs,rfl,hLN,hlz,hs1⟩
 have HLN:=Lib.hid hLN
 have HLZ:=Lib.hid hlz
 have HS1:=Lib.hid hs1
 have hrl:rs.length≤16:=by have:=HLL.out;rw [← hlz,lz_len] at this;omega
 clear hLN hlz hs1
 go_wp2_with (fail)
 go_loopw [12,5] (fun i a wr=>∃ k:Nat,k≤rs.length∧i=.int .i64 k∧a=.int .i64 (((lz rs).take k).map List.length).sum∧Same w1 wr) (fun i _ _=>rs.length - (intOf i).toNat)
 case atStart=>exact ⟨0,by omega,rfl,rfl,Frm.refl _ _⟩
 case round =>
  obtain ⟨k,hk,rfl,rfl,hS⟩:=hrel
  have hbd:(((lz rs).take k).map List.length).sum≤k * 131072000000:=by
   rw [HLZ.out]
   exact sum_small (levelsL n (ts.map Tb.ws) ord) 131072000000 HSZ.out k
  obtain ⟨S,hS0⟩:∃ S,(((lz rs).take k).map List.length).sum=S:=⟨_,rfl⟩
  rw [hS0] at hbd ⊢
  have HSUM:=Lib.hid hS0
  have HS:=Lib.hid hS
  clear hS0 hS
  have hb2:S≤2097152000000:=Nat.le_trans hbd (by omega)
  by_cases hlt:k < rs.length
  ·obtain ⟨r,hr⟩:∃ r,rs[k]?=some r:=⟨_,List.getElem?_eq_getElem hlt⟩
   have hL:=HLN.out.same HS.out
   obtain ⟨sb,rfl,hsb,hc⟩:=hL.own.get LRow.cells_len hr
   have c0:wr.cell? ⟨sb,k * 1,none⟩=some (.slice r.A r.ts.length r.C):=hc 0 (by omega)
   rw [Nat.mul_one] at c0
   have hI:(k:Int) < (rs.length:Int):=by omega
   have hrs:r.ts.length≤131072000000:=by
    have h1:(r.ts.map Tb.ws)∈lz rs:=List.mem_map_of_mem (f:=fun r:LRow=>r.ts.map Tb.ws) (List.mem_of_getElem? hr)
    rw [HLZ.out] at h1
    have:=HSZ.out _ h1
    simpa using this
   have hstep:(((lz rs).take (k+1)).map List.length).sum=S+r.ts.length:=by
    have:(lz rs)[k]?=some (r.ts.map Tb.ws):=by unfold lz;rw [List.getElem?_map,hr];rfl
    rw [List.take_add_one,this,← HSUM.out]
    simp
   have HST:=Lib.hid hstep
   clear hr hL hc hstep
   go_wp2
   go_roundw
   case rel=>exact ⟨k+1,by omega,by go_num,by rw [HST.out];go_num,HS.out⟩
   case measure=>simp [intOf] <;> omega
  ·obtain rfl:k=rs.length:=by omega
   have hI:¬ ((rs.length:Nat):Int) < (rs.length:Int):=by omega
   go_wp2
   go_ret
   refine ⟨?_,HS1.out.trans HS.out (fun _ _ h=>h)⟩
   have:S=sizeL n (ts.map Tb.ws) ord:=by
    rw [← HSUM.out]
    unfold sizeL
    rw [← HLZ.out,List.take_of_length_le (by rw [lz_len];exact Nat.le_refl _)]
   rw [this]
   rfl
end
structure MH where
 t:Tb
 c:Int
def MH.cells (h:MH):List Value:=[.int .i64 h.t.N,.slice h.t.A h.t.ws.length h.t.C,.int .i64 h.c]
theorem MH.cells_len (h:MH):h.cells.length=3:=rfl
theorem info_hold:(Tryz.prog.info? 155).map (fun i=>(i.zero,i.size,i.bytes))=some (some (.agg #[.int .i64 0,.slice none 0 0,.int .i64 0]),3,40):=by kernel_rfl
structure MS where
 n:Nat
 c:Nat
 ord:List Int
 held:List (List Nat × Int)
 tr:List Int
structure MA where
 oA:Option Addr
 oC:Nat
 hA:Option Addr
 hC:Nat
 hs:List MH
 tA:Option Addr
 tC:Nat
structure MW (w:World) (mp:Nat) (M:MS) (a:MA):Prop where
 blk:Blk w mp 112 #[.int .i64 M.n,.int .i64 M.c,.slice a.oA M.ord.length a.oC,.slice a.hA a.hs.length a.hC,.slice a.tA M.tr.length a.tC]
 ord:OwnI w 3 a.oA M.ord.length a.oC M.ord
 hs:Go.Tk.Own w 155 3 MH.cells a.hA a.hs.length a.hC a.hs
 tw:∀ h∈a.hs,TW w M.n h.t
 held:a.hs.map (fun h=>(h.t.ws,h.c))=M.held
 tr:OwnI w 3 a.tA M.tr.length a.tC M.tr
 n16:M.n≤16
 ol:M.ord.length≤16
 hl:M.held.length≤1500000
 trl:M.tr.length≤10000000000000
 dj:∀ b,rowOf a.oA b→¬ rowOf a.tA b
def zsM (M:MS):List (List Nat):=M.held.map (·.1)
section
variable {w w':World} {mp:Nat} {M:MS} {a:MA} {n:Nat} {t:Tb}
theorem MW.same (h:MW w mp M a) (hs:Same w w'):MW w' mp M a :=
 ⟨h.blk.frm hs id,h.ord.frm hs (fun _ _=>id),h.hs.frm hs (fun _ _=>id),fun q hq=>(h.tw q hq).same hs,h.held,h.tr.frm hs (fun _ _=>id),h.n16,h.ol,h.hl,h.trl,h.dj⟩
theorem MW.c2 (h:MW w mp M a):w.cell? ⟨mp,2,none⟩=some (.slice a.oA M.ord.length a.oC):=h.blk.cell 2
theorem MW.c3 (h:MW w mp M a):w.cell? ⟨mp,3,none⟩=some (.slice a.hA a.hs.length a.hC):=h.blk.cell 3
theorem MW.c4 (h:MW w mp M a):w.cell? ⟨mp,4,none⟩=some (.slice a.tA M.tr.length a.tC):=h.blk.cell 4
theorem MW.c0 (h:MW w mp M a):w.cell? ⟨mp,0,none⟩=some (.int .i64 M.n):=h.blk.cell 0
theorem MW.c1 (h:MW w mp M a):w.cell? ⟨mp,1,none⟩=some (.int .i64 M.c):=h.blk.cell 1
theorem MW.zs (h:MW w mp M a):a.hs.map (fun h=>h.t.ws)=zsM M:=by
 unfold zsM
 rw [← h.held,List.map_map]
 rfl
theorem effStep_skip {P:Program} {ops:Array Oper} {C:World→Prop} {o:Oper} {a:Act} {w:World} {K:Act→World→Prop} (hg:Region.wanted o (yielded ops a.tmps)=false)
  (h:K (a.put o.dst undef) w):effStep P ops C o a w K:=by
 unfold effStep
 rw [if_neg (by rw [hg] <;> decide)]
 exact h
theorem MW.hsl (h:MW w mp M a):a.hs.length=M.held.length:=by rw [← h.held,List.length_map]
def constT (n:Nat) (b:Bool):List Nat:=tab n (fun _=>b)
def isConstB (n:Nat) (z:List Nat):Bool:=decide (z=constT n false) || decide (z=constT n true)
theorem isConst_any (ht:TW w n t) :
  Calls Tryz.prog 102 #[t.val] w fun e w'=>e=.returned (.bool (isConstB n t.ws))∧Same w w':=by
 have hn:=ht.fm.n16
 have htl:t.ws.length≤1000000000000000000:=by rw [ht.fm.len];have:=nw_le hn;omega
 have hN:=ht.N
 have HT:=Lib.hid ht
 have hc:=fun (b:Bool) w'=>const5_any n b w' hn
 have HC:=Lib.hid hc
 unfold isConstB
 obtain ⟨b1,hb1⟩:∃ b,decide (t.ws=constT n false)=b:=⟨_,rfl⟩
 obtain ⟨b2,hb2⟩:∃ b,decide (t.ws=constT n true)=b:=⟨_,rfl⟩
 have hsm:=fun (b:Bool) (bb:Bool) (hbb:decide (t.ws=constT n b)=bb) (A:Option Addr) (C:Nat) w' (hw:Same w w') (ho:OwnW w' A (tab n (fun _=>b)).length C (tab n (fun _=>b)))=>(tsame_any t.N t.A t.ws.length t.C t.ws n A (tab n (fun _=>b)).length C (tab n (fun _=>b)) w' (HT.out.same hw).ok.wl (ho.sl ucell_len) htl).mono (fun (e:Ending) w'' ⟨h1,h2⟩=>(⟨by
  rw [h1]
  unfold sm
  rw [HT.out.N,← hbb]
  unfold constT
  simp,h2⟩:e=Ending.returned (.bool bb)∧Same w' w''))
 have HS1:=Lib.hid (hsm false b1 hb1)
 have HS2:=Lib.hid (hsm true b2 hb2)
 rw [hb1,hb2]
 clear hc hsm hb1 hb2 ht htl
 unfold Tb.val
 rw [hN] at HS1 HS2 ⊢
 clear hN
 go_enter Tryz.func102,Tryz.ntmps102
 go_wp2_with (fail)
 refine wp_world fun w1 hw1=>?_
 have hX:=Blk.new w 108 #[.int .i64 n,.slice t.A t.ws.length t.C]
 have hs1:Same w w1:=by rw [hw1];exact (Frm.refl _ _).alloc _
 rw [← hw1] at hX
 clear hw1
 have x0:=hX.cell 0
 have x1:=hX.cell 1
 have hxl:=hX.lt
 simp at x0 x1
 have HX:=Lib.hid hX
 have HSA:=Lib.hid hs1
 clear hX hs1
 refine wp_phS (fun _=>False) [([0,1,2],3),([],4),([5,6,7,8],9),([],10),([11],12)] (by kernel_rfl) (by kernel_rfl) ?_
 simp only [wpPh,pick,List.map_cons,List.map_nil,List.getD_cons_zero,List.getD_cons_succ]
 have hs:Same w1 w1.drew:=(Frm.refl _ _).drew
 repeat (any_goals (first | go_big_quiet_step (fail) | quiet_step (fail)))
 refine wpQuiet_nil ?_
 refine effStep_plain rfl fun K hK=>?_
 go_simp
 refine (HC.out false _).mono ?_
 rintro e u ⟨A0,C0,rfl,hNT⟩
 have hs:=hs.trans hNT.2.2 (fun _ _ h=>h)
 have ho0:=hNT.1
 refine hK _ _ (Lat.mk_ (Frm.mono hs (fun _ _ h=>h.elim))) ?_
 clear hK K hNT
 refine wpQuiet_nil ?_
 refine effStep_plain rfl fun K hK=>?_
 go_simp
 refine (HS1.out A0 C0 _ (HSA.out.trans hs (fun _ _ h=>h)) ho0).mono ?_
 rintro e u ⟨rfl,hsz⟩
 have hs:=hs.trans hsz (fun _ _ h=>h)
 refine hK _ _ (Lat.mk_ (Frm.mono hs (fun _ _ h=>h.elim))) ?_
 clear hK K hsz ho0
 cases b1
 ·repeat (any_goals (first | go_big_quiet_step (fail) | quiet_step (fail)))
  refine wpQuiet_nil ?_
  refine effStep_on (by rfl) fun K hK=>?_
  go_simp
  refine (HC.out true _).mono ?_
  rintro e u ⟨A1,C1,rfl,hNT⟩
  have hs:=hs.trans hNT.2.2 (fun _ _ h=>h)
  have ho1:=hNT.1
  refine hK _ _ (Lat.mk_ (Frm.mono hs (fun _ _ h=>h.elim))) ?_
  clear hK K hNT
  refine wpQuiet_nil ?_
  refine effStep_on (by rfl) fun K hK=>?_
  go_simp
  refine (HS2.out A1 C1 _ (HSA.out.trans hs (fun _ _ h=>h)) ho1).mono ?_
  rintro e u ⟨rfl,hsz⟩
  have hs:=hs.trans hsz (fun _ _ h=>h)
  refine hK _ _ (Lat.mk_ (Frm.mono hs (fun _ _ h=>h.elim))) ?_
  clear hK K hsz ho1
  have HSN:=Lib.hid (HSA.out.trans hs (fun _ _ h=>h))
  clear hs
  cases b2
  all_goals
   repeat (any_goals (first | go_big_quiet_step (fail) | quiet_step (fail)))
   refine wpQuiet_nil ?_
   go_wp2
   go_ret
   exact ⟨rfl,HSN.out⟩
 ·have HSN:=Lib.hid (HSA.out.trans hs (fun _ _ h=>h))
  clear hs
  repeat (any_goals (first | go_big_quiet_step (fail) | quiet_step (fail)))
  refine wpQuiet_nil ?_
  refine effStep_skip (by rfl) ?_
  refine wpQuiet_nil ?_
  refine effStep_skip (by rfl) ?_
  repeat (any_goals (first | go_big_quiet_step (fail) | quiet_step (fail)))
  refine wpQuiet_nil ?_
  go_wp2
  go_ret
  exact ⟨rfl,HSN.out⟩
end
def holdsL (l:List (List Nat × Int)) (z:List Nat):Int:=match l.find? (fun p=>decide (p.1=z)) with
 | some p=>p.2
 | none=>0
theorem holds_at {l:List (List Nat × Int)} {z:List Nat} {k:Nat} {c:Int} (h:l[k]?=some (z,c)) (hn:∀ p∈l.take k,p.1≠z):holdsL l z=c:=by
 have hl:l=l.take k ++ ((z,c) :: l.drop (k+1)):=by
  obtain ⟨hk,he⟩:=List.getElem?_eq_some_iff.1 h
  rw [← he,List.getElem_cons_drop hk,List.take_append_drop]
 unfold holdsL
 rw [hl,List.find?_append]
 have:(l.take k).find? (fun p=>decide (p.1=z))=none:=List.find?_eq_none.2 fun p hp=>by simp [hn p hp]
 rw [this]
 simp
theorem holds_no {l:List (List Nat × Int)} {z:List Nat} (hn:∀ p∈l,p.1≠z):holdsL l z=0:=by
 unfold holdsL
 have:l.find? (fun p=>decide (p.1=z))=none:=List.find?_eq_none.2 fun p hp=>by simp [hn p hp]
 rw [this]
section
variable {w w':World} {mp:Nat} {M:MS} {a:MA} {n:Nat} {t:Tb}
theorem MW.at (h:MW w mp M a) {i:Nat} {q:MH} (hi:a.hs[i]?=some q):∃ b off,a.hA=some ⟨b,off,none⟩∧b < w.heap.size∧w.cell? ⟨b,off+i * 3,none⟩=some (.int .i64 q.t.N)∧w.cell? ⟨b,off+i * 3+1,none⟩=some (.slice q.t.A q.t.ws.length q.t.C)∧w.cell? ⟨b,off+i * 3+2,none⟩=some (.int .i64 q.c):=by
 obtain ⟨b,off,h1,h2,h3⟩:=(h.hs.sl MH.cells_len).get i q hi
 exact ⟨b,off,h1,h2,h3 0 (by omega),h3 1 (by omega),h3 2 (by omega)⟩
theorem holds_any (hM:MW w mp M a) (ht:TW w M.n t) :
  Calls Tryz.prog 70 #[.pointer (some ⟨mp,0,none⟩),t.val] w fun e w'=>e=.returned (.int .i64 (holdsL M.held t.ws))∧Same w w':=by
 have htl:t.ws.length≤1000000000000000000:=by rw [ht.fm.len];have:=nw_le ht.fm.n16;omega
 have hsm:=fun (u:Tb) w' (h1:TW w' M.n t) (h2:TW w' M.n u)=>tsame_any u.N u.A u.ws.length u.C u.ws t.N t.A t.ws.length t.C t.ws w' h2.ok.wl h1.ok.wl (by rw [h2.fm.len];have:=nw_le h2.fm.n16;omega)
 have HSM:=Lib.hid hsm
 have HM:=Lib.hid hM
 have HT:=Lib.hid ht
 have c3:=hM.c3
 have hml:=hM.blk.lt
 have hhl:a.hs.length≤1500000:=by rw [hM.hsl];exact hM.hl
 clear hM ht hsm htl
 unfold Tb.val
 go_enter Tryz.func70,Tryz.ntmps70
 go_wp2_with (fail)
 refine wp_world fun w1 hw1=>?_
 have hX:=Blk.new w 108 #[.int .i64 t.N,.slice t.A t.ws.length t.C]
 have hs1:Same w w1:=by rw [hw1];exact (Frm.refl _ _).alloc _
 rw [← hw1] at hX
 clear hw1
 have HX:=Lib.hid hX
 have HS1:=Lib.hid hs1
 clear hX hs1 c3 hml
 go_loopw [12] (fun i wr=>∃ k:Nat,k≤a.hs.length∧i=.int .i64 k∧Same w1 wr∧∀ p∈M.held.take k,p.1≠t.ws) (fun i _=>a.hs.length - (intOf i).toNat)
 case atStart=>exact ⟨0,by omega,rfl,Frm.refl _ _,fun u hu=>by simp at hu⟩
 case round =>
  obtain ⟨k,hk,rfl,hS,hno⟩:=hrel
  have HS:=Lib.hid hS
  have HNO:=Lib.hid hno
  have hX:=HX.out.frm hS id
  have x0:=hX.cell 0
  have x1:=hX.cell 1
  have hxl:=hX.lt
  simp at x0 x1
  clear hS hno hX
  by_cases hlt:k < a.hs.length
  ·obtain ⟨u,hu⟩:∃ u,a.hs[k]?=some u:=⟨_,List.getElem?_eq_getElem hlt⟩
   have hMr:=HM.out.same (HS1.out.trans HS.out (fun _ _ h=>h))
   obtain ⟨b,off,hA,hb,c0,c1,c2⟩:=hMr.at hu
   have hI:(k:Int) < (a.hs.length:Int):=by omega
   have htu:=HM.out.tw u (List.mem_of_getElem? hu)
   have hse:sm u.t.N t.N u.t.ws t.ws=decide (u.t.ws=t.ws):=by
    unfold sm
    rw [HT.out.N,htu.N]
    simp
   have hat:M.held[k]?=some (u.t.ws,u.c):=by rw [← HM.out.held,List.getElem?_map,hu];rfl
   have HSMU:=Lib.hid (show ∀ w',Same w1 w'→Calls Tryz.prog 71 #[.agg #[.int .i64 u.t.N,.slice u.t.A u.t.ws.length u.t.C],.agg #[.int .i64 t.N,.slice t.A t.ws.length t.C]] w' fun e w''=>e=.returned (.bool (decide (u.t.ws=t.ws)))∧Same w' w'' from fun w' hw=>by
    have:=HSM.out u.t w' (HT.out.same (HS1.out.trans hw (fun _ _ h=>h))) (htu.same (HS1.out.trans hw (fun _ _ h=>h)))
    rwa [hse] at this)
   have HAT:=Lib.hid hat
   clear hu hMr htu hse hat
   rw [hA]
   obtain ⟨bb,hbb⟩:∃ bb,decide (u.t.ws=t.ws)=bb:=⟨_,rfl⟩
   rw [hbb] at HSMU
   have HBB:=Lib.hid hbb
   clear hbb
   go_wp2_with (fail)
   refine (HSMU.out _ (HS.out.alloc _)).mono ?_
   rintro e w3 ⟨rfl,hs3⟩
   have hs4:=(HS.out.alloc (.cells #[.int .i64 u.t.N,.slice u.t.A u.t.ws.length u.t.C,.int .i64 u.c] 155)).trans hs3 (fun _ _ h=>h)
   have hX2:=(Blk.new wr 155 #[.int .i64 u.t.N,.slice u.t.A u.t.ws.length u.t.C,.int .i64 u.c]).frm hs3 id
   have y2:=hX2.cell 2
   have hyl:=hX2.lt
   simp at y2
   have HS4:=Lib.hid hs4
   clear hs3 hs4 hX2
   cases bb with
   | true =>
    go_wp2
    go_ret
    refine ⟨congrArg (fun x=>Ending.returned (Value.int .i64 x)) (holds_at (c:=u.c) ?_ HNO.out).symm,HS1.out.trans HS4.out (fun _ _ h=>h)⟩
    rw [HAT.out,of_decide_eq_true HBB.out]
   | false =>
    go_wp2
    go_roundw
    case rel =>
     refine ⟨k+1,by omega,by go_num,HS4.out,fun v hv=>?_⟩
     rw [List.take_add_one,HAT.out] at hv
     rcases List.mem_append.1 hv with hv | hv
     ·exact HNO.out v hv
     ·simp at hv
      rw [hv]
      exact of_decide_eq_false HBB.out
    case measure=>simp [intOf] <;> omega
  ·obtain rfl:k=a.hs.length:=by omega
   have hI:¬ ((a.hs.length:Nat):Int) < (a.hs.length:Int):=by omega
   go_wp2
   go_ret
   refine ⟨?_,HS1.out.trans HS.out (fun _ _ h=>h)⟩
   have hl:M.held.length=a.hs.length:=by rw [← HM.out.held,List.length_map]
   rw [holds_no (fun p hp=>HNO.out p (by rw [← hl,List.take_length];exact hp))]
   rfl
end
section
variable {w w':World} {mp:Nat} {M:MS} {a:MA} {n:Nat} {t:Tb}
theorem tables_any (hM:MW w mp M a) :
  Calls Tryz.prog 117 #[.pointer (some ⟨mp,0,none⟩)] w fun e w'=>∃ A C ts,e=.returned (.slice A ts.length C)∧TN w.heap.size w' M.n A C ts∧ts.map Tb.ws=zsM M∧ts.length≤1500000∧Same w w':=by
 have HM:=Lib.hid hM
 have c3:=hM.c3
 have hml:=hM.blk.lt
 have hhl:a.hs.length≤1500000:=by rw [hM.hsl];exact hM.hl
 clear hM
 go_enter Tryz.func117,Tryz.ntmps117
 go_wp2_with (fail)
 clear c3 hml
 go_loopw [11,3] (fun i c wr=>∃ (k:Nat) (A:Option Addr) (C:Nat) (ts:List Tb),k≤a.hs.length∧i=.int .i64 k∧c=.slice A ts.length C∧TN w.heap.size wr M.n A C ts∧ts=(a.hs.take k).map MH.t∧Same w wr) (fun i _ _=>a.hs.length - (intOf i).toNat)
 case atStart=>exact ⟨0,none,0,[],by omega,rfl,rfl,TN.nil _ _ _,rfl,Frm.refl _ _⟩
 case round =>
  obtain ⟨k,A',C',us,hk,rfl,rfl,hN,hus,hS⟩:=hrel
  have hul:us.length=k:=by rw [hus,List.length_map,List.length_take];omega
  by_cases hlt:k < a.hs.length
  ·obtain ⟨u,hu⟩:∃ u,a.hs[k]?=some u:=⟨_,List.getElem?_eq_getElem hlt⟩
   have hMr:=HM.out.same hS
   obtain ⟨b,off,hA,hb,c0,c1,c2⟩:=hMr.at hu
   have hI:(k:Int) < (a.hs.length:Int):=by omega
   have HTW:=Lib.hid (hMr.tw u (List.mem_of_getElem? hu))
   have hstep:(a.hs.take (k+1)).map MH.t=us ++ [u.t]:=by rw [List.take_add_one,hu,hus];simp
   have HST:=Lib.hid hstep
   have HN:=Lib.hid hN
   have HS:=Lib.hid hS
   have HUL:=Lib.hid hul
   clear hu hMr hstep hus hN hS hul
   rw [hA]
   clear hA
   go_upto_region 5 with fail
   refine wp_world fun w1 hw1=>?_
   have hX:=Blk.new wr 155 #[.int .i64 u.t.N,.slice u.t.A u.t.ws.length u.t.C,.int .i64 u.c]
   have hs1:Same wr w1:=by rw [hw1];exact (Frm.refl _ _).alloc _
   rw [← hw1] at hX
   clear hw1
   have x0:=hX.cell 0
   have x1:=hX.cell 1
   have hxl:=hX.lt
   simp at x0 x1
   have HS1:=Lib.hid hs1
   clear hX hs1
   refine wp_read 3 ?_
   simp only [List.take_succ_cons,List.take_zero,List.drop_succ_cons,List.drop_zero]
   repeat (any_goals (first | go_big_quiet_step (fail) | quiet_step (fail)))
   refine wpQuiet_nil ?_
   refine wpList_plain rfl fun K hK=>?_
   go_simp
   refine hK _ _ ?_
   clear hK K
   refine list_world fun wa hwa=>?_
   have hM:=Blk.new w1 108 #[.int .i64 u.t.N,.slice u.t.A u.t.ws.length u.t.C]
   have hsa:Same wr wa:=by rw [hwa];exact HS1.out.alloc _
   rw [← hwa] at hM
   clear hwa
   have hNa:=HN.out.same hsa
   refine Own.append_list rfl (.tmp 15) (.tmp 18) _ rfl Tryz.underlying55 info_tbl rfl (by omega) rfl hNa.own Tb.cells_len u.t w1.heap.size 1 rfl (by unfold Tb.cells;exact hM) (by simp [Value.oneCell',Tb.cells]) (by have:=HUL.out;unfold maxLen;omega) (by have:=HUL.out;omega) ?_
   intro gg cap wb hOb hgb hat
   have hza:w.heap.size≤wa.heap.size:=(HS.out.trans hsa (fun _ _ h=>h)).size
   have hp:=hNa.push (HTW.out.same hsa) hOb hgb hat hza
   have HP:=Lib.hid hp.1
   have HSB:=Lib.hid (hp.2 w (HS.out.trans hsa (fun _ _ h=>h)) rfl)
   clear hp hOb hgb hat hNa hsa hM
   go_wp2
   go_roundw
   case rel=>exact ⟨k+1,some ⟨gg,0,none⟩,cap,us ++ [u.t],by omega,by go_num,by rw [List.length_append];rfl,HP.out,HST.out.symm,HSB.out⟩
   case measure=>simp [intOf] <;> omega
  ·obtain rfl:k=a.hs.length:=by omega
   have hI:¬ ((a.hs.length:Nat):Int) < (a.hs.length:Int):=by omega
   have HN:=Lib.hid hN
   have HU:=Lib.hid hus
   have HS:=Lib.hid hS
   clear hN hus hS
   go_wp2
   go_ret
   refine ⟨A',C',us,congrArg (fun l=>Ending.returned (Value.slice A' l C')) hul.symm,HN.out,?_,by omega,HS.out⟩
   have h1:=HU.out
   rw [List.take_length] at h1
   rw [h1,← HM.out.zs,List.map_map]
   rfl
def isLiveB (M:MS) (z:List Nat):Bool:=isConstB M.n z || (levelsL M.n (zsM M) M.ord).any fun l=>decide (z∈l)
def sizeM (M:MS) (zs:List (List Nat)):Nat:=sizeL M.n zs M.ord
end
def OrdOk (M:MS):Prop:=∀ v∈M.ord,0≤v∧v < M.n
section
variable {w w':World} {mp:Nat} {M:MS} {a:MA} {n:Nat} {t:Tb} {A:Option Addr} {C:Nat} {ts:List Tb}
theorem size9_any (hM:MW w mp M a) (ho:OrdOk M) (hL:TL w M.n A ts) (hl:ts.length≤2000000) :
  Calls Tryz.prog 138 #[.pointer (some ⟨mp,0,none⟩),.slice A ts.length C] w fun e w'=>e=.returned (.int .i64 (sizeM M (ts.map Tb.ws)))∧Same w w':=by
 have c2:=hM.c2
 have hml:=hM.blk.lt
 have hsz:=fun w' (hw:Same w w')=>size5_any (C:=C) (OC:=a.oC) (hL.same hw) hM.n16 hl (O:=a.oA) ((hM.ord.sl icell_len).same hw) ho hM.ol
 have HSZ:=Lib.hid hsz
 unfold sizeM
 clear hM hL hsz ho
 go_enter Tryz.func138,Tryz.ntmps138
 go_wp2_with (fail)
 refine (HSZ.out _ (Frm.refl _ _)).mono ?_
 rintro e w3 ⟨rfl,hs3⟩
 have HS3:=Lib.hid hs3
 clear hs3
 go_wp2
 go_ret
 exact ⟨rfl,HS3.out⟩
end
section
variable {w w':World} {mp:Nat} {M:MS} {a:MA} {n:Nat} {t:Tb} {A:Option Addr} {C:Nat} {ts:List Tb}
theorem levels9_any (hM:MW w mp M a) (ho:OrdOk M) :
  Calls Tryz.prog 86 #[.pointer (some ⟨mp,0,none⟩)] w fun e w'=>∃ A C rs,e=.returned (.slice A rs.length C)∧LN w.heap.size w' M.n A C rs∧lz rs=levelsL M.n (zsM M) M.ord∧Same w w':=by
 have HM:=Lib.hid hM
 have HO:=Lib.hid ho
 clear hM ho
 go_enter Tryz.func86,Tryz.ntmps86
 go_wp2_with (fail)
 have c2:=HM.out.c2
 have hml:=HM.out.blk.lt
 refine wp_phS (fun _=>False) [([0,2,3,4,5],1),([],6),([],7)] (by kernel_rfl) (by kernel_rfl) ?_
 simp only [wpPh,pick,List.map_cons,List.map_nil,List.getD_cons_zero,List.getD_cons_succ]
 have hs:Same w w.drew:=(Frm.refl _ _).drew
 repeat (any_goals (first | go_big_quiet_step (fail) | quiet_step (fail)))
 refine wpQuiet_nil ?_
 refine effStep_plain rfl fun K hK=>?_
 go_simp
 refine (tables_any (HM.out.same hs)).mono ?_
 rintro e w3 ⟨A,C,ts,rfl,hN,hz,hl,hs3⟩
 have hs:=hs.trans hs3 (fun _ _ h=>h)
 have hM3:=HM.out.same hs
 have hlv:=fun w' (hw:Same w3 w')=>levels5_any (C:=C) (OC:=a.oC) (hN.tl.same hw) hM3.n16 (by omega) (O:=a.oA) ((hM3.ord.sl icell_len).same hw) HO.out hM3.ol
 rw [hz] at hlv
 have HLV:=Lib.hid hlv
 refine hK _ _ (Lat.mk_ (Frm.mono hs (fun _ _ h=>h.elim))) ?_
 have HS3:=Lib.hid hs
 clear hs hs3 hN hz hM3 hlv hK K
 refine wpQuiet_nil ?_
 refine effStep_plain rfl fun K hK=>?_
 go_simp
 refine (HLV.out _ (Frm.refl _ _)).mono ?_
 rintro e w4 ⟨A4,C4,rs,rfl,hLN,hlz,hs4⟩
 have hs:=HS3.out.trans hs4 (fun _ _ h=>h)
 refine hK _ _ (Lat.mk_ (Frm.mono hs (fun _ _ h=>h.elim))) ?_
 have HLN:=Lib.hid hLN
 have HLZ:=Lib.hid hlz
 have HS4:=Lib.hid hs4
 clear hs hLN hlz hs4 hK K
 repeat (any_goals (first | go_big_quiet_step (fail) | quiet_step (fail)))
 refine wpQuiet_nil ?_
 go_wp2
 go_ret
 exact ⟨A4,C4,rs,rfl,⟨HLN.out.own,fun r hr=>(HLN.out.tn r hr).lower HS3.out.size,fun b hb=>Nat.le_trans HS3.out.size (HLN.out.fresh b hb)⟩,HLZ.out,HS3.out.trans HS4.out (fun _ _ h=>h)⟩
end
section
variable {w w':World} {mp:Nat} {M:MS} {a:MA} {n:Nat} {t:Tb} {A:Option Addr} {C:Nat} {ts:List Tb}
theorem isLive_any (hM:MW w mp M a) (ho:OrdOk M) (ht:TW w M.n t) :
  Calls Tryz.prog 106 #[.pointer (some ⟨mp,0,none⟩),t.val] w fun e w'=>e=.returned (.bool (isLiveB M t.ws))∧Same w w':=by
 have HM:=Lib.hid hM
 have HO:=Lib.hid ho
 have HT:=Lib.hid ht
 have hic:=fun w' (h:TW w' M.n t)=>isConst_any h
 have HIC:=Lib.hid hic
 have hin:=fun (A:Option Addr) (C:Nat) (us:List Tb) w' (hL:TL w' M.n A us) (h:TW w' M.n t) (hl:us.length≤1000000000000000000)=>in5_any (C:=C) hL h hl
 have HIN:=Lib.hid hin
 unfold Tb.val at HIC HIN ⊢
 unfold isLiveB
 obtain ⟨cc,hcc⟩:∃ b,isConstB M.n t.ws=b:=⟨_,rfl⟩
 rw [hcc] at HIC ⊢
 clear hM ho ht hic hin hcc
 go_enter Tryz.func106,Tryz.ntmps106
 go_wp2_with (fail)
 refine (HIC.out _ (HT.out.same ((Frm.refl _ _).alloc _))).mono ?_
 rintro e w1 ⟨rfl,hs1⟩
 have hX:=(Blk.new w 108 #[.int .i64 t.N,.slice t.A t.ws.length t.C]).frm hs1 id
 have hs1:Same w w1:=((Frm.refl _ _).alloc _).trans hs1 (fun _ _ h=>h)
 have x0:=hX.cell 0
 have x1:=hX.cell 1
 have hxl:=hX.lt
 simp at x0 x1
 have HX:=Lib.hid hX
 have HS1:=Lib.hid hs1
 clear hX hs1
 cases cc with
 | true =>
  go_wp2
  go_ret
  exact ⟨rfl,HS1.out⟩
 | false =>
  go_wp2_with (fail)
  refine (levels9_any (HM.out.same HS1.out) HO.out).mono ?_
  rintro e w2 ⟨A,C,rs,rfl,hLN,hlz,hs2⟩
  have HLN:=Lib.hid hLN
  have HLZ:=Lib.hid hlz
  have HS2:=Lib.hid (HS1.out.trans hs2 (fun _ _ h=>h))
  have HX2:=Lib.hid (HX.out.frm hs2 id)
  have hrl:rs.length≤16:=by
   have h1:(lz rs).length=M.ord.length:=by rw [hlz];unfold levelsL;rw [levels_len];simp
   rw [lz_len] at h1
   have:=HM.out.ol
   omega
  have hbig:∀ r∈rs,r.ts.length≤131072000000:=fun r hr=>by
   have h1:r.ts.map Tb.ws∈levelsL M.n (zsM M) M.ord:=by rw [← hlz];exact List.mem_map.2 ⟨r,hr,rfl⟩
   have h2:=level_small M.n (zsM M) (by unfold zsM;rw [List.length_map];have:=HM.out.hl;omega) M.ord HM.out.ol _ h1
   rwa [List.length_map] at h2
  have HBG:=Lib.hid hbig
  clear hLN hlz hs2 x0 x1 hxl hbig
  go_wp2_with (fail)
  go_loopw [12] (fun i wr=>∃ k:Nat,k≤rs.length∧i=.int .i64 k∧Same w2 wr∧∀ r∈rs.take k,t.ws ∉ r.ts.map Tb.ws) (fun i _=>rs.length - (intOf i).toNat)
  case atStart=>exact ⟨0,by omega,rfl,Frm.refl _ _,fun u hu=>by simp at hu⟩
  case round =>
   obtain ⟨k,hk,rfl,hS,hno⟩:=hrel
   have HS:=Lib.hid hS
   have HNO:=Lib.hid hno
   have hX:=HX2.out.frm hS id
   have x0:=hX.cell 0
   have x1:=hX.cell 1
   have hxl:=hX.lt
   simp at x0 x1
   clear hS hno hX
   by_cases hlt:k < rs.length
   ·obtain ⟨r,hr⟩:∃ r,rs[k]?=some r:=⟨_,List.getElem?_eq_getElem hlt⟩
    have hLr:=HLN.out.same HS.out
    obtain ⟨sb,hA,hsb,hc⟩:=hLr.own.get LRow.cells_len hr
    have c0:wr.cell? ⟨sb,k * 1,none⟩=some (.slice r.A r.ts.length r.C):=hc 0 (by omega)
    rw [Nat.mul_one] at c0
    have hI:(k:Int) < (rs.length:Int):=by omega
    have hm:=List.mem_of_getElem? hr
    have hin:=fun w' (hw:Same wr w')=>HIN.out r.A r.C r.ts w' (((hLr.tn r hm).same hw).tl) (HT.out.same ((HS2.out.trans HS.out (fun _ _ h=>h)).trans hw (fun _ _ h=>h))) (by have:=HBG.out r hm;omega)
    obtain ⟨bb,hbb⟩:∃ bb,decide (t.ws∈r.ts.map Tb.ws)=bb:=⟨_,rfl⟩
    rw [hbb] at hin
    have HINR:=Lib.hid hin
    have HBB:=Lib.hid hbb
    have HR:=Lib.hid hr
    clear hr hLr hc hm hin hbb
    rw [hA]
    go_wp2_with (fail)
    refine (HINR.out _ (Frm.refl _ _)).mono ?_
    rintro e w3 ⟨rfl,hs3⟩
    have HS3:=Lib.hid (HS.out.trans hs3 (fun _ _ h=>h))
    clear hs3
    cases bb with
    | true =>
     go_wp2
     go_ret
     refine ⟨?_,HS2.out.trans HS3.out (fun _ _ h=>h)⟩
     have:((levelsL M.n (zsM M) M.ord).any fun l=>decide (t.ws∈l))=true:=by
      rw [← HLZ.out]
      exact List.any_eq_true.2 ⟨_,List.mem_map.2 ⟨r,List.mem_of_getElem? HR.out,rfl⟩,HBB.out⟩
     rw [this]
     rfl
    | false =>
     go_wp2
     go_roundw
     case rel =>
      refine ⟨k+1,by omega,by go_num,HS3.out,fun v hv=>?_⟩
      rw [List.take_add_one,HR.out] at hv
      rcases List.mem_append.1 hv with hv | hv
      ·exact HNO.out v hv
      ·simp at hv
       rw [hv]
       exact of_decide_eq_false HBB.out
     case measure=>simp [intOf] <;> omega
   ·obtain rfl:k=rs.length:=by omega
    have hI:¬ ((rs.length:Nat):Int) < (rs.length:Int):=by omega
    go_wp2
    go_ret
    refine ⟨?_,HS2.out.trans HS.out (fun _ _ h=>h)⟩
    have:((levelsL M.n (zsM M) M.ord).any fun l=>decide (t.ws∈l))=false:=by
     rw [← HLZ.out]
     refine List.any_eq_false.2 fun l hl=>?_
     obtain ⟨r,hr,rfl⟩:=List.mem_map.1 hl
     simpa using HNO.out r (by rw [List.take_length];exact hr)
    rw [this]
    rfl
end
def levelL (ord:List Int) (v:Int):Int:=if v∈ord then ((ord.idxOf v:Nat):Int) else -1
theorem level_at {ord:List Int} {v:Int} {k:Nat} (h:ord[k]?=some v) (hn:∀ u∈ord.take k,u≠v):levelL ord v=k:=by
 obtain ⟨hk,he⟩:=List.getElem?_eq_some_iff.1 h
 have hl:ord=ord.take k ++ (v :: ord.drop (k+1)):=by
  rw [← he,List.getElem_cons_drop hk,List.take_append_drop]
 have hm:v∈ord:=List.mem_of_getElem? h
 unfold levelL
 rw [if_pos hm]
 have hi:ord.idxOf v=k:=by
  rw [hl,List.idxOf_append,if_neg (fun hv=>hn v hv rfl)]
  simp [List.length_take]
  omega
 rw [hi]
section
variable {w w':World} {mp:Nat} {M:MS} {a:MA} {n:Nat} {t:Tb}
theorem levelOf_any (hM:MW w mp M a) (v:Int) :
  Calls Tryz.prog 68 #[.pointer (some ⟨mp,0,none⟩),.int .i64 v] w fun e w'=>e=.returned (.int .i64 (levelL M.ord v))∧Same w w':=by
 have HM:=Lib.hid hM
 have c2:=hM.c2
 have hml:=hM.blk.lt
 have hol:=hM.ol
 clear hM
 go_enter Tryz.func68,Tryz.ntmps68
 go_wp2_with (fail)
 go_loopw [12] (fun i wr=>∃ k:Nat,k≤M.ord.length∧i=.int .i64 k∧Same w wr∧∀ u∈M.ord.take k,u≠v) (fun i _=>M.ord.length - (intOf i).toNat)
 case atStart=>exact ⟨0,by omega,rfl,Frm.refl _ _,fun u hu=>by simp at hu⟩
 case round =>
  obtain ⟨k,hk,rfl,hS,hno⟩:=hrel
  by_cases hlt:k < M.ord.length
  ·obtain ⟨u,hu⟩:∃ u,M.ord[k]?=some u:=⟨_,List.getElem?_eq_getElem hlt⟩
   have hil:IL wr a.oA M.ord.length M.ord:=(HM.out.same hS).ord.sl icell_len
   obtain ⟨b,off,hA,hb,c0⟩:=hil.at1 hu
   have hI:(k:Int) < (M.ord.length:Int):=by omega
   have HU:=Lib.hid hu
   have HNO:=Lib.hid hno
   have HS:=Lib.hid hS
   clear hu hno hS hil
   rw [hA]
   by_cases huv:u=v
   ·go_wp2
    go_ret
    exact ⟨congrArg (fun x=>Ending.returned (Value.int .i64 x)) (level_at (by rw [HU.out,huv]) HNO.out).symm,HS.out⟩
   ·go_wp2
    go_roundw
    case rel =>
     refine ⟨k+1,by omega,by go_num,HS.out,fun x hx=>?_⟩
     rw [List.take_add_one,HU.out] at hx
     rcases List.mem_append.1 hx with hx | hx
     ·exact HNO.out x hx
     ·simp at hx
      rw [hx]
      exact huv
    case measure=>simp [intOf] <;> omega
  ·obtain rfl:k=M.ord.length:=by omega
   have hI:¬ ((M.ord.length:Nat):Int) < (M.ord.length:Int):=by omega
   have HNO:=Lib.hid hno
   have HS:=Lib.hid hS
   clear hno hS
   go_wp2
   go_ret
   refine ⟨?_,HS.out⟩
   have:v ∉ M.ord:=fun hm=>HNO.out v (by rw [List.take_length];exact hm) rfl
   unfold levelL
   rw [if_neg this]
   rfl
end
def widthM (M:MS) (v:Int):Int:=if levelL M.ord v < 0 then -1 else (((levelsL M.n (zsM M) M.ord).getD (levelL M.ord v).toNat []).length:Nat)
theorem level_range (ord:List Int) (v:Int):levelL ord v = -1∨∃ k:Nat,levelL ord v=k∧k < ord.length:=by
 unfold levelL
 split
 ·next h=>exact .inr ⟨_,rfl,List.idxOf_lt_length_of_mem h⟩
 ·exact .inl rfl
section
variable {w w':World} {mp:Nat} {M:MS} {a:MA} {n:Nat} {t:Tb} {A:Option Addr} {C:Nat} {ts:List Tb}
theorem width9_any (hM:MW w mp M a) (ho:OrdOk M) (v:Int) :
  Calls Tryz.prog 67 #[.pointer (some ⟨mp,0,none⟩),.int .i64 v] w fun e w'=>e=.returned (.int .i64 (widthM M v))∧Same w w':=by
 have HM:=Lib.hid hM
 have HO:=Lib.hid ho
 have hlo:=levelOf_any hM v
 unfold widthM
 have hr:=level_range M.ord v
 obtain ⟨x,hx⟩:∃ x,levelL M.ord v=x:=⟨_,rfl⟩
 rw [hx] at hlo hr ⊢
 have HLO:=Lib.hid hlo
 clear hM ho hlo hx
 go_enter Tryz.func67,Tryz.ntmps67
 go_wp2_with (fail)
 refine HLO.out.mono ?_
 rintro e w1 ⟨rfl,hs1⟩
 have HS1:=Lib.hid hs1
 clear hs1
 rcases hr with rfl | ⟨k,rfl,hk⟩
 ·go_wp2
  go_ret
  exact ⟨rfl,HS1.out⟩
 ·have h0:¬ ((k:Nat):Int) < 0:=by omega
  go_wp2_with (fail)
  refine (levels9_any (HM.out.same HS1.out) HO.out).mono ?_
  rintro e w2 ⟨A,C,rs,rfl,hLN,hlz,hs2⟩
  have hrl:rs.length=M.ord.length:=by
   have h1:(lz rs).length=M.ord.length:=by rw [hlz];unfold levelsL;rw [levels_len];simp
   rwa [lz_len] at h1
  have hol:=HM.out.ol
  obtain ⟨r,hr⟩:∃ r,rs[k]?=some r:=⟨_,List.getElem?_eq_getElem (by omega)⟩
  obtain ⟨sb,rfl,hsb,hc⟩:=hLN.own.get LRow.cells_len hr
  have c0:w2.cell? ⟨sb,k * 1,none⟩=some (.slice r.A r.ts.length r.C):=hc 0 (by omega)
  rw [Nat.mul_one] at c0
  have hI:(k:Int) < (rs.length:Int):=by omega
  have hk2:k < rs.length:=by omega
  have HRES:Hid (((levelsL M.n (zsM M) M.ord).getD k []).length=r.ts.length):=Lib.hid (by
   rw [← hlz,List.getD_eq_getElem?_getD]
   unfold lz
   rw [List.getElem?_map,hr]
   simp)
  have HS2:=Lib.hid (HS1.out.trans hs2 (fun _ _ h=>h))
  clear hLN hlz hs2 hr hc hk hrl
  go_wp2
  go_ret
  refine ⟨?_,HS2.out⟩
  have hres:=HRES.out
  rw [List.getD_eq_getElem?_getD] at hres
  rw [hres]
  rfl
end
def topL (n:Nat) (ord:List Int) (z:List Nat):Int:=(ord.find? fun v=>depB n z v.toNat).getD (-1)
theorem top_at {n:Nat} {ord:List Int} {z:List Nat} {k:Nat} {v:Int} (h:ord[k]?=some v) (hv:depB n z v.toNat=true) (hn:∀ u∈ord.take k,depB n z u.toNat=false):topL n ord z=v:=by
 obtain ⟨hk,he⟩:=List.getElem?_eq_some_iff.1 h
 have hl:ord=ord.take k ++ (v :: ord.drop (k+1)):=by rw [← he,List.getElem_cons_drop hk,List.take_append_drop]
 unfold topL
 rw [hl,List.find?_append]
 have:(ord.take k).find? (fun u=>depB n z u.toNat)=none:=List.find?_eq_none.2 fun p hp=>by simp [hn p hp]
 rw [this]
 simp [hv]
theorem top_no {n:Nat} {ord:List Int} {z:List Nat} (hn:∀ u∈ord,depB n z u.toNat=false):topL n ord z = -1:=by
 unfold topL
 have:ord.find? (fun u=>depB n z u.toNat)=none:=List.find?_eq_none.2 fun p hp=>by simp [hn p hp]
 rw [this]
 rfl
section
variable {w w':World} {mp:Nat} {M:MS} {a:MA} {t:Tb}
theorem top_any (hM:MW w mp M a) (ho:∀ v∈M.ord,0≤v∧v < M.n) (ht:TW w M.n t) :
  Calls Tryz.prog 113 #[.pointer (some ⟨mp,0,none⟩),t.val] w fun e w'=>e=.returned (.int .i64 (topL M.n M.ord t.ws))∧Same w w':=by
 have HM:=Lib.hid hM
 have HT:=Lib.hid ht
 have HO:=Lib.hid ho
 have c2:=hM.c2
 have hml:=hM.blk.lt
 have hol:=hM.ol
 have hN:=ht.N
 clear hM ht ho
 unfold Tb.val
 rw [hN]
 clear hN
 go_enter Tryz.func113,Tryz.ntmps113
 go_wp2_with (fail)
 refine wp_world fun w1 hw1=>?_
 have hX:=Blk.new w 108 #[.int .i64 M.n,.slice t.A t.ws.length t.C]
 have hs1:Same w w1:=by rw [hw1];exact (Frm.refl _ _).alloc _
 rw [← hw1] at hX
 clear hw1
 have HX:=Lib.hid hX
 have HS1:=Lib.hid hs1
 clear hX hs1 c2 hml
 go_loopw [12] (fun i wr=>∃ k:Nat,k≤M.ord.length∧i=.int .i64 k∧Same w1 wr∧∀ u∈M.ord.take k,depB M.n t.ws u.toNat=false) (fun i _=>M.ord.length - (intOf i).toNat)
 case atStart=>exact ⟨0,by omega,rfl,Frm.refl _ _,fun u hu=>by simp at hu⟩
 case round =>
  obtain ⟨k,hk,rfl,hS,hno⟩:=hrel
  have HS:=Lib.hid hS
  have HNO:=Lib.hid hno
  have hX:=HX.out.frm hS id
  have x0:=hX.cell 0
  have x1:=hX.cell 1
  have hxl:=hX.lt
  simp at x0 x1
  clear hS hno hX
  by_cases hlt:k < M.ord.length
  ·obtain ⟨u,hu⟩:∃ u,M.ord[k]?=some u:=⟨_,List.getElem?_eq_getElem hlt⟩
   have hSr:=HS1.out.trans HS.out (fun _ _ h=>h)
   have hil:IL wr a.oA M.ord.length M.ord:=(HM.out.same hSr).ord.sl icell_len
   obtain ⟨b,off,hA,hb,c0⟩:=hil.at1 hu
   have hI:(k:Int) < (M.ord.length:Int):=by omega
   obtain ⟨v0,v1⟩:=HO.out u (List.mem_of_getElem? hu)
   obtain ⟨m,rfl⟩:=Int.eq_ofNat_of_zero_le v0
   have hin:=fun w' (hw:Same wr w')=>depends5_any M.n m t.A t.C t.ws w' (by have:=(HT.out.same (hSr.trans hw (fun _ _ h=>h))).ok;rw [show t=⟨t.N,t.A,t.C,t.ws⟩ from rfl,HT.out.N] at this;exact this) HT.out.fm (by omega)
   have HU:=Lib.hid hu
   obtain ⟨bb,hbb⟩:∃ bb,depB M.n t.ws m=bb:=⟨_,rfl⟩
   rw [hbb] at hin
   have HIN:=Lib.hid hin
   have HBB:=Lib.hid hbb
   clear hu hil hin hbb v0 v1 hSr
   rw [hA]
   go_wp2_with (fail)
   refine (HIN.out _ (Frm.refl _ _)).mono ?_
   rintro e w3 ⟨rfl,hs3⟩
   have HS3:=Lib.hid (HS.out.trans hs3 (fun _ _ h=>h))
   clear hs3
   cases bb with
   | true =>
    go_wp2
    go_ret
    exact ⟨congrArg (fun x=>Ending.returned (Value.int .i64 x)) (top_at HU.out (by simpa using HBB.out) HNO.out).symm,HS1.out.trans HS3.out (fun _ _ h=>h)⟩
   | false =>
    go_wp2
    go_roundw
    case rel =>
     refine ⟨k+1,by omega,by go_num,HS3.out,fun v hv=>?_⟩
     rw [List.take_add_one,HU.out] at hv
     rcases List.mem_append.1 hv with hv | hv
     ·exact HNO.out v hv
     ·simp at hv
      rw [hv]
      simpa using HBB.out
    case measure=>simp [intOf] <;> omega
  ·obtain rfl:k=M.ord.length:=by omega
   have hI:¬ ((M.ord.length:Nat):Int) < (M.ord.length:Int):=by omega
   go_wp2
   go_ret
   refine ⟨?_,HS1.out.trans HS.out (fun _ _ h=>h)⟩
   rw [top_no (fun u hu=>HNO.out u (by rw [List.take_length];exact hu))]
   rfl
end
section
variable {w w':World} {mp:Nat} {M:MS} {a:MA} {n:Nat} {t:Tb} {A:Option Addr} {C:Nat} {ts:List Tb}
theorem above_any (hM:MW w mp M a) (ho:OrdOk M) (v:Int) (ht:TW w M.n t) :
  Calls Tryz.prog 111 #[.pointer (some ⟨mp,0,none⟩),.int .i64 v,t.val] w fun e w'=>e=.returned (.bool (decide (topL M.n M.ord t.ws < 0) || decide (levelL M.ord v < levelL M.ord (topL M.n M.ord t.ws))))∧Same w w':=by
 have HM:=Lib.hid hM
 have HT:=Lib.hid ht
 have hto:=fun w' (hs:Same w w')=>top_any (hM.same hs) ho (ht.same hs)
 unfold Tb.val at hto ⊢
 obtain ⟨u,hu⟩:∃ u,topL M.n M.ord t.ws=u:=⟨_,rfl⟩
 rw [hu] at hto ⊢
 have HTO:=Lib.hid hto
 clear hM ht ho hto hu
 obtain ⟨y,hy⟩:∃ y,levelL M.ord v=y:=⟨_,rfl⟩
 obtain ⟨z,hz⟩:∃ z,levelL M.ord u=z:=⟨_,rfl⟩
 rw [hy,hz]
 have hlv:=fun w' (hs:Same w w')=>levelOf_any (HM.out.same hs) v
 have hlu:=fun w' (hs:Same w w')=>levelOf_any (HM.out.same hs) u
 rw [hy] at hlv
 rw [hz] at hlu
 have HLV:=Lib.hid hlv
 have HLU:=Lib.hid hlu
 clear hlv hlu hy hz
 go_enter Tryz.func111,Tryz.ntmps111
 go_wp2_with (fail)
 refine (HTO.out _ ((Frm.refl _ _).alloc _)).mono ?_
 rintro e w1 ⟨rfl,hs1⟩
 have HS1:=Lib.hid (((Frm.refl _ _).alloc (.cells #[.int .i64 t.N,.slice t.A t.ws.length t.C] 108)).trans hs1 (fun _ _ h=>h))
 clear hs1
 by_cases h0:u < 0
 ·go_wp2
  go_ret
  refine ⟨?_,HS1.out⟩
  first | rfl | (simp only [h0,decide_true,Bool.true_or];rfl)
 ·go_wp2_with (fail)
  refine (HLV.out _ HS1.out).mono ?_
  rintro e w2 ⟨rfl,hs2⟩
  have HS2:=Lib.hid (HS1.out.trans hs2 (fun _ _ h=>h))
  clear hs2
  go_wp2_with (fail)
  refine (HLU.out _ HS2.out).mono ?_
  rintro e w3 ⟨rfl,hs3⟩
  have HS3:=Lib.hid (HS2.out.trans hs3 (fun _ _ h=>h))
  clear hs3
  by_cases h1:y < z
  all_goals
   go_wp2
   go_ret
   refine ⟨?_,HS3.out⟩
   simp [h1]
end
def ifF (v:Nat) (lo hi:List Nat) (x:Nat):Bool:=if x.testBit v then vb hi x else vb lo x
def ifT (n v:Nat) (lo hi:List Nat):List Nat:=tab n (ifF v lo hi)
section
variable {w w':World} {n:Nat} {t lo hi:Tb}
theorem bit5_any (ht:TW w n t) (x:Nat) (hx:x < 2 ^ n) :
  Calls Tryz.prog 124 #[t.val,.int .i64 x] w fun e w'=>e=.returned (.bool (vb t.ws x))∧Same w w':=by
 have hdl:x / 64 < t.ws.length:=by rw [ht.fm.len];exact div_lt_nw hx
 obtain ⟨z,hz⟩:∃ z,t.ws[x / 64]?=some z:=⟨_,List.getElem?_eq_getElem hdl⟩
 have hp16:=pow_le16 ht.fm.n16
 have hwl:t.ws.length≤1024:=by rw [ht.fm.len];exact nw_le ht.fm.n16
 obtain ⟨b,off,hA,hbl,hc⟩:=WL.at1 ht.ok.wl hz
 have hxs:=ht.sm.at1 hz
 have hvb:z.testBit (x % 64)=vb t.ws x:=by unfold vb;rw [List.getD_eq_getElem?_getD,hz];rfl
 have hbv:=bit_val z (x % 64)
 rw [hvb] at hbv
 have hN:=ht.N
 clear hvb hz ht
 obtain ⟨v,hv⟩:∃ v,vb t.ws x=v:=⟨_,rfl⟩
 rw [hv] at hbv ⊢
 clear hv
 obtain ⟨N,A,C,ws⟩:=t
 simp only at hdl hwl hA hN
 subst hA hN
 unfold Tb.val
 simp only
 obtain ⟨L,hL⟩:∃ L,ws.length=L:=⟨_,rfl⟩
 rw [hL] at hdl hwl ⊢
 clear hL
 have hm64:min (x % 64) 64=x % 64:=by omega
 have hq1:z / 2 ^ (x % 64)≤z:=Nat.div_le_self _ _
 have hkk:x % 64 < 64:=by omega
 have hn1:(x:Int) / 64=((x / 64:Nat):Int):=by omega
 have hn2:(x:Int) % 64=((x % 64:Nat):Int):=by omega
 have hpw:((z:Nat):Int) / 2 ^ (x % 64)=((z / 2 ^ (x % 64):Nat):Int):=by rw [pow_int];exact (Int.natCast_ediv _ _).symm
 have hx16:x < 65536:=by omega
 clear hp16
 generalize x % 64=r at *
 generalize z / 2 ^ r=y at *
 have hbv2:((y:Int) % 2 == 1)=v:=by rw [← hbv];simp
 generalize x / 64=q at *
 go_enter Tryz.func124,Tryz.ntmps124
 go_wp2
 go_ret
 exact ⟨rfl,(Frm.refl _ _).alloc _⟩
def ifP (F:Nat→Bool) (M k:Nat):List Bool:=(List.range M).map fun i=>decide (i < k) && F i
theorem ifP_zero (F:Nat→Bool) (M:Nat):ifP F M 0=List.replicate M false:=by
 apply List.ext_getElem?
 intro i
 rcases Nat.lt_or_ge i M with h | h
 ·simp [ifP,h]
 ·rw [List.getElem?_eq_none (by simpa [ifP] using h),List.getElem?_eq_none (by simpa using h)]
theorem ifP_all (F:Nat→Bool) (M:Nat):ifP F M M=vals M F:=by
 unfold ifP vals
 refine List.map_congr_left fun i hi=>?_
 rw [decide_eq_true (List.mem_range.1 hi),Bool.true_and]
theorem ifP_set (F:Nat→Bool) {M k:Nat} (h:k < M):(ifP F M k).set k (F k)=ifP F M (k+1):=by
 apply List.ext_getElem?
 intro i
 rcases Nat.lt_or_ge i M with hi | hi
 ·rw [List.getElem?_set]
  simp only [ifP,List.getElem?_map,List.getElem?_range hi,Option.map_some,List.length_map,List.length_range,h,if_true]
  by_cases he:k=i
  ·subst he;simp
  ·rw [if_neg he]
   congr 2
   rw [decide_eq_decide]
   omega
 ·rw [List.getElem?_eq_none (by simp [ifP,hi]),List.getElem?_eq_none (by simp [ifP,hi])]
theorem if9_any (v:Nat) (hv:v < n) (hlo:TW w n lo) (hhi:TW w n hi) :
  Calls Tryz.prog 104 #[.int .i64 v,lo.val,hi.val] w (RetT w n (ifT n v lo.ws hi.ws)):=by
 have hn:=hlo.fm.n16
 have HF:=Lib.hid (fun A C w' (h:BL w' A (2 ^ n) (vals (2 ^ n) (ifF v lo.ws hi.ws)))=>fill_any n C A (ifF v lo.ws hi.ws) w' hn h)
 unfold ifT
 have HLO:=Lib.hid (fun w' (hs:Same w w') x hx=>bit5_any (hlo.same hs) x hx)
 have HHI:=Lib.hid (fun w' (hs:Same w w') x hx=>bit5_any (hhi.same hs) x hx)
 have HFF:=Lib.hid (show ∀ k,ifF v lo.ws hi.ws k=if k.testBit v then vb hi.ws k else vb lo.ws k from fun k=>rfl)
 have hNl:=hlo.N
 have hNh:=hhi.N
 clear hlo hhi
 obtain ⟨F,hF⟩:∃ F,F=ifF v lo.ws hi.ws:=⟨_,rfl⟩
 rw [← hF] at HF HFF ⊢
 clear hF
 obtain ⟨W,hW⟩:∃ W,W=tab n F:=⟨_,rfl⟩
 rw [← hW] at HF ⊢
 clear hW
 unfold Tb.val at HLO HHI ⊢
 rw [hNl] at HLO ⊢
 rw [hNh] at HHI ⊢
 clear hNl hNh
 have hp:(2:Nat) ^ n≤2 ^ 16:=Nat.pow_le_pow_right (by omega) hn
 have h2:(2:Int) ^ n=((2 ^ n:Nat):Int):=by rw [Int.natCast_pow];rfl
 obtain ⟨M,hM⟩:∃ M,M=2 ^ n:=⟨_,rfl⟩
 rw [← hM] at HF HLO HHI hp h2
 have hm64:min n 64=n:=by omega
 have hvm:min v 64=v:=by omega
 have hv0:(0:Int)≤v:=by omega
 have hw:IntKind.i64.wrap ((2:Int) ^ n)=(M:Int):=by rw [h2];exact IntWalk.i64_in _ (by omega)
 have hw2:wrap64 ((2:Int) ^ n)=(M:Int):=by rw [← hw];simp [IntKind.wrap_i64,wrap64]
 have hmk:=fun w=>run_make_n (P:=Tryz.prog) Tryz.underlying56 info_bool .i64 .i64 M (show 1 * M≤281474976710656 by omega) (show M≤9223372036854775807 by omega) w
 clear hM h2
 go_enter Tryz.func104,Tryz.ntmps104
 go_upto_region 2 with fail
 refine wp_world fun w1 hw1=>?_
 have hs1:Same w w1:=by rw [hw1];exact ((((Frm.refl _ _).alloc _).alloc _).alloc _).alloc _
 have hBL:Blk w1 w.heap.size 108 #[.int .i64 n,.slice lo.A lo.ws.length lo.C]:=by
  rw [hw1]
  exact ((((Blk.new w 108 #[.int .i64 n,.slice lo.A lo.ws.length lo.C]).alloc _).alloc _).alloc _)
 have hBH:Blk w1 (w.heap.size+1) 108 #[.int .i64 n,.slice hi.A hi.ws.length hi.C]:=by
  rw [hw1]
  have:=((Blk.new (w.alloc (.cells #[.int .i64 n,.slice lo.A lo.ws.length lo.C] 108)) 108 #[.int .i64 n,.slice hi.A hi.ws.length hi.C]).alloc (.cells #[.int .i64 0,.slice none 0 0] 108)).alloc (.cells (madeCells #[.bool false] M) 4)
  simpa using this
 have hBR:Blk w1 (w.heap.size+1+1) 108 #[.int .i64 0,.slice none 0 0]:=by
  rw [hw1]
  have:=((Blk.new ((w.alloc (.cells #[.int .i64 n,.slice lo.A lo.ws.length lo.C] 108)).alloc (.cells #[.int .i64 n,.slice hi.A hi.ws.length hi.C] 108)) 108 #[.int .i64 0,.slice none 0 0]).alloc (.cells (madeCells #[.bool false] M) 4))
  simpa using this
 have hO:Own w1 4 1 bcl (some ⟨w.heap.size+1+1+1,0,none⟩) M M (ifP F M 0):=by
  have h:=Own.ofMade (m:=1) (((w.alloc (.cells #[.int .i64 n,.slice lo.A lo.ws.length lo.C] 108)).alloc (.cells #[.int .i64 n,.slice hi.A hi.ws.length hi.C] 108)).alloc (.cells #[.int .i64 0,.slice none 0 0] 108)) 4 bcl (fun _=>rfl) (by decide) false M (show M≤9223372036854775807 by omega) rfl
  rw [hw1]
  simpa [bcl,ifP_zero] using h
 obtain ⟨T1,hT1⟩:∃ z,z=w.heap.size:=⟨_,rfl⟩
 obtain ⟨T2,hT2⟩:∃ z,z=w.heap.size+1:=⟨_,rfl⟩
 obtain ⟨R,hR⟩:∃ z,z=w.heap.size+1+1:=⟨_,rfl⟩
 obtain ⟨G,hG⟩:∃ z,z=w.heap.size+1+1+1:=⟨_,rfl⟩
 have hwR:w.heap.size≤R:=by omega
 have hwG:w.heap.size≤G:=by omega
 have hGR:G≠R:=by omega
 have hG1:G≠T1:=by omega
 have hG2:G≠T2:=by omega
 have hR1:T1+1=T2:=by omega
 have hR2:T2+1=R:=by omega
 have hRG:R+1=G:=by omega
 simp only [← hT1,hR1,hR2,hRG] at hBL hBH hBR hO
 simp only [← hT1,hR1,hR2,hRG]
 have HS:=Lib.hid hs1
 have HBL:=Lib.hid hBL
 have HBH:=Lib.hid hBH
 have HBR:=Lib.hid hBR
 have HO:=Lib.hid hO
 clear hw1 hs1 hBL hBH hBR hO hT1 hT2 hR hG hR1 hR2 hRG hmk hw hw2 hm64
 go_wp2
 go_loopw [8] (fun i wi=>∃ k:Nat,k≤M∧i=.int .i64 k∧Same w wi∧Blk wi T1 108 #[.int .i64 n,.slice lo.A lo.ws.length lo.C]∧Blk wi T2 108 #[.int .i64 n,.slice hi.A hi.ws.length hi.C]∧Blk wi R 108 #[.int .i64 0,.slice none 0 0]∧Own wi 4 1 bcl (some ⟨G,0,none⟩) M M (ifP F M k)) (fun i _=>M - (intOf i).toNat)
 case atStart=>exact ⟨0,by omega,rfl,HS.out,HBL.out,HBH.out,HBR.out,HO.out⟩
 case round =>
  clear HS HBL HBH HBR HO
  obtain ⟨k,hk,rfl,hs,hbl,hbh,hbr,ho⟩:=hrel
  have l0:=hbl.cell 0
  have l1:=hbl.cell 1
  have ll:=hbl.lt
  have h0:=hbh.cell 0
  have h1:=hbh.cell 1
  have lh:=hbh.lt
  simp at l0 l1 h0 h1
  by_cases hlt:k < M
  ·have hlk:k < (ifP F M k).length:=by rw [← ho.len];exact hlt
   obtain ⟨x,hx⟩:∃ x,(ifP F M k)[k]?=some x:=⟨_,List.getElem?_eq_getElem hlk⟩
   have hst:=fun w' (hw:Same wr w')=>Own.put1 (c:=fun x:Bool=>.bool x) (Own.frm ho hw (fun _ _=>id)) hlk (F k)
   rw [ifP_set F hlt] at hst
   obtain ⟨tb,htb⟩:∃ z,k.testBit v=z:=⟨_,rfl⟩
   have hFk:=HFF.out k
   rw [htb] at hFk
   have hbr2:(((k:Int) / 2 ^ v).tmod 2 == 1)=tb:=by rw [← htb];exact rem_nat k v
   have hk0:(0:Int)≤k:=by omega
   have hk1:(k:Int) < M:=by omega
   have hbl':=hbl
   have HBL:=Lib.hid hbl
   have HBH:=Lib.hid hbh
   have HBR:=Lib.hid hbr
   have HS:=Lib.hid hs
   have HST:=Lib.hid hst
   have HO:=Lib.hid ho
   have HX:=Lib.hid hx
   clear hbl hbh hbr hs hst ho hbl' htb hx hlk
   cases tb with
   | true =>
    obtain ⟨bv,hbv⟩:∃ z,vb hi.ws k=z:=⟨_,rfl⟩
    rw [if_pos rfl,hbv] at hFk
    have hcb:=HHI.out wr HS.out k hlt
    rw [hbv] at hcb
    have HCB:=Lib.hid hcb
    rw [hFk] at HST
    clear hcb hbv hFk
    go_wp2_with (fail)
    refine HCB.out.mono ?_
    rintro e w2 ⟨rfl,hs2⟩
    obtain ⟨s0,h00,hgl,c0⟩:=Own.at1 (c:=fun x:Bool=>.bool x) (Own.frm HO.out hs2 (fun _ _=>id)) HX.out
    injection h00 with h00
    injection h00 with h00
    subst h00
    have fz:=Own.free (Own.frm HO.out hs2 (fun _ _=>id)) k
    have HP:=Lib.hid (HST.out w2 hs2)
    have HSP:=Lib.hid ((HS.out.trans hs2 (fun _ _ h=>h)).setNew k (.bool bv) hwG)
    have HP1:=Lib.hid ((HBL.out.frm hs2 id).far (p:=⟨G,k,none⟩) (Ne.symm hG1) (.bool bv))
    have HP2:=Lib.hid ((HBH.out.frm hs2 id).far (p:=⟨G,k,none⟩) (Ne.symm hG2) (.bool bv))
    have HP3:=Lib.hid ((HBR.out.frm hs2 id).far (p:=⟨G,k,none⟩) (Ne.symm hGR) (.bool bv))
    clear hs2 l0 l1 ll h0 h1 lh
    go_wp2
    go_roundw
    case rel=>exact ⟨k+1,by omega,by go_num,HSP.out,HP1.out,HP2.out,HP3.out,HP.out⟩
    case measure=>simp [intOf] <;> omega
   | false =>
    obtain ⟨bv,hbv⟩:∃ z,vb lo.ws k=z:=⟨_,rfl⟩
    rw [if_neg (by decide),hbv] at hFk
    have hcb:=HLO.out wr HS.out k hlt
    rw [hbv] at hcb
    have HCB:=Lib.hid hcb
    rw [hFk] at HST
    clear hcb hbv hFk
    go_wp2_with (fail)
    refine HCB.out.mono ?_
    rintro e w2 ⟨rfl,hs2⟩
    obtain ⟨s0,h00,hgl,c0⟩:=Own.at1 (c:=fun x:Bool=>.bool x) (Own.frm HO.out hs2 (fun _ _=>id)) HX.out
    injection h00 with h00
    injection h00 with h00
    subst h00
    have fz:=Own.free (Own.frm HO.out hs2 (fun _ _=>id)) k
    have HP:=Lib.hid (HST.out w2 hs2)
    have HSP:=Lib.hid ((HS.out.trans hs2 (fun _ _ h=>h)).setNew k (.bool bv) hwG)
    have HP1:=Lib.hid ((HBL.out.frm hs2 id).far (p:=⟨G,k,none⟩) (Ne.symm hG1) (.bool bv))
    have HP2:=Lib.hid ((HBH.out.frm hs2 id).far (p:=⟨G,k,none⟩) (Ne.symm hG2) (.bool bv))
    have HP3:=Lib.hid ((HBR.out.frm hs2 id).far (p:=⟨G,k,none⟩) (Ne.symm hGR) (.bool bv))
    clear hs2 l0 l1 ll h0 h1 lh
    go_wp2
    go_roundw
    case rel=>exact ⟨k+1,by omega,by go_num,HSP.out,HP1.out,HP2.out,HP3.out,HP.out⟩
    case measure=>simp [intOf] <;> omega
  ·obtain rfl:k=M:=by omega
   have HB:=Lib.hid (show BL wr (some ⟨G,0,none⟩) k (vals k F) by rw [← ifP_all];exact ho.sl (fun _=>rfl))
   have HS:=Lib.hid hs
   have HBR:=Lib.hid hbr
   clear hs hbr ho hbl hbh h0 h1 lh
   go_wp2_with (fail)
   refine (HF.out (some ⟨G,0,none⟩) k wr HB.out).mono ?_
   rintro e w2 ⟨A,C,rfl,hNT⟩
   have hBR:=HBR.out.frm hNT.2.2 id
   have cR0:w2.cell? ⟨R,0,none⟩=some (.int .i64 0):=hBR.cell 0
   have cR1:w2.cell? ⟨R,1,none⟩=some (.slice none 0 0):=hBR.cell 1
   have lR:=hBR.lt
   have fR0:=hBR.free 0
   have fR1:=hBR.free 1
   have HB2:=Lib.hid hBR
   have HOT:=Lib.hid hNT.1
   have HFA:=Lib.hid (show Fresh w.heap.size A from fun x hx=>Nat.le_trans HS.out.size (hNT.2.1 x hx))
   have HAR:=Lib.hid (show ∀ a,A=some a→a.block≠R from fun a ha h=>by have:=hNT.2.1 a.block ⟨a,ha,rfl⟩;have:=HBR.out.lt;omega)
   have HS2:=Lib.hid (HS.out.trans hNT.2.2 (fun _ _ h=>h))
   clear hNT hBR l0 l1 ll
   go_wp2
   refine wp_post fun w3 hw3=>?_
   have hBE:Blk w3 R 108 #[.int .i64 n,.slice A W.length C]:=by
    rw [hw3]
    have:=(HB2.out.set 0 (.int .i64 n)).set 1 (.slice A W.length C)
    simpa using this
   have hSE:Same w w3:=by rw [hw3];exact (HS2.out.setNew 0 _ hwR).setNew 1 _ hwR
   have hOE:OwnW w3 A W.length C W:=by
    rw [hw3]
    exact (Own.far (p:=⟨R,0,none⟩) HOT.out HAR.out _).far (p:=⟨R,1,none⟩) HAR.out _
   have hr0:w3.cell? ⟨R,0,none⟩=some (.int .i64 n):=hBE.cell 0
   have hr1:w3.cell? ⟨R,1,none⟩=some (.slice A W.length C):=hBE.cell 1
   have HFF:=HFA.out
   clear hw3 hBE
   refine bodyPost_ret (v:=.agg #[.int .i64 n,.slice A W.length C]) (by simp [results,Tryz.results104,go_sem,hr0,hr1]) rfl ?_
   exact ⟨A,C,rfl,hOE,HFF,hSE⟩
end
def MFp (mp:Nat) (a:MA) (b:Nat):Prop:=b=mp∨rowOf a.oA b∨rowOf a.hA b∨rowOf a.tA b
structure MGo (mp:Nat) (w:World) (a:MA) (w':World) (a':MA):Prop where
 frm:Frm (MFp mp a) w w'
 fp:∀ b,MFp mp a' b→MFp mp a b∨w.heap.size≤b
def HcOk (M:MS):Prop:=∀ p∈M.held,0≤p.2∧p.2≤65535
def holdN:List (List Nat × Int)→List Nat→List (List Nat × Int) × Int
 | [],z=>([(z,1)],0)
 | (y,c) :: l,z=>if y=z then (if 65535≤c then ((y,c) :: l,8) else ((y,c+1) :: l,0)) else ((y,c) :: (holdN l z).1,(holdN l z).2)
def relN:List (List Nat × Int)→List Nat→List (List Nat × Int) × Int
 | [],_=>([],3)
 | (y,c) :: l,z=>if y=z then (if c - 1=0 then (l,0) else ((y,c - 1) :: l,0)) else ((y,c) :: (relN l z).1,(relN l z).2)
theorem holdN_no {l:List (List Nat × Int)} {z:List Nat} (hn:∀ p∈l,p.1≠z):holdN l z=(l ++ [(z,1)],0):=by
 induction l with
 | nil=>rfl
 | cons p l ih =>
  obtain ⟨y,c⟩:=p
  rw [holdN,if_neg (hn (y,c) (List.mem_cons_self ..)),ih (fun q hq=>hn q (List.mem_cons_of_mem _ hq))]
  rfl
theorem holdN_at {l:List (List Nat × Int)} {z:List Nat} {c:Int}:∀ {k:Nat},l[k]?=some (z,c)→(∀ p∈l.take k,p.1≠z)→holdN l z=if 65535≤c then (l,8) else (l.set k (z,c+1),0):=by
 induction l with
 | nil=>intro k h;simp at h
 | cons p l ih =>
  intro k h hn
  obtain ⟨y,d⟩:=p
  cases k with
  | zero =>
   simp at h
   obtain ⟨rfl,rfl⟩:=h
   rw [holdN,if_pos rfl]
   rfl
  | succ k =>
   rw [holdN,if_neg (hn (y,d) (by simp)),ih (k:=k) (by simpa using h) (fun q hq=>hn q (by simp [hq]))]
   split <;> rfl
theorem relN_no {l:List (List Nat × Int)} {z:List Nat} (hn:∀ p∈l,p.1≠z):relN l z=(l,3):=by
 induction l with
 | nil=>rfl
 | cons p l ih =>
  obtain ⟨y,c⟩:=p
  rw [relN,if_neg (hn (y,c) (List.mem_cons_self ..)),ih (fun q hq=>hn q (List.mem_cons_of_mem _ hq))]
theorem relN_at {l:List (List Nat × Int)} {z:List Nat} {c:Int}:∀ {k:Nat},l[k]?=some (z,c)→(∀ p∈l.take k,p.1≠z)→relN l z=if c - 1=0 then (l.take k ++ l.drop (k+1),0) else (l.set k (z,c - 1),0):=by
 induction l with
 | nil=>intro k h;simp at h
 | cons p l ih =>
  intro k h hn
  obtain ⟨y,d⟩:=p
  cases k with
  | zero =>
   simp at h
   obtain ⟨rfl,rfl⟩:=h
   rw [relN,if_pos rfl]
   rfl
  | succ k =>
   rw [relN,if_neg (hn (y,d) (by simp)),ih (k:=k) (by simpa using h) (fun q hq=>hn q (by simp [hq]))]
   split <;> rfl
section
variable {w w':World} {mp:Nat} {M:MS} {a:MA} {n:Nat} {t:Tb}
theorem MGo.same (hf:Same w w'):MGo mp w a w' a:=⟨hf.mono (fun _ _ h=>h.elim),fun _ h=>.inl h⟩
theorem MGo.refl (mp:Nat) (w:World) (a:MA):MGo mp w a w a:=⟨Frm.refl _ _,fun _ h=>.inl h⟩
theorem MGo.trans {w1 w2:World} {a1 a2:MA} (h:MGo mp w a w1 a1) (g:MGo mp w1 a1 w2 a2):MGo mp w a w2 a2 :=
 ⟨h.frm.trans g.frm (fun i hi hk=>(h.fp i hk).elim id (fun h=>by omega)),fun b hb=>(g.fp b hb).elim (h.fp b) (fun h2=>.inr (Nat.le_trans h.frm.size h2))⟩
theorem row_lt {e:TypeId} {m:Nat} {α:Type} {f:α→List Value} {A:Option Addr} {N C:Nat} {xs:List α} (h:Go.Tk.Own w e m f A N C xs) {b:Nat} (hb:rowOf A b):b < w.heap.size:=by
 obtain ⟨x,hx,rfl⟩:=hb
 exact h.block x hx
theorem MW.lt (h:MW w mp M a) {b:Nat} (hb:MFp mp a b):b < w.heap.size:=by
 rcases hb with rfl | hb | hb | hb
 ·exact h.blk.lt
 ·exact row_lt h.ord hb
 ·exact row_lt h.hs hb
 ·exact row_lt h.tr hb
theorem MW.ne_own (h:MW w mp M a) {e:TypeId} {m:Nat} {α:Type} {f:α→List Value} {A:Option Addr} {N C:Nat} {xs:List α} (ho:Go.Tk.Own w e m f A N C xs) (h1:e≠112) (h2:e≠155) (h3:e≠3):∀ b,rowOf A b→¬ MFp mp a b:=by
 rintro b hb (rfl | hk | hk | hk)
 ·obtain ⟨x,hx,hxb⟩:=hb
  exact ho.ne_blk h.blk h1 x hx hxb
 ·exact ho.ne_own h.ord h3 b hb hk
 ·exact ho.ne_own h.hs h2 b hb hk
 ·exact ho.ne_own h.tr h3 b hb hk
theorem TW.frmM (ht:TW w n t) (h:MW w mp M a) {S:Nat→Prop} (hf:Frm S w w') (hS:∀ b,S b→MFp mp a b):TW w' n t :=
 ⟨ht.N,ht.own.frm hf (fun x hx hs=>h.ne_own ht.own (by decide) (by decide) (by decide) x.block ⟨x,hx,rfl⟩ (hS _ hs)),ht.fm,ht.sm⟩
theorem MW.frm {S:Nat→Prop} (h:MW w mp M a) (hf:Frm S w w') (hs:∀ b,MFp mp a b→¬ S b) (ht:∀ q∈a.hs,∀ b,rowOf q.t.A b→¬ S b):MW w' mp M a :=
 ⟨h.blk.frm hf (hs _ (.inl rfl)),h.ord.frm hf (fun x hx=>hs _ (.inr (.inl ⟨x,hx,rfl⟩))),h.hs.frm hf (fun x hx=>hs _ (.inr (.inr (.inl ⟨x,hx,rfl⟩)))),fun q hq=>⟨(h.tw q hq).N,(h.tw q hq).own.frm hf (fun x hx=>ht q hq _ ⟨x,hx,rfl⟩),(h.tw q hq).fm,(h.tw q hq).sm⟩,h.held,h.tr.frm hf (fun x hx=>hs _ (.inr (.inr (.inr ⟨x,hx,rfl⟩)))),h.n16,h.ol,h.hl,h.trl,h.dj⟩
end
theorem info_int:(Tryz.prog.info? 3).map (fun i=>(i.zero,i.size,i.bytes))=some (some (.int .i64 0),1,8):=by kernel_rfl
theorem take_snoc {α:Type} {xs:List α} {k:Nat} {x:α} (h:xs[k]?=some x):xs.take (k+1)=xs.take k ++ [x]:=by
 have hl:=lt_of_get h
 rw [List.getElem?_eq_getElem hl] at h
 injection h with h
 rw [List.take_succ_eq_append_getElem hl,h]
end Go.Proofs.YtiomgckodmecbaaGreat
namespace Go.Tk
open Go.RowKit
theorem Frm.same_app {w0 w wa wb:World} {A:Option Addr} {N C:Nat} (h:Frm (fun _=>False) w0 w) (ha:Frm (fun _=>False) w wa) (hg:wa.grownBy wb (Value.slice A N C).ownBlock) (hA:Fresh w0.heap.size A):Frm (fun _=>False) w0 wb :=
 (h.trans ha (fun _ _ h=>h)).grown hg (fun g hg=>.inr (hA g (ownBlock_row.1 hg)))
theorem Same.app {w0 w wa wb:World} {A:Option Addr} {N C:Nat} (h:Same w0 w) (ha:Same w wa) (hg:wa.grownBy wb (Value.slice A N C).ownBlock) (hA:Fresh w0.heap.size A):Same w0 wb:=Frm.same_app h ha hg hA
theorem IL.src {w:World} {A:Option Addr} {n:Nat} {xs:List Int} (h:IL w A n xs) (hne:xs≠[]):∃ ad,A=some ad∧∀ j u,(xs.flatMap icell)[j]?=some u→w.cell? (ad.add j)=some u:=by
 have h0:0 < xs.length:=List.length_pos_iff.2 hne
 obtain ⟨b,off,rfl,_,_⟩:=h.at1 (List.getElem?_eq_getElem h0)
 refine ⟨_,rfl,fun j u hj=>?_⟩
 have hfl:∀ l:List Int,l.flatMap icell=l.map (fun x=>Value.int .i64 x):=by
  intro l
  induction l with
  | nil=>rfl
  | cons x l ih=>rw [List.flatMap_cons,ih];rfl
 rw [hfl,List.getElem?_map] at hj
 cases hx:xs[j]? with
 | none=>rw [hx] at hj;cases hj
 | some x =>
  rw [hx] at hj
  simp at hj
  subst hj
  obtain ⟨b',off',h1,_,h3⟩:=h.at1 hx
  injection h1 with h1
  injection h1 with h1 h2
  subst h1 h2
  have:(⟨b,off,none⟩:Addr).add j=⟨b,off+j,none⟩:=by unfold Addr.add;split <;> simp_all
  rw [this]
  exact h3
theorem IL.nil {w:World} {n:Nat} {xs:List Int} (h:IL w none n xs):xs=[]:=by
 cases xs with
 | nil=>rfl
 | cons x xs =>
  obtain ⟨b,off,h1,_⟩:=h.at1 (i:=0) (x:=x) rfl
  cases h1
end Go.Tk
namespace Go.Proofs.YtiomgckodmecbaaGreat
open Go.RowKit Go.Tk
def NewL (w:World) (ys:List Int) (A:Option Addr) (C:Nat) (w':World):Prop:=OwnI w' 3 A ys.length C ys∧Fresh w.heap.size A∧Same w w'
def RetL (w:World) (ys:List Int) (e:Ending) (w':World):Prop:=∃ A C,e=.returned (.slice A ys.length C)∧NewL w ys A C w'
def RetE (w:World) (ys:List Int) (err:Int) (e:Ending) (w':World):Prop:=∃ A C,e=.returned (.tuple #[.slice A ys.length C,.int .i64 err])∧NewL w ys A C w'
theorem NewL.nil (w:World):NewL w [] none 0 w:=⟨Own.nil _ _ _ _,fresh_none _,Frm.refl _ _⟩
theorem place_any (A:Option Addr) (n C:Nat) (xs:List Int) (x:Int) (w:World) (h:IL w A n xs) (hr:n * 8≤140737488351232) :
  Calls Tryz.prog 115 #[.slice A n C,.int .i64 x] w fun e w'=>e=.returned (.int .i64 (plc xs x))∧w=w':=by
 obtain rfl:=h.len
 have H:=Lib.hid h
 clear h
 go_enter Tryz.func115,Tryz.ntmps115
 go_wp2
 go_loopw [9] (fun i wr=>∃ k:Nat,k≤xs.length∧i=.int .i64 k∧x ∉ xs.take k∧w=wr) (fun i _=>xs.length - (intOf i).toNat)
 case atStart=>exact ⟨0,by omega,rfl,by simp,rfl⟩
 case round =>
  obtain ⟨k,hk,rfl,hn,rfl⟩:=hrel
  by_cases hlt:k < xs.length
  ·obtain ⟨y,hy⟩:∃ y,xs[k]?=some y:=⟨_,List.getElem?_eq_getElem hlt⟩
   obtain ⟨b,off,rfl,hb,hc⟩:=H.out.at1 hy
   have hi0:(0:Int)≤k:=by omega
   have hi1:(k:Int) < xs.length:=by omega
   have HN:=Lib.hid hn
   have HY:=Lib.hid hy
   clear hn hy
   by_cases he:y=x
   ·subst he
    go_wp2
    go_ret
    exact ⟨ret_int (plc_first HY.out HN.out).symm,rfl⟩
   ·have he':(y == x)=false:=by simpa using he
    have HE:=Lib.hid he
    clear he
    go_wp2
    go_roundw
    case rel=>exact ⟨k+1,by omega,by go_num,by rw [take_snoc HY.out];simp [HN.out,Ne.symm HE.out],trivial⟩
    case measure=>simp [intOf] <;> omega
  ·obtain rfl:k=xs.length:=by omega
   have HN:=Lib.hid hn
   clear hn
   go_wp2
   go_ret
   exact ⟨ret_int (plc_none (by simpa using HN.out)).symm,rfl⟩
theorem doccheck_any (A:Option Addr) (n C:Nat) (xs:List Int) (w:World) (h:IL w A n xs) (hr:n * 8≤140737488351232) :
  Calls Tryz.prog 83 #[.slice A n C] w fun e w'=>e=.returned (.int .i64 (chk xs))∧w=w':=by
 obtain rfl:=h.len
 have H:=Lib.hid h
 clear h
 go_enter Tryz.func83,Tryz.ntmps83
 go_wp2
 go_loopw [3] (fun i wr=>∃ k:Nat,k≤xs.length∧i=.int .i64 k∧(∀ v:Nat,v < k→(v:Int)∈xs)∧w=wr) (fun i _=>xs.length - (intOf i).toNat)
 case atStart=>exact ⟨0,by omega,rfl,fun v hv=>by omega,rfl⟩
 case round =>
  obtain ⟨k,hk,rfl,hn,rfl⟩:=hrel
  have HN:=Lib.hid hn
  clear hn
  by_cases hlt:k < xs.length
  ·have hi1:(k:Int) < xs.length:=by omega
   by_cases he:(k:Int)∈xs
   ·have hp:¬ plc xs k < 0:=fun h=>plc_neg.1 h he
    have HE:=Lib.hid he
    clear he
    go_wp2_with (fail)
    refine (place_any A _ C xs k w H.out hr).mono ?_
    rintro e w1 ⟨rfl,rfl⟩
    go_wp2
    go_roundw
    case rel=>exact ⟨k+1,by omega,by go_num,fun v hv=>by
     rcases Nat.lt_or_ge v k with h | h
     ·exact HN.out v h
     ·obtain rfl:v=k:=by omega
      exact HE.out,trivial⟩
    case measure=>simp [intOf] <;> omega
   ·have hp:plc xs k < 0:=plc_neg.2 he
    have HE:=Lib.hid he
    clear he
    go_wp2_with (fail)
    refine (place_any A _ C xs k w H.out hr).mono ?_
    rintro e w1 ⟨rfl,rfl⟩
    go_wp2
    go_ret
    exact ⟨ret_int (by unfold chk;rw [if_neg (fun h=>HE.out (h.mem hlt))]),rfl⟩
  ·obtain rfl:k=xs.length:=by omega
   have HP:=Lib.hid (isPerm_of_all HN.out)
   by_cases h64:64 < xs.length
   ·have h64':(xs.length:Int) > 64:=by omega
    go_wp2
    go_ret
    exact ⟨ret_int (by unfold chk;rw [if_pos HP.out,if_pos h64]),rfl⟩
   ·have h64':¬ (xs.length:Int) > 64:=by omega
    go_wp2
    go_ret
    exact ⟨ret_int (by unfold chk;rw [if_pos HP.out,if_neg h64]),rfl⟩
theorem clone_any (A:Option Addr) (n C:Nat) (xs:List Int) (w:World) (h:IL w A n xs) (hr:n * 8≤140737488351232) :
  Calls Tryz.prog 54 #[.slice A n C] w (RetL w xs):=by
 obtain rfl:=h.len
 cases A with
 | none =>
  have hx:=h.nil
  subst hx
  clear h
  go_enter Tryz.func54,Tryz.ntmps54
  go_wp2
  go_ret
  exact ⟨none,0,rfl,NewL.nil w⟩
 | some ad =>
  have H:=Lib.hid h
  clear h
  go_enter Tryz.func54,Tryz.ntmps54
  go_upto_region 3 with fail
  refine wp_region_lit ?_
  refine wpList_plain rfl fun K hK=>?_
  go_simp
  refine hK _ _ ?_
  clear hK K
  refine list_world fun wa hwa=>?_
  have hO:=Own.lit w 3 icell (fun _=>rfl) [] (by simp) (cs:=#[]) rfl
  have hsa:Same w wa:=by rw [hwa];exact (Frm.refl _ _).alloc _
  rw [← hwa] at hO
  clear hwa
  refine wpList_read 1 ?_
  simp only [List.take_succ_cons,List.take_zero,List.drop_succ_cons,List.drop_zero]
  repeat (any_goals (first | go_big_quiet_step (fail) | quiet_step (fail)))
  refine wpQuiet_nil ?_
  refine wpList_plain rfl fun K hK=>?_
  refine Own.append_many (.tmp 5) (.tmp 6) _ rfl Tryz.underlying46 info_int rfl (by omega) rfl hO (fun _=>rfl) xs (some ad) C rfl (fun hne=>IL.src (Sl.same H.out hsa) hne) (by simp [icell,Value.oneCell']) (by simp [maxLen] <;> omega) (by simp <;> omega) ?_
  intro A1 C1 w1 hO1 hg1 hat1
  refine hK _ _ ?_
  clear hK K
  simp only [List.nil_append] at hO1 ⊢
  have hF0:Fresh w.heap.size (some ⟨w.heap.size,0,none⟩):=fresh_some (Nat.le_refl _)
  have hs1:=Same.app (Frm.refl _ _) hsa hg1 hF0
  have hF1:Fresh w.heap.size A1:=fun b hb=>by
   have:=hsa.size
   rcases hat1 b hb with h | h
   ·exact hF0 b h
   ·omega
  have HO1:=Lib.hid hO1
  have HS1:=Lib.hid hs1
  have HF1:=Lib.hid hF1
  clear hO1 hs1 hF1 hat1 hg1 hF0 hO hsa
  go_wp2
  go_ret
  exact ⟨A1,C1,rfl,HO1.out,HF1.out,HS1.out⟩
def idL (n k:Nat):List Int:=(List.range n).map fun j:Nat=>if j < k then (j:Int) else 0
theorem idL_len (n k:Nat):(idL n k).length=n:=by simp [idL]
theorem idL_zero (n:Nat):idL n 0=List.replicate n 0:=by
 apply List.ext_getElem?
 intro j
 rcases Nat.lt_or_ge j n with h | h
 ·simp [idL,h]
 ·rw [List.getElem?_eq_none (by rw [idL_len];exact h),List.getElem?_eq_none (by simpa using h)]
theorem idL_full (n:Nat):idL n n=rng n:=by
 apply List.ext_getElem?
 intro j
 rcases Nat.lt_or_ge j n with h | h
 ·rw [rng_get h];simp [idL,h]
 ·rw [List.getElem?_eq_none (by rw [idL_len];exact h),List.getElem?_eq_none (by rw [rng_len];exact h)]
theorem idL_set {n k:Nat} (_h:k < n):(idL n k).set k (k:Int)=idL n (k+1):=by
 apply List.ext_getElem?
 intro j
 rcases Nat.lt_or_ge j n with hj | hj
 ·rw [List.getElem?_set,idL_len]
  simp only [idL,List.getElem?_map,List.getElem?_range hj,Option.map_some]
  split
  ·rename_i he;subst he;simp
  ·rename_i he
   congr 1
   by_cases h:j < k
   ·rw [if_pos h,if_pos (by omega)]
   ·rw [if_neg h,if_neg (by omega)]
 ·rw [List.getElem?_eq_none (by simp [idL_len,hj]),List.getElem?_eq_none (by rw [idL_len];exact hj)]
theorem identity_any (n:Nat) (w:World) (hn:n≤1000):Calls Tryz.prog 87 #[.int .i64 n] w (RetL w (rng n)):=by
 have hmk:=fun w=>run_make_n (P:=Tryz.prog) Tryz.underlying46 info_int .i64 .i64 n (show 8 * n≤281474976710656 by omega) (show n≤9223372036854775807 by omega) w
 have hO:=Own.ofMade (m:=1) w 3 icell (fun _=>rfl) (by decide) 0 n (show n≤9223372036854775807 by omega) rfl
 rw [← idL_zero n] at hO
 have hs1:∀ cs,Same w (w.alloc (.cells cs 3)):=fun cs=>(Frm.refl _ _).alloc _
 have HO:=Lib.hid hO
 clear hO
 go_enter Tryz.func87,Tryz.ntmps87
 go_wp2
 go_loopw [8] (fun i wr=>∃ k:Nat,k≤n∧i=.int .i64 k∧Same w wr∧OwnI wr 3 (some ⟨w.heap.size,0,none⟩) n n (idL n k)) (fun i _=>n - (intOf i).toNat)
 case atStart=>exact ⟨0,by omega,rfl,hs1 _,by simpa [icell] using HO.out⟩
 case round =>
  clear hmk hs1 HO
  obtain ⟨k,hk,rfl,hs,ho⟩:=hrel
  have HS:=Lib.hid hs
  have HR:=Lib.hid ho
  clear hs ho
  by_cases hlt:k < n
  ·have hi1:(k:Int) < n:=by omega
   have hi0:(0:Int)≤k:=by omega
   obtain ⟨sb,hsb,hsl,hsc⟩:=HR.out.at1 (c:=fun x=>.int .i64 x) (i:=k) (x:=(idL n k)[k]'(by rw [idL_len];exact hlt)) (List.getElem?_eq_getElem _)
   injection hsb with hsb
   injection hsb with hsb
   subst hsb
   have hfr:=Own.free HR.out k
   have hst:=Own.put1 (c:=fun x=>.int .i64 x) HR.out (i:=k) (by rw [idL_len];exact hlt) (k:Int)
   rw [idL_set hlt] at hst
   generalize (idL n k)[k]'(by rw [idL_len];exact hlt)=old at hsc
   have HST:=Lib.hid hst
   clear hst
   go_wp2
   go_roundw
   case rel=>exact ⟨k+1,by omega,by go_num,HS.out.setNew _ _ (Nat.le_refl _),HST.out⟩
   case measure=>simp [intOf] <;> omega
  ·obtain rfl:k=n:=by omega
   go_wp2
   go_ret
   refine ⟨some ⟨w.heap.size,0,none⟩,k,by rw [rng_len];rfl,?_,fresh_some (Nat.le_refl _),HS.out⟩
   have:=HR.out
   rw [idL_full] at this
   rwa [rng_len]
theorem swp_get (p:List Int) (l:Nat) {a b:Int} (ha:p[l]?=some a) (hb:p[l+1]?=some b):swp p l=(p.set l b).set (l+1) a:=by
 unfold swp
 simp [List.getD_eq_getElem?_getD,ha,hb]
theorem addr_add (b off j:Nat):(⟨b,off,none⟩:Addr).add j=⟨b,off+j,none⟩:=by unfold Addr.add;split <;> simp_all
theorem Sl.source {w:World} {A:Option Addr} {n m:Nat} {α:Type} {f:α→List Value} {xs:List α} (hf:∀ x,(f x).length=m) (hm:0 < m) (h:Sl w m f A n xs) (hne:xs≠[]):∃ ad,A=some ad∧∀ j u,(xs.flatMap f)[j]?=some u→w.cell? (ad.add j)=some u:=by
 obtain ⟨b,off,rfl,_,_⟩:=h.get 0 _ (List.getElem?_eq_getElem (List.length_pos_iff.2 hne))
 refine ⟨_,rfl,fun j u hj=>?_⟩
 have hjm:j=j / m * m+j % m:=by rw [Nat.mul_comm];exact (Nat.div_add_mod j m).symm
 have hj':=hj
 rw [hjm,flat_get f m hf _ _ _ (Nat.mod_lt _ hm)] at hj'
 cases hx:xs[j / m]? with
 | none=>rw [hx] at hj';cases hj'
 | some x =>
  rw [hx] at hj'
  obtain ⟨b2,o2,hA,_,hc⟩:=h.get _ _ hx
  injection hA with hA
  injection hA with h1 h2
  subst h1 h2
  have hadd:(⟨b,off,none⟩:Addr).add j=⟨b,off+j / m * m+j % m,none⟩:=by
   rw [addr_add]
   congr 1
   omega
  rw [hadd,hc _ (Nat.mod_lt _ hm)]
  exact hj'
section
variable {w w':World} {mp:Nat} {M:MS} {a:MA} {n:Nat} {t:Tb} {A:Option Addr} {C:Nat} {ts us:List Tb} {lo:Nat}
theorem Tb.one (t:Tb):∀ u∈t.cells,u.oneCell'=true:=by
 intro u hu
 simp only [Tb.cells,List.mem_cons,List.not_mem_nil,or_false] at hu
 rcases hu with rfl | rfl <;> rfl
theorem TN.app (h:TN lo w n A C ts) (hu:∀ t∈us,TW w n t) {wb:World} {A':Option Addr} {C':Nat} (hO:Go.Tk.Own wb 108 2 Tb.cells A' (ts ++ us).length C' (ts ++ us)) (hg:w.grownBy wb (Value.slice A ts.length C).ownBlock)
  (hat:∀ b,rowOf A' b→rowOf A b∨b=w.heap.size) (hlo:lo≤w.heap.size):TN lo wb n A' C' (ts ++ us)∧∀ (w0:World),Same w0 w→w0.heap.size=lo→Same w0 wb:=by
 have kp:∀ u,TW w n u→TW wb n u:=fun u hu=>⟨hu.N,hu.own.keptBy hg (fun b hb hA=>h.own.ne_own hu.own (by decide) b (ownBlock_row.1 hb) hA),hu.fm,hu.sm⟩
 refine ⟨⟨hO,fun u hm=>?_,fun b hb=>?_⟩,fun w0 hs hz=>hs.grown hg (fun g' hg'=>.inr ?_)⟩
 ·rcases List.mem_append.1 hm with hm | hm
  ·exact kp u (h.tw u hm)
  ·exact kp u (hu u hm)
 ·rcases hat b hb with h1 | h1
  ·exact h.fresh b h1
  ·omega
 ·rw [hz];exact h.fresh g' (ownBlock_row.1 hg')
theorem turned9_any (A:Option Addr) (n C:Nat) (xs:List Int) (l:Nat) (w:World) (h:IL w A n xs) (hr:n * 8≤140737488351232) (hl:l+2≤n) :
  Calls Tryz.prog 110 #[.slice A n C,.int .i64 l] w (RetL w (swp xs l)):=by
 obtain rfl:=h.len
 have H:=Lib.hid h
 clear h
 go_enter Tryz.func110,Tryz.ntmps110
 go_upto_region 2 with fail
 refine wp_read 2 ?_
 simp only [List.take_succ_cons,List.take_zero,List.drop_succ_cons,List.drop_zero]
 repeat (any_goals (first | go_big_quiet_step (fail) | quiet_step (fail)))
 refine wpQuiet_nil ?_
 refine wpList_plain rfl fun K hK=>?_
 refine Own.append_many (.tmp 6) (.tmp 7) _ rfl Tryz.underlying46 info_int rfl (by omega) rfl (Own.nil w _ _ _) (fun _=>rfl) xs A C rfl (fun hne=>IL.src H.out hne) (by simp [icell,Value.oneCell']) (by simp [maxLen] <;> omega) (by simp <;> omega) ?_
 intro A2 C2 w2 hO hg hat
 refine hK _ _ ?_
 clear hK K
 simp only [List.nil_append] at hO ⊢
 have hs12:=Same.app (Frm.refl _ w) (Frm.refl _ _) hg (fresh_none _)
 obtain ⟨a,ha⟩:∃ a,xs[l]?=some a:=⟨_,List.getElem?_eq_getElem (by omega)⟩
 obtain ⟨b,hb⟩:∃ b,xs[l+1]?=some b:=⟨_,List.getElem?_eq_getElem (by omega)⟩
 obtain ⟨sb,rfl,hsb,ca⟩:=hO.at1 (c:=fun x=>.int .i64 x) ha
 obtain ⟨sb',hsb',_,cb⟩:=hO.at1 (c:=fun x=>.int .i64 x) hb
 injection hsb' with hsb'
 injection hsb' with hsb'
 subst hsb'
 have fa:=Own.free hO l
 have fb:=Own.free hO (l+1)
 have hsb0:w.heap.size≤sb:=by
  rcases hat sb ⟨_,rfl,rfl⟩ with ⟨a,h,_⟩ | h
  ·cases h
  ·omega
 have HO:=Lib.hid hO
 have HS:=Lib.hid hs12
 have HA:=Lib.hid ha
 have HB:=Lib.hid hb
 clear hO hs12 ha hb hg hat
 have hw0:IntKind.i64.wrap ((l:Int)+1)=l+1:=IntWalk.i64_in _ (by omega)
 have hw1:(0:Int)≤(l:Int)+1:=by omega
 have hw2:((l:Int)+1).toNat=l+1:=by omega
 have hw3:(l:Int)+1 < xs.length:=by omega
 have hw4:(l:Int) < xs.length:=by omega
 have hw5:(0:Int)≤(l:Int):=by omega
 go_upto_region 3 with fail
 go_region
 have h1:=Own.put1 (c:=fun x=>.int .i64 x) HO.out (i:=l) (by omega) b
 have h2:=Own.put1 (c:=fun x=>.int .i64 x) h1 (i:=l+1) (by rw [List.length_set];omega) a
 rw [← swp_get xs l HA.out HB.out] at h2
 have h3:OwnI ((w2.setCell ⟨sb,l,none⟩ (.int .i64 b)).setCell ⟨sb,l+1,none⟩ (.int .i64 a)).drew 3 (some ⟨sb,0,none⟩) xs.length C2 (swp xs l):=Own.frm h2 ((Frm.refl (fun _=>False) _).drew) (fun _ _=>id)
 have hs3:Same w ((w2.setCell ⟨sb,l,none⟩ (.int .i64 b)).setCell ⟨sb,l+1,none⟩ (.int .i64 a)).drew:=((HS.out.setNew _ _ hsb0).setNew _ _ hsb0).drew
 generalize ((w2.setCell ⟨sb,l,none⟩ (.int .i64 b)).setCell ⟨sb,l+1,none⟩ (.int .i64 a)).drew=w3 at h3 hs3 ⊢
 have HO3:=Lib.hid h3
 have HS3:=Lib.hid hs3
 clear h1 h2 h3 hs3 ca cb fa fb hw0 hw1 hw2 hw3 hw4 hw5
 go_wp2
 go_ret
 exact ⟨some ⟨sb,0,none⟩,C2,by rw [swp_len];rfl,by rw [swp_len];exact HO3.out,fresh_some hsb0,HS3.out⟩
def fitsM (M:MS) (zs:List (List Nat)):Bool:=decide (2+sizeM M (zsM M ++ zs)≤M.c)
theorem sizeM_le (M:MS) (zs:List (List Nat)) (hz:zs.length≤2000000) (ho:M.ord.length≤16):sizeM M zs≤2097152000000:=by
 unfold sizeM sizeL
 have h1:=sum_small (levelsL M.n zs M.ord) 131072000000 (level_small M.n zs hz M.ord ho) (levelsL M.n zs M.ord).length
 rw [List.take_length] at h1
 have h2:(levelsL M.n zs M.ord).length≤16:=by
  unfold levelsL
  rw [levels_len]
  simpa using ho
 have:=Nat.mul_le_mul_right 131072000000 h2
 omega
theorem fits_any (hM:MW w mp M a) (ho:OrdOk M) (hL:TL w M.n A ts) (hl:ts.length≤100000) :
  Calls Tryz.prog 133 #[.pointer (some ⟨mp,0,none⟩),.slice A ts.length C] w fun e w'=>e=.returned (.bool (fitsM M (ts.map Tb.ws)))∧Same w w':=by
 have HM:=Lib.hid hM
 have HO:=Lib.hid ho
 have HL:=Lib.hid hL
 clear hM ho hL
 have htb:=tables_any HM.out
 have HTB:=Lib.hid htb
 obtain ⟨fb,hfb⟩:∃ z,fitsM M (ts.map Tb.ws)=z:=⟨_,rfl⟩
 rw [hfb]
 have HFB:=Lib.hid hfb
 clear hfb
 have hmc:=HM.out.c1
 have hml:=HM.out.blk.lt
 have hhl:M.held.length≤1500000:=HM.out.hl
 clear htb
 have HMC:=Lib.hid hmc
 clear hmc hml
 go_enter Tryz.func133,Tryz.ntmps133
 go_upto_region 2 with fail
 refine wp_read 2 ?_
 simp only [List.take_succ_cons,List.take_zero,List.drop_succ_cons,List.drop_zero]
 repeat (any_goals (first | go_big_quiet_step (fail) | quiet_step (fail)))
 refine wpQuiet_nil ?_
 refine wpList_plain rfl fun K hK=>?_
 go_simp
 refine HTB.out.mono ?_
 rintro e w1 ⟨A1,C1,us,rfl,hN,hz,hul,hs1⟩
 refine hK _ _ ?_
 clear hK K
 refine wpList_plain rfl fun K hK=>?_
 refine Own.append_many (.tmp 6) (.tmp 8) _ rfl Tryz.underlying55 info_tbl rfl (by omega) rfl (Own.nil w1 _ _ _) Tb.cells_len us A1 C1 rfl (fun hne=>Sl.source Tb.cells_len (by omega) hN.tl.sl hne) (fun y _=>Tb.one y) (by simp [maxLen] <;> omega) (by simp <;> omega) ?_
 intro A2 C2 w2 hO2 hg2 hat2
 refine hK _ _ ?_
 clear hK K
 simp only [List.nil_append] at hO2 ⊢
 have hp2:=TN.app (A:=none) (C:=0) (ts:=[]) (us:=us) (TN.nil w1.heap.size w1 M.n) hN.tw (by rw [List.nil_append];exact hO2) hg2 hat2 (Nat.le_refl _)
 have hs2:Same w1 w2:=hp2.2 w1 (Frm.refl _ _) rfl
 have hN2:=hp2.1
 rw [List.nil_append] at hN2
 have HZ:=Lib.hid hz
 have HS2:=Lib.hid (hs1.trans hs2 (fun _ _ h=>h))
 have HS12:=Lib.hid hs2
 have HS01:=Lib.hid hs1
 have HN2:=Lib.hid hN2
 have HL2:=Lib.hid (HL.out.same HS2.out)
 clear hz hs1 hN hp2 hs2 hN2 hO2 hg2 hat2
 go_upto_region 3 with fail
 refine wp_read 2 ?_
 simp only [List.take_succ_cons,List.take_zero,List.drop_succ_cons,List.drop_zero]
 repeat (any_goals (first | go_big_quiet_step (fail) | quiet_step (fail)))
 refine wpQuiet_nil ?_
 refine wpList_plain rfl fun K hK=>?_
 refine Own.append_many (.tmp 10) (.tmp 11) _ rfl Tryz.underlying55 info_tbl rfl (by omega) rfl HN2.out.own Tb.cells_len ts A C rfl (fun hne=>Sl.source Tb.cells_len (by omega) HL2.out.sl hne) (fun y _=>Tb.one y) (by simp [maxLen] <;> omega) (by omega) ?_
 intro A3 C3 w3 hO3 hg3 hat3
 refine hK _ _ ?_
 clear hK K
 have hp3:=TN.app HN2.out HL2.out.tw hO3 hg3 hat3 HS12.out.size
 have hs3:Same w w3:=HS01.out.trans (hp3.2 w1 HS12.out rfl) (fun _ _ h=>h)
 have hN3:=hp3.1
 have hsz:∀ w',Same w3 w'→Calls Tryz.prog 138 #[.pointer (some ⟨mp,0,none⟩),.slice A3 (us.length+ts.length) C3] w' fun e w''=>e=.returned (.int .i64 (sizeM M (zsM M ++ ts.map Tb.ws)))∧Same w' w'':=by
  intro w' hw
  have:=size9_any (C:=C3) (HM.out.same (hs3.trans hw (fun _ _ h=>h))) HO.out (hN3.tl.same hw) (by simp <;> omega)
  rwa [List.map_append,HZ.out,List.length_append] at this
 have hle:=sizeM_le M (zsM M ++ ts.map Tb.ws) (by simp [zsM] <;> omega) HM.out.ol
 have hfb:=HFB.out
 unfold fitsM at hfb
 obtain ⟨s,hsd⟩:∃ s,sizeM M (zsM M ++ ts.map Tb.ws)=s:=⟨_,rfl⟩
 rw [hsd] at hsz hle hfb
 have c1:=(HM.out.same hs3).c1
 have hml:=(HM.out.same hs3).blk.lt
 have HSZ:=Lib.hid hsz
 have HS3:=Lib.hid hs3
 clear hp3 hs3 hN3 hsz hO3 hg3 hat3 hsd
 have hw1:IntKind.i64.wrap (2+(s:Int))=((2+s:Nat):Int):=by rw [IntWalk.i64_in _ (by omega)];omega
 have hdec:decide (((2+s:Nat):Int)≤(M.c:Int))=fb:=by rw [← hfb,decide_eq_decide];omega
 clear hfb
 go_upto_region 4 with fail
 refine wp_phS (fun _=>False) [([0,1,4,5,6,7],2),([3,8],9)] (by kernel_rfl) (by kernel_rfl) ?_
 simp only [wpPh,pick,List.map_cons,List.map_nil,List.getD_cons_zero,List.getD_cons_succ]
 have hs:Same w3 w3.drew:=(Frm.refl _ _).drew
 repeat (any_goals (first | go_big_quiet_step (fail) | quiet_step (fail)))
 refine wpQuiet_nil ?_
 refine effStep_plain rfl fun K hK=>?_
 go_simp
 refine (HSZ.out _ hs).mono ?_
 rintro e w4 ⟨rfl,hs4⟩
 have hs:=hs.trans hs4 (fun _ _ h=>h)
 refine hK _ _ (Lat.mk_ (Frm.mono hs (fun _ _ h=>h.elim))) ?_
 have c1:=(hs.cell (p:=⟨mp,1,none⟩) hml id).trans c1
 have hml:mp < w4.heap.size:=Nat.lt_of_lt_of_le hml hs.size
 have HS4:=Lib.hid (HS3.out.trans hs (fun _ _ h=>h))
 clear hK K hs hs4
 repeat (any_goals (first | go_big_quiet_step (fail) | quiet_step (fail)))
 refine wpQuiet_nil ?_
 go_wp2
 go_ret
 exact ⟨congrArg (fun b=>Ending.returned (Value.bool b)) hdec,HS4.out⟩
end
def hold1M (M:MS) (z:List Nat):MS × Int:=if isConstB M.n z then (M,0) else ({ M with held:=(holdN M.held z).1 },(holdN M.held z).2)
def mcells (M:MS) (a:MA):Array Value:=#[.int .i64 M.n,.int .i64 M.c,.slice a.oA M.ord.length a.oC,.slice a.hA a.hs.length a.hC,.slice a.tA M.tr.length a.tC]
section
variable {w w':World} {mp:Nat} {M:MS} {a:MA} {n:Nat} {t:Tb}
theorem MW.at0 (h:MW w mp M a) {i:Nat} {q:MH} (hi:a.hs[i]?=some q):∃ b,a.hA=some ⟨b,0,none⟩∧b < w.heap.size∧w.cell? ⟨b,i * 3,none⟩=some (.int .i64 q.t.N)∧w.cell? ⟨b,i * 3+1,none⟩=some (.slice q.t.A q.t.ws.length q.t.C)∧w.cell? ⟨b,i * 3+2,none⟩=some (.int .i64 q.c):=by
 obtain ⟨b,h1,h2,h3⟩:=h.hs.get MH.cells_len hi
 exact ⟨b,h1,h2,h3 0 (by omega),h3 1 (by omega),h3 2 (by omega)⟩
theorem MW.mp_h (h:MW w mp M a):¬ rowOf a.hA mp:=fun ⟨x,hx,hb⟩=>h.hs.ne_blk h.blk (by decide) x hx hb
theorem MW.mp_o (h:MW w mp M a):¬ rowOf a.oA mp:=fun ⟨x,hx,hb⟩=>h.ord.ne_blk h.blk (by decide) x hx hb
theorem MW.mp_t (h:MW w mp M a):¬ rowOf a.tA mp:=fun ⟨x,hx,hb⟩=>h.tr.ne_blk h.blk (by decide) x hx hb
theorem MW.hs_to {qs:List MH} {A2:Option Addr} {C2:Nat} (h:MW w mp M a) (hf:Frm (fun b=>b=mp∨rowOf a.hA b) w w') (hb:Blk w' mp 112 (mcells M { a with hA:=A2,hC:=C2,hs:=qs }))
  (hr:Go.Tk.Own w' 155 3 MH.cells A2 qs.length C2 qs) (hq:∀ q∈qs,TW w M.n q.t) (hn:∀ b,rowOf A2 b→rowOf a.hA b∨w.heap.size≤b) (hl:qs.length≤1500000) :
  MW w' mp { M with held:=qs.map (fun h=>(h.t.ws,h.c)) } { a with hA:=A2,hC:=C2,hs:=qs }∧MGo mp w a w' { a with hA:=A2,hC:=C2,hs:=qs }:=by
 have hS:∀ b,(b=mp∨rowOf a.hA b)→MFp mp a b:=fun b hb=>hb.elim .inl (fun h=>.inr (.inr (.inl h)))
 refine ⟨⟨hb,h.ord.frm hf ?_,hr,fun q hm=>(hq q hm).frmM h hf hS,rfl,h.tr.frm hf ?_,h.n16,h.ol,by rw [List.length_map];exact hl,h.trl,h.dj⟩,⟨hf.mono (fun b _ hb=>hS b hb),?_⟩⟩
 ·rintro x hx (hb | hb)
  ·exact h.mp_o ⟨x,hx,hb⟩
  ·exact h.ord.ne_own h.hs (by decide) x.block ⟨x,hx,rfl⟩ hb
 ·rintro x hx (hb | hb)
  ·exact h.mp_t ⟨x,hx,hb⟩
  ·exact h.tr.ne_own h.hs (by decide) x.block ⟨x,hx,rfl⟩ hb
 ·rintro b (hb | hb | hb | hb)
  ·exact .inl (.inl hb)
  ·exact .inl (.inr (.inl hb))
  ·exact (hn b hb).elim (fun h=>.inl (.inr (.inr (.inl h)))) .inr
  ·exact .inl (.inr (.inr (.inr hb)))
theorem MW.tr_to {r:List Int} {A2:Option Addr} {C2:Nat} (h:MW w mp M a) (hf:Frm (fun b=>b=mp∨rowOf a.tA b) w w') (hb:Blk w' mp 112 (mcells { M with tr:=r } { a with tA:=A2,tC:=C2 }))
  (hr:OwnI w' 3 A2 r.length C2 r) (hn:∀ b,rowOf A2 b→rowOf a.tA b∨w.heap.size≤b) (hl:r.length≤10000000000000) :
  MW w' mp { M with tr:=r } { a with tA:=A2,tC:=C2 }∧MGo mp w a w' { a with tA:=A2,tC:=C2 }:=by
 have hS:∀ b,(b=mp∨rowOf a.tA b)→MFp mp a b:=fun b hb=>hb.elim .inl (fun h=>.inr (.inr (.inr h)))
 refine ⟨⟨hb,h.ord.frm hf ?_,h.hs.frm hf ?_,fun q hm=>(h.tw q hm).frmM h hf hS,h.held,hr,h.n16,h.ol,h.hl,hl,?_⟩,⟨hf.mono (fun b _ hb=>hS b hb),?_⟩⟩
 ·rintro x hx (hb | hb)
  ·exact h.mp_o ⟨x,hx,hb⟩
  ·exact h.dj x.block ⟨x,hx,rfl⟩ hb
 ·rintro x hx (hb | hb)
  ·exact h.mp_h ⟨x,hx,hb⟩
  ·exact h.hs.ne_own h.tr (by decide) x.block ⟨x,hx,rfl⟩ hb
 ·intro b ho ht
  rcases hn b ht with h1 | h1
  ·exact h.dj b ho h1
  ·have:=row_lt h.ord ho;omega
 ·rintro b (hb | hb | hb | hb)
  ·exact .inl (.inl hb)
  ·exact .inl (.inr (.inl hb))
  ·exact .inl (.inr (.inr (.inl hb)))
  ·exact (hn b hb).elim (fun h=>.inl (.inr (.inr (.inr h)))) .inr
theorem MW.ord_to {r:List Int} {A2:Option Addr} {C2:Nat} (h:MW w mp M a) (hf:Frm (fun b=>b=mp∨rowOf a.oA b) w w') (hb:Blk w' mp 112 (mcells { M with ord:=r } { a with oA:=A2,oC:=C2 }))
  (hr:OwnI w' 3 A2 r.length C2 r) (hn:∀ b,rowOf A2 b→rowOf a.oA b∨w.heap.size≤b) (hl:r.length≤16) :
  MW w' mp { M with ord:=r } { a with oA:=A2,oC:=C2 }∧MGo mp w a w' { a with oA:=A2,oC:=C2 }:=by
 have hS:∀ b,(b=mp∨rowOf a.oA b)→MFp mp a b:=fun b hb=>hb.elim .inl (fun h=>.inr (.inl h))
 refine ⟨⟨hb,hr,h.hs.frm hf ?_,fun q hm=>(h.tw q hm).frmM h hf hS,h.held,h.tr.frm hf ?_,h.n16,hl,h.hl,h.trl,?_⟩,⟨hf.mono (fun b _ hb=>hS b hb),?_⟩⟩
 ·rintro x hx (hb | hb)
  ·exact h.mp_h ⟨x,hx,hb⟩
  ·exact h.hs.ne_own h.ord (by decide) x.block ⟨x,hx,rfl⟩ hb
 ·rintro x hx (hb | hb)
  ·exact h.mp_t ⟨x,hx,hb⟩
  ·exact h.dj x.block hb ⟨x,hx,rfl⟩
 ·intro b ho ht
  rcases hn b ho with h1 | h1
  ·exact h.dj b h1 ht
  ·have:=row_lt h.tr ht;omega
 ·rintro b (hb | hb | hb | hb)
  ·exact .inl (.inl hb)
  ·exact (hn b hb).elim (fun h=>.inl (.inr (.inl h))) .inr
  ·exact .inl (.inr (.inr (.inl hb)))
  ·exact .inl (.inr (.inr (.inr hb)))
theorem hold1_any (hM:MW w mp M a) (ht:TW w M.n t) (hc:HcOk M) (hl:M.held.length < 1500000) :
  Calls Tryz.prog 107 #[.pointer (some ⟨mp,0,none⟩),t.val] w fun e w'=>e=.returned (.int .i64 (hold1M M t.ws).2)∧∃ a',MW w' mp (hold1M M t.ws).1 a'∧MGo mp w a w' a':=by
 have htl:t.ws.length≤1000000000000000000:=by rw [ht.fm.len];have:=nw_le ht.fm.n16;omega
 have hsm:=fun (u:Tb) w' (h1:TW w' M.n t) (h2:TW w' M.n u)=>tsame_any u.N u.A u.ws.length u.C u.ws t.N t.A t.ws.length t.C t.ws w' h2.ok.wl h1.ok.wl (by rw [h2.fm.len];have:=nw_le h2.fm.n16;omega)
 have HSM:=Lib.hid hsm
 have HM:=Lib.hid hM
 have HT:=Lib.hid ht
 have HC:=Lib.hid hc
 have hic:=fun w' (hs:Same w w')=>isConst_any (ht.same hs)
 have hhl:a.hs.length < 1500000:=by rw [hM.hsl];exact hl
 obtain ⟨R,hR⟩:∃ z,hold1M M t.ws=z:=⟨_,rfl⟩
 rw [hR]
 obtain ⟨cc,hcc⟩:∃ z,isConstB M.n t.ws=z:=⟨_,rfl⟩
 unfold hold1M at hR
 rw [hcc] at hR hic
 unfold Tb.val at hic ⊢
 have HIC:=Lib.hid hic
 have HR:=Lib.hid hR
 clear hM ht hsm htl hc hic hcc hR hl
 go_enter Tryz.func107,Tryz.ntmps107
 go_wp2_with (fail)
 refine (HIC.out _ ((Frm.refl _ _).alloc _)).mono ?_
 rintro e w1 ⟨rfl,hs1⟩
 have hX:=(Blk.new w 108 #[.int .i64 t.N,.slice t.A t.ws.length t.C]).frm hs1 id
 have hs1:Same w w1:=((Frm.refl _ _).alloc _).trans hs1 (fun _ _ h=>h)
 have HX:=Lib.hid hX
 have HS1:=Lib.hid hs1
 have hTn:w.heap.size≠mp:=by have:=HM.out.blk.lt;omega
 clear hX hs1
 cases cc with
 | true =>
  have hR:=HR.out
  rw [if_pos rfl] at hR
  subst hR
  go_wp2
  go_ret
  exact ⟨rfl,a,HM.out.same HS1.out,MGo.same HS1.out⟩
 | false =>
  have hR:=HR.out
  rw [if_neg (by decide)] at hR
  replace HR:=Lib.hid hR
  clear hR
  go_wp2_with (fail)
  go_loopw [5] (fun i wr=>∃ k:Nat,k≤a.hs.length∧i=.int .i64 k∧Same w1 wr∧∀ p∈M.held.take k,p.1≠t.ws) (fun i _=>a.hs.length - (intOf i).toNat)
  case atStart=>exact ⟨0,by omega,rfl,Frm.refl _ _,fun u hu=>by simp at hu⟩
  case round =>
   obtain ⟨k,hk,rfl,hS,hno⟩:=hrel
   have HS:=Lib.hid (HS1.out.trans hS (fun _ _ h=>h))
   have HS2:=Lib.hid hS
   have HNO:=Lib.hid hno
   have hMr:=HM.out.same HS.out
   have hX:=HX.out.frm hS id
   have x0:=hX.cell 0
   have x1:=hX.cell 1
   have hxl:=hX.lt
   simp at x0 x1
   have c3:=hMr.c3
   have hml:=hMr.blk.lt
   have HXr:=Lib.hid hX
   have HMR:=Lib.hid hMr
   clear hS hno hX hMr
   by_cases hlt:k < a.hs.length
   ·obtain ⟨u,hu⟩:∃ u,a.hs[k]?=some u:=⟨_,List.getElem?_eq_getElem hlt⟩
    obtain ⟨b,hA,hb,d0,d1,d2⟩:=HMR.out.at0 hu
    have hI:(k:Int) < (a.hs.length:Int):=by omega
    have htu:=HM.out.tw u (List.mem_of_getElem? hu)
    have hse:sm u.t.N t.N u.t.ws t.ws=decide (u.t.ws=t.ws):=by
     unfold sm
     rw [HT.out.N,htu.N]
     simp
    have hat:M.held[k]?=some (u.t.ws,u.c):=by rw [← HM.out.held,List.getElem?_map,hu];rfl
    have HSMU:=Lib.hid (show ∀ w',Same w w'→Calls Tryz.prog 71 #[.agg #[.int .i64 u.t.N,.slice u.t.A u.t.ws.length u.t.C],.agg #[.int .i64 t.N,.slice t.A t.ws.length t.C]] w' fun e w''=>e=.returned (.bool (decide (u.t.ws=t.ws)))∧Same w' w'' from fun w' hw=>by
     have:=HSM.out u.t w' (HT.out.same hw) (htu.same hw)
     rwa [hse] at this)
    have HAT:=Lib.hid hat
    have HU:=Lib.hid hu
    obtain ⟨bb,hbb⟩:∃ bb,decide (u.t.ws=t.ws)=bb:=⟨_,rfl⟩
    rw [hbb] at HSMU
    have HBB:=Lib.hid hbb
    have HA:=Lib.hid hA
    rw [hA] at c3
    clear hu htu hse hat hbb hA
    go_upto_region 6 with fail
    refine wp_phS (fun _=>False) [([0,1,2,3,4,5,6,7,8],9)] (by kernel_rfl) (by kernel_rfl) ?_
    simp only [wpPh,pick,List.map_cons,List.map_nil,List.getD_cons_zero,List.getD_cons_succ]
    have hs:Same wr wr.drew:=(Frm.refl _ _).drew
    repeat (any_goals (first | go_big_quiet_step (fail) | quiet_step (fail)))
    refine wpQuiet_nil ?_
    refine wpList_plain rfl fun K hK=>?_
    go_simp
    refine (HSMU.out _ (HS.out.trans hs (fun _ _ h=>h))).mono ?_
    rintro e w3 ⟨rfl,hs3⟩
    refine hK _ _ ?_
    have hs3':=hs.trans hs3 (fun _ _ h=>h)
    have hM3:=HMR.out.same hs3'
    have HS3:=Lib.hid (HS.out.trans hs3' (fun _ _ h=>h))
    have HS23:=Lib.hid (HS2.out.trans hs3' (fun _ _ h=>h))
    clear hK K hs hs3 hs3' c3 hml d0 d1 d2 hb x0 x1 hxl
    have c3:=hM3.c3
    have hml:=hM3.blk.lt
    obtain ⟨b',hA',hb,d0,d1,d2⟩:=hM3.at0 HU.out
    rw [HA.out] at hA' c3
    injection hA' with hA'
    injection hA' with hA'
    subst hA'
    have fz:=Own.free (sb:=b) (by have:=hM3.hs;rwa [HA.out] at this) (k * 3+2)
    have HM3:=Lib.hid hM3
    clear hM3
    cases bb with
    | false =>
     go_wp2
     go_roundw
     case rel =>
      refine ⟨k+1,by omega,by go_num,HS23.out,fun v hv=>?_⟩
      rw [List.take_add_one,HAT.out] at hv
      rcases List.mem_append.1 hv with hv | hv
      ·exact HNO.out v hv
      ·simp at hv
       rw [hv]
       exact of_decide_eq_false HBB.out
     case measure=>simp [intOf] <;> omega
    | true =>
     have hR:=HR.out
     rw [holdN_at (c:=u.c) (k:=k) (by rw [HAT.out,of_decide_eq_true HBB.out]) HNO.out] at hR
     have hcr:=HC.out (u.t.ws,u.c) (List.mem_of_getElem? HAT.out)
     simp only at hcr
     by_cases hmx:u.c ≥ 65535
     ·rw [if_pos hmx] at hR
      subst hR
      go_wp2
      go_ret
      exact ⟨rfl,a,HM3.out,MGo.same HS3.out⟩
     ·rw [if_neg hmx] at hR
      subst hR
      have hw1:IntKind.i64.wrap (u.c+1)=u.c+1:=IntWalk.i64_in _ (by omega)
      go_wp2
      go_ret
      have hM3:=HM3.out
      have hown:=hM3.hs
      rw [HA.out] at hown
      have hst:=Own.store MH.cells_len hown k 2 u ⟨u.t,u.c+1⟩ (.int .i64 (u.c+1)) HU.out (by omega) rfl
      have hqs:((a.hs.set k ⟨u.t,u.c+1⟩).map fun h=>(h.t.ws,h.c))=M.held.set k (t.ws,u.c+1):=by
       rw [List.map_set,hM3.held,of_decide_eq_true HBB.out]
      have hfr:Frm (fun x=>x=mp∨rowOf a.hA x) w3 (w3.setCell ⟨b,k * 3+2,none⟩ (.int .i64 (u.c+1))):=(Frm.refl _ _).set _ _ (.inr (by rw [HA.out];exact ⟨_,rfl,rfl⟩))
      have hgo:=hM3.hs_to (qs:=a.hs.set k ⟨u.t,u.c+1⟩) (A2:=a.hA) (C2:=a.hC) hfr (by
        have:=hM3.blk.far (p:=⟨b,k * 3+2,none⟩) (fun h=>hM3.mp_h (by rw [HA.out];exact ⟨_,rfl,h.symm⟩)) (.int .i64 (u.c+1))
        simpa [mcells] using this)
       (by rw [List.length_set,HA.out];exact hst)
       (fun q hq=>by
        rcases List.mem_or_eq_of_mem_set hq with hq | rfl
        ·exact hM3.tw q hq
        ·exact hM3.tw u (List.mem_of_getElem? HU.out))
       (fun _ h=>.inl h) (by rw [List.length_set];omega)
      rw [hqs] at hgo
      exact ⟨rfl,_,hgo.1,(MGo.same HS3.out).trans hgo.2⟩
   ·obtain rfl:k=a.hs.length:=by omega
    have hI:¬ ((a.hs.length:Nat):Int) < (a.hs.length:Int):=by omega
    have hR:=HR.out
    have hl:M.held.length=a.hs.length:=by rw [← HM.out.held,List.length_map]
    rw [holdN_no (fun p hp=>HNO.out p (by rw [← hl,List.take_length];exact hp))] at hR
    subst hR
    go_upto_region 11 with fail
    have hmr:=HMR.out.mp_h
    have hTr:¬ rowOf a.hA w.heap.size:=fun h=>by
     obtain ⟨x,hx,hb⟩:=h
     exact HMR.out.hs.ne_blk HXr.out (by decide) x hx hb
    refine wp_phS (fun b=>rowOf a.hA b) [([0,1,2,3,4,5,6],7),([],8),([9,10],11)] (by kernel_rfl) (by kernel_rfl) ?_
    simp only [wpPh,pick,List.map_cons,List.map_nil,List.getD_cons_zero,List.getD_cons_succ]
    have hs:Same wr wr.drew:=(Frm.refl _ _).drew
    repeat (any_goals (first | go_big_quiet_step (fail) | quiet_step (fail)))
    refine wpQuiet_nil ?_
    refine effStep_plain rfl fun K hK=>?_
    go_simp
    refine hK _ _ (Lat.mk_ (Frm.mono (hs.alloc _) (fun _ _ h=>h.elim))) ?_
    clear hK K
    refine wpQuiet_nil ?_
    refine effStep_plain rfl fun K hK=>?_
    have hL:Blk (wr.alloc (.cells #[.int .i64 t.N,.slice t.A t.ws.length t.C,.int .i64 1] 155)).drew wr.heap.size 155 #[.int .i64 t.N,.slice t.A t.ws.length t.C,.int .i64 1]:=(Blk.new wr _ _).drew
    have hsl:Same wr (wr.alloc (.cells #[.int .i64 t.N,.slice t.A t.ws.length t.C,.int .i64 1] 155)).drew:=((Frm.refl _ _).alloc _).drew
    generalize (wr.alloc (.cells #[.int .i64 t.N,.slice t.A t.ws.length t.C,.int .i64 1] 155)).drew=wl at hL hsl ⊢
    have hMl:=HMR.out.same hsl
    refine Own.append (.tmp 51) (.tmp 54) _ rfl Tryz.underlying110 info_hold rfl (by omega) rfl hMl.hs MH.cells_len ⟨t,1⟩ wr.heap.size 1 rfl (by unfold MH.cells;exact hL) (by simp [Value.oneCell',MH.cells]) (by unfold maxLen;omega) (by omega) ?_
    intro gg cap wb hOb hgb hat
    refine hK _ _ (Lat.mk_ ?_) ?_
    ·exact (Frm.mono hsl (fun _ _ h=>h.elim)).grown hgb (fun g hg=>.inl (ownBlock_row.1 hg))
    clear hK K
    have hmb:=hMl.blk.grown hgb (fun hx=>hMl.mp_h (ownBlock_row.1 hx.symm))
    have fb:=hmb.free 3
    have hmbl:=hmb.lt
    have cb:=hmb.cell 3
    simp at cb
    have hfr:Frm (fun x=>x=mp∨rowOf a.hA x) wr wb:=(Frm.mono hsl (fun _ _ h=>h.elim)).grown hgb (fun g hg=>.inl (.inr (ownBlock_row.1 hg)))
    have HFR:=Lib.hid hfr
    have HMB:=Lib.hid hmb
    have HOB:=Lib.hid hOb
    have HAT:=Lib.hid (show ∀ b,rowOf (some (⟨gg,0,none⟩:Addr)) b→rowOf a.hA b∨wr.heap.size≤b from fun b hb=>by
     obtain ⟨x,hx,rfl⟩:=hb
     injection hx with hx
     subst hx
     rcases hat with h | h
     ·exact .inl (ownBlock_row.1 h)
     ·have:=hsl.size
      exact .inr (by simp only;omega))
    clear hfr hOb hgb hat hMl hsl hL hs hmb c3 x0 x1 hxl hml
    repeat (any_goals (first | go_big_quiet_step (fail) | quiet_step (fail)))
    refine wpQuiet_nil ?_
    go_wp2
    go_ret
    have hob2:=Own.far (p:=⟨mp,3,none⟩) HOB.out (fun x hx h=>Own.ne_blk HOB.out HMB.out (by decide) x hx h) (.slice (some ⟨gg,0,none⟩) (a.hs.length+1) cap)
    have hgo:=HMR.out.hs_to (qs:=a.hs ++ [⟨t,1⟩]) (A2:=some ⟨gg,0,none⟩) (C2:=cap) (HFR.out.set 3 (.slice (some ⟨gg,0,none⟩) (a.hs.length+1) cap) (.inl rfl)) (by
      have:=HMB.out.set 3 (.slice (some ⟨gg,0,none⟩) (a.hs.length+1) cap)
      simpa [mcells] using this)
     (by rw [List.length_append];exact hob2)
     (fun q hq=>by
      rcases List.mem_append.1 hq with hq | hq
      ·exact HMR.out.tw q hq
      ·simp at hq
       subst hq
       exact HT.out.same HS.out)
     HAT.out (by rw [List.length_append];simp <;> omega)
    rw [List.map_append,HMR.out.held] at hgo
    exact ⟨rfl,_,hgo.1,(MGo.same HS.out).trans hgo.2⟩
end
def relM (M:MS) (z:List Nat):MS × Int:=if isConstB M.n z then (M,0) else ({ M with held:=(relN M.held z).1 },(relN M.held z).2)
theorem MH.one (h:MH):∀ u∈h.cells,u.oneCell'=true:=by
 intro u hu
 simp only [MH.cells,List.mem_cons,List.not_mem_nil,or_false] at hu
 rcases hu with rfl | rfl | rfl <;> rfl
section
variable {w w':World} {mp:Nat} {M:MS} {a:MA} {n:Nat} {t:Tb}
theorem release9_any (hM:MW w mp M a) (ht:TW w M.n t) (hc:HcOk M) :
  Calls Tryz.prog 108 #[.pointer (some ⟨mp,0,none⟩),t.val] w fun e w'=>e=.returned (.int .i64 (relM M t.ws).2)∧∃ a',MW w' mp (relM M t.ws).1 a'∧MGo mp w a w' a':=by
 have htl:t.ws.length≤1000000000000000000:=by rw [ht.fm.len];have:=nw_le ht.fm.n16;omega
 have hsm:=fun (u:Tb) w' (h1:TW w' M.n t) (h2:TW w' M.n u)=>tsame_any u.N u.A u.ws.length u.C u.ws t.N t.A t.ws.length t.C t.ws w' h2.ok.wl h1.ok.wl (by rw [h2.fm.len];have:=nw_le h2.fm.n16;omega)
 have HSM:=Lib.hid hsm
 have HM:=Lib.hid hM
 have HT:=Lib.hid ht
 have HC:=Lib.hid hc
 have hic:=fun w' (hs:Same w w')=>isConst_any (ht.same hs)
 have hhl:a.hs.length≤1500000:=by rw [hM.hsl];exact hM.hl
 obtain ⟨R,hR⟩:∃ z,relM M t.ws=z:=⟨_,rfl⟩
 rw [hR]
 obtain ⟨cc,hcc⟩:∃ z,isConstB M.n t.ws=z:=⟨_,rfl⟩
 unfold relM at hR
 rw [hcc] at hR hic
 unfold Tb.val at hic ⊢
 have HIC:=Lib.hid hic
 have HR:=Lib.hid hR
 clear hM ht hsm htl hc hic hcc hR
 go_enter Tryz.func108,Tryz.ntmps108
 go_wp2_with (fail)
 refine (HIC.out _ ((Frm.refl _ _).alloc _)).mono ?_
 rintro e w1 ⟨rfl,hs1⟩
 have hX:=(Blk.new w 108 #[.int .i64 t.N,.slice t.A t.ws.length t.C]).frm hs1 id
 have hs1:Same w w1:=((Frm.refl _ _).alloc _).trans hs1 (fun _ _ h=>h)
 have HX:=Lib.hid hX
 have HS1:=Lib.hid hs1
 have hTn:w.heap.size≠mp:=by have:=HM.out.blk.lt;omega
 clear hX hs1
 cases cc with
 | true =>
  have hR:=HR.out
  rw [if_pos rfl] at hR
  subst hR
  go_wp2
  go_ret
  exact ⟨rfl,a,HM.out.same HS1.out,MGo.same HS1.out⟩
 | false =>
  have hR:=HR.out
  rw [if_neg (by decide)] at hR
  replace HR:=Lib.hid hR
  clear hR
  go_wp2_with (fail)
  go_loopw [5] (fun i wr=>∃ k:Nat,k≤a.hs.length∧i=.int .i64 k∧Same w1 wr∧∀ p∈M.held.take k,p.1≠t.ws) (fun i _=>a.hs.length - (intOf i).toNat)
  case atStart=>exact ⟨0,by omega,rfl,Frm.refl _ _,fun u hu=>by simp at hu⟩
  case round =>
   obtain ⟨k,hk,rfl,hS,hno⟩:=hrel
   have HS:=Lib.hid (HS1.out.trans hS (fun _ _ h=>h))
   have HS2:=Lib.hid hS
   have HNO:=Lib.hid hno
   have hMr:=HM.out.same HS.out
   have hX:=HX.out.frm hS id
   have x0:=hX.cell 0
   have x1:=hX.cell 1
   have hxl:=hX.lt
   simp at x0 x1
   have c3:=hMr.c3
   have hml:=hMr.blk.lt
   have HXr:=Lib.hid hX
   have HMR:=Lib.hid hMr
   clear hS hno hX hMr
   by_cases hlt:k < a.hs.length
   ·obtain ⟨u,hu⟩:∃ u,a.hs[k]?=some u:=⟨_,List.getElem?_eq_getElem hlt⟩
    obtain ⟨b,hA,hb,d0,d1,d2⟩:=HMR.out.at0 hu
    have hI:(k:Int) < (a.hs.length:Int):=by omega
    have htu:=HM.out.tw u (List.mem_of_getElem? hu)
    have hse:sm u.t.N t.N u.t.ws t.ws=decide (u.t.ws=t.ws):=by
     unfold sm
     rw [HT.out.N,htu.N]
     simp
    have hat:M.held[k]?=some (u.t.ws,u.c):=by rw [← HM.out.held,List.getElem?_map,hu];rfl
    have HSMU:=Lib.hid (show ∀ w',Same w w'→Calls Tryz.prog 71 #[.agg #[.int .i64 u.t.N,.slice u.t.A u.t.ws.length u.t.C],.agg #[.int .i64 t.N,.slice t.A t.ws.length t.C]] w' fun e w''=>e=.returned (.bool (decide (u.t.ws=t.ws)))∧Same w' w'' from fun w' hw=>by
     have:=HSM.out u.t w' (HT.out.same hw) (htu.same hw)
     rwa [hse] at this)
    have HAT:=Lib.hid hat
    have HU:=Lib.hid hu
    obtain ⟨bb,hbb⟩:∃ bb,decide (u.t.ws=t.ws)=bb:=⟨_,rfl⟩
    rw [hbb] at HSMU
    have HBB:=Lib.hid hbb
    have HA:=Lib.hid hA
    rw [hA] at c3
    clear hu htu hse hat hbb hA
    go_upto_region 6 with fail
    refine wp_phS (fun _=>False) [([0,1,2,3,4,5,6,7,8],9)] (by kernel_rfl) (by kernel_rfl) ?_
    simp only [wpPh,pick,List.map_cons,List.map_nil,List.getD_cons_zero,List.getD_cons_succ]
    have hs:Same wr wr.drew:=(Frm.refl _ _).drew
    repeat (any_goals (first | go_big_quiet_step (fail) | quiet_step (fail)))
    refine wpQuiet_nil ?_
    refine wpList_plain rfl fun K hK=>?_
    go_simp
    refine (HSMU.out _ (HS.out.trans hs (fun _ _ h=>h))).mono ?_
    rintro e w3 ⟨rfl,hs3⟩
    refine hK _ _ ?_
    have hs3':=hs.trans hs3 (fun _ _ h=>h)
    have hM3:=HMR.out.same hs3'
    have HS3:=Lib.hid (HS.out.trans hs3' (fun _ _ h=>h))
    have HS23:=Lib.hid (HS2.out.trans hs3' (fun _ _ h=>h))
    clear hK K hs hs3 hs3' c3 hml d0 d1 d2 hb x0 x1 hxl
    have c3:=hM3.c3
    have hml:=hM3.blk.lt
    obtain ⟨b',hA',hb,d0,d1,d2⟩:=hM3.at0 HU.out
    rw [HA.out] at hA' c3
    injection hA' with hA'
    injection hA' with hA'
    subst hA'
    have fz:=Own.free (sb:=b) (by have:=hM3.hs;rwa [HA.out] at this) (k * 3+2)
    have HM3:=Lib.hid hM3
    clear hM3
    cases bb with
    | false =>
     go_wp2
     go_roundw
     case rel =>
      refine ⟨k+1,by omega,by go_num,HS23.out,fun v hv=>?_⟩
      rw [List.take_add_one,HAT.out] at hv
      rcases List.mem_append.1 hv with hv | hv
      ·exact HNO.out v hv
      ·simp at hv
       rw [hv]
       exact of_decide_eq_false HBB.out
     case measure=>simp [intOf] <;> omega
    | true =>
     have hR:=HR.out
     rw [relN_at (c:=u.c) (k:=k) (by rw [HAT.out,of_decide_eq_true HBB.out]) HNO.out] at hR
     have hcr:=HC.out (u.t.ws,u.c) (List.mem_of_getElem? HAT.out)
     simp only at hcr
     have hw1:IntKind.i64.wrap (u.c - 1)=u.c - 1:=IntWalk.i64_in _ (by omega)
     have hM3:=HM3.out
     have hown:=hM3.hs
     rw [HA.out] at hown
     have hst:=Own.store MH.cells_len hown k 2 u ⟨u.t,u.c - 1⟩ (.int .i64 (u.c - 1)) HU.out (by omega) rfl
     have hqs:((a.hs.set k ⟨u.t,u.c - 1⟩).map fun h=>(h.t.ws,h.c))=M.held.set k (t.ws,u.c - 1):=by
      rw [List.map_set,hM3.held,of_decide_eq_true HBB.out]
     have hfr:Frm (fun x=>x=mp∨rowOf a.hA x) w3 (w3.setCell ⟨b,k * 3+2,none⟩ (.int .i64 (u.c - 1))):=(Frm.refl _ _).set _ _ (.inr (by rw [HA.out];exact ⟨_,rfl,rfl⟩))
     have hgo:=hM3.hs_to (qs:=a.hs.set k ⟨u.t,u.c - 1⟩) (A2:=a.hA) (C2:=a.hC) hfr (by
       have:=hM3.blk.far (p:=⟨b,k * 3+2,none⟩) (fun h=>hM3.mp_h (by rw [HA.out];exact ⟨_,rfl,h.symm⟩)) (.int .i64 (u.c - 1))
       simpa [mcells] using this)
      (by rw [List.length_set,HA.out];exact hst)
      (fun q hq=>by
       rcases List.mem_or_eq_of_mem_set hq with hq | rfl
       ·exact hM3.tw q hq
       ·exact hM3.tw u (List.mem_of_getElem? HU.out))
      (fun _ h=>.inl h) (by rw [List.length_set];omega)
     have hqk:(a.hs.set k ⟨u.t,u.c - 1⟩)[k]?=some ⟨u.t,u.c - 1⟩:=by rw [List.getElem?_set];simp [hlt]
     have hql:(a.hs.set k ⟨u.t,u.c - 1⟩).length=a.hs.length:=List.length_set
     rw [hqs] at hgo
     have HGO:=Lib.hid hgo
     clear hM3 hown hst hfr hgo
     go_upto_region 8 with fail
     generalize w3.setCell ⟨b,k * 3+2,none⟩ (.int .i64 (u.c - 1))=w4 at HGO ⊢
     generalize a.hs.set k ⟨u.t,u.c - 1⟩=qs at HGO hqk hql hqs
     have hM4:=HGO.out.1
     clear c3 hml d0 d1 d2 hb fz
     have c3:=hM4.c3
     have hml:=hM4.blk.lt
     obtain ⟨b',hA',hb,d0,d1,d2⟩:=hM4.at0 hqk
     simp only at hA' c3
     rw [HA.out] at hA' c3
     injection hA' with hA'
     injection hA' with hA'
     subst hA'
     have hkq:k < qs.length:=by omega
     have hkq2:(k:Int) < (qs.length:Int):=by omega
     have HM4:=Lib.hid hM4
     have HQK:=Lib.hid hqk
     have HQL:=Lib.hid hql
     have HQS:=Lib.hid hqs
     clear hM4 hqk hqs
     simp only at d2
     by_cases hz:u.c - 1=0
     ·rw [if_pos hz] at hR
      subst hR
      have hdz:(u.c - 1 == 0)=true:=by simp [hz]
      clear hcr hw1
      have hown4:=HM4.out.hs
      rw [HA.out] at hown4
      simp only at hown4
      have hcap:qs.length≤a.hC:=hown4.cap
      have hpc:∀ (i:Nat) (x:MH),qs[i]?=some x→∀ j,j < 3→w4.cell? ⟨b,i * 3+j,none⟩=(MH.cells x)[j]?:=fun i x hx=>by
       obtain ⟨sb',h1,_,h3⟩:=hown4.get MH.cells_len hx
       cases h1
       exact h3
      have hlt1:(qs.take k).length=k:=by rw [List.length_take];omega
      have hlt2:(qs.drop (k+1)).length=a.hs.length - (k+1):=by rw [List.length_drop,hql]
      have hp1:=part_cells MH.cells_len (by omega) hpc 0 (qs.take k) (fun i x hx=>by
       rw [List.getElem?_take] at hx
       split at hx
       ·rw [Nat.zero_add];exact hx
       ·cases hx)
      have HPC:=Lib.hid hpc
      have HP1:=Lib.hid hp1
      have HT1:=Lib.hid hlt1
      have HT2:=Lib.hid hlt2
      clear hpc hp1 hlt1 hlt2 hown4
      go_upto_region 10 with fail
      refine wp_read 7 ?_
      simp only [List.take_succ_cons,List.take_zero,List.drop_succ_cons,List.drop_zero]
      repeat (any_goals (first | go_big_quiet_step (fail) | quiet_step (fail)))
      refine wpQuiet_nil ?_
      refine wpList_plain rfl fun K hK=>?_
      refine Own.append_many (.tmp 48) (.tmp 54) _ rfl Tryz.underlying110 info_hold rfl (by omega) rfl (Own.nil w4 _ _ _) MH.cells_len (qs.take k) (some ⟨b,0,none⟩) a.hC (by rw [HT1.out];rfl) (fun _=>⟨_,rfl,by simpa using HP1.out⟩) (fun y _=>MH.one y) (by rw [HT1.out];simp [maxLen] <;> omega) (by rw [HT1.out];simp <;> omega) ?_
      intro A1 C1 w5 hO1 hg1 hat1
      refine hK _ _ ?_
      clear hK K
      simp only [List.nil_append,HT1.out] at hO1 ⊢
      have hs5:Same w4 w5:=(Frm.refl _ _).grown hg1 (fun g hg=>by cases hg)
      have hM5:=HM4.out.same hs5
      have c3:=hM5.c3
      simp only at c3
      rw [HA.out] at c3
      have hml:=hM5.blk.lt
      have hp2:∀ j u,((qs.drop (k+1)).flatMap MH.cells)[j]?=some u→w5.cell? ((⟨b,(k+1) * 3,none⟩:Addr).add j)=some u:=part_cells MH.cells_len (by omega) (fun i x hx j hj=>by rw [← HPC.out i x hx j hj];exact hs5.cell hb id) (k+1) (qs.drop (k+1)) (fun i x hx=>by rw [List.getElem?_drop] at hx;exact hx)
      have HM5:=Lib.hid hM5
      have HO1:=Lib.hid hO1
      have HS5:=Lib.hid hs5
      have HA1:=Lib.hid hat1
      have HP2:=Lib.hid hp2
      have hi2:(k:Int)+1≤qs.length:=by omega
      have hi3:(0:Int)≤k+1:=by omega
      have hi4:((k:Int)+1).toNat=k+1:=by omega
      have hi5:IntKind.i64.wrap ((k:Int)+1)=k+1:=IntWalk.i64_in _ (by omega)
      clear hM5 hO1 hs5 hat1 hg1 hp2 d0 d1 d2
      go_upto_region 11 with fail
      refine wp_read 9 ?_
      simp only [List.take_succ_cons,List.take_zero,List.drop_succ_cons,List.drop_zero]
      repeat (any_goals (first | go_big_quiet_step (fail) | quiet_step (fail)))
      refine wpQuiet_nil ?_
      refine wpList_plain rfl fun K hK=>?_
      refine Own.append_many (.tmp 57) (.tmp 64) _ rfl Tryz.underlying110 info_hold rfl (by omega) rfl HO1.out MH.cells_len (qs.drop (k+1)) (if a.hC=k+1 then some ⟨b,0,none⟩ else some ⟨b,(k+1) * 3,none⟩) (a.hC - (k+1)) (by rw [HT2.out];rfl) (fun hne=>?_) (fun y _=>MH.one y) (by rw [HT1.out,HT2.out];simp [maxLen] <;> omega) (by rw [HT1.out,HT2.out];omega) ?_
      ·split
       ·exact absurd (List.drop_eq_nil_of_le (by omega)) hne
       ·exact ⟨_,rfl,HP2.out⟩
      intro A2 C2 w6 hO2 hg2 hat2
      refine hK _ _ ?_
      clear hK K
      have hM5:=HM5.out
      have hfr6:Frm (fun x=>rowOf A1 x) w5 w6:=(Frm.refl _ _).grown hg2 (fun g hg=>.inl (ownBlock_row.1 hg))
      have hA1d:¬ rowOf A1 mp:=fun ⟨x,hx,hxb⟩=>HO1.out.ne_blk hM5.blk (by decide) x hx hxb
      have hb6:=hM5.blk.frm hfr6 hA1d
      have c3:=hb6.cell 3
      have fb:=hb6.free 3
      have hml:=hb6.lt
      simp at c3
      rw [HA.out] at c3
      have hfr46:Frm (fun x=>x=mp∨rowOf a.hA x) w4 w6:=(HS5.out.mono (fun _ _ h=>h.elim)).trans hfr6 (fun i hi h=>by
       rcases HA1.out i h with h | h
       ·obtain ⟨x,hx,_⟩:=h
        cases hx
       ·omega)
      have hat6:∀ b,rowOf A2 b→rowOf a.hA b∨w4.heap.size≤b:=fun b hb=>by
       rcases hat2 b hb with h | h
       ·rcases HA1.out b h with h | h
        ·obtain ⟨x,hx,_⟩:=h
         cases hx
        ·exact .inr (by omega)
       ·have:=HS5.out.size
        exact .inr (by omega)
      obtain ⟨rs,hrs⟩:∃ rs,qs.take k ++ qs.drop (k+1)=rs:=⟨_,rfl⟩
      rw [hrs] at hO2 ⊢
      have hrl:rs.length≤1500000:=by rw [← hrs,List.length_append,HT1.out,HT2.out];omega
      have hrm:rs.map (fun h=>(h.t.ws,h.c))=M.held.take k ++ M.held.drop (k+1):=by
       rw [← hrs,List.map_append,List.map_take,List.map_drop,HQS.out]
       simp [List.take_set_of_le,List.drop_set_of_lt]
      have hrq:∀ q∈rs,TW w4 M.n q.t:=fun q hq=>by
       rw [← hrs] at hq
       rcases List.mem_append.1 hq with hq | hq
       ·exact HM4.out.tw q (List.mem_of_mem_take hq)
       ·exact HM4.out.tw q (List.mem_of_mem_drop hq)
      have HO2:=Lib.hid hO2
      have HB6:=Lib.hid hb6
      have HFR:=Lib.hid hfr46
      have HAT6:=Lib.hid hat6
      have HRM:=Lib.hid hrm
      have HRQ:=Lib.hid hrq
      clear hM5 hfr6 hA1d hb6 hfr46 hat6 hrs hrm hrq hO2 hg2 hat2
      go_wp2
      all_goals
       go_ret
       have hob2:=Own.far (p:=⟨mp,3,none⟩) HO2.out (fun x hx h=>Own.ne_blk HO2.out HB6.out (by decide) x hx h) (.slice A2 rs.length C2)
       have hgo2:=HM4.out.hs_to (qs:=rs) (A2:=A2) (C2:=C2) (HFR.out.set 3 (.slice A2 rs.length C2) (.inl rfl)) (by
         have:=HB6.out.set 3 (.slice A2 rs.length C2)
         simpa [mcells] using this)
        hob2 HRQ.out HAT6.out hrl
       simp only [HRM.out] at hgo2
       exact ⟨rfl,_,hgo2.1,((MGo.same HS3.out).trans HGO.out.2).trans hgo2.2⟩
     ·rw [if_neg hz] at hR
      subst hR
      have hdz:(u.c - 1 == 0)=false:=by simp [hz]
      go_wp2
      go_ret
      exact ⟨rfl,_,HM4.out,(MGo.same HS3.out).trans HGO.out.2⟩
   ·obtain rfl:k=a.hs.length:=by omega
    have hI:¬ ((a.hs.length:Nat):Int) < (a.hs.length:Int):=by omega
    have hR:=HR.out
    have hl:M.held.length=a.hs.length:=by rw [← HM.out.held,List.length_map]
    rw [relN_no (fun p hp=>HNO.out p (by rw [← hl,List.take_length];exact hp))] at hR
    subst hR
    go_wp2
    go_ret
    exact ⟨rfl,a,HMR.out,MGo.same HS.out⟩
end
def uM (M:MS) (l:Nat):Nat:=(unlikeL ((levelsL M.n (zsM M) M.ord).flatten ++ (levelsL M.n (zsM M) (swp M.ord l)).flatten)).length
section
variable {w w':World} {mp:Nat} {M:MS} {a:MA} {n:Nat} {t:Tb} {A X:Option Addr} {C D:Nat} {ts us xs:List Tb} {lo:Nat} {rs:List LRow}
theorem LN.keep {lo':Nat} (h:LN lo w n A C rs) {wb:World} (ho:TN lo' w n X D xs) (hg:w.grownBy wb (Value.slice X xs.length D).ownBlock) (hd:∀ r∈rs,∀ b,rowOf X b→¬ rowOf r.A b):LN lo wb n A C rs:=by
 have kp:∀ u,TW w n u→TW wb n u:=fun u hu=>⟨hu.N,hu.own.keptBy hg (fun b hb hA=>ho.own.ne_own hu.own (by decide) b (ownBlock_row.1 hb) hA),hu.fm,hu.sm⟩
 refine ⟨h.own.keptBy hg (fun b hb hA=>ho.own.ne_own h.own (by decide) b (ownBlock_row.1 hb) hA),fun r hr=>⟨(h.tn r hr).own.keptBy hg (fun b hb hA=>hd r hr b (ownBlock_row.1 hb) hA),fun t ht=>kp t ((h.tn r hr).tw t ht),(h.tn r hr).fresh⟩,h.fresh⟩
theorem swp_ord {ord:List Int} {n l:Nat} (hl:l+2≤ord.length) (h:∀ v∈ord,0≤v∧v < n):∀ v∈swp ord l,0≤v∧v < (n:Int):=by
 intro v hv
 rw [swp_get ord l (List.getElem?_eq_getElem (by omega)) (List.getElem?_eq_getElem (by omega))] at hv
 rcases List.mem_or_eq_of_mem_set hv with hv | rfl
 ·rcases List.mem_or_eq_of_mem_set hv with hv | rfl
  ·exact h v hv
  ·exact h _ (List.getElem_mem _)
 ·exact h _ (List.getElem_mem _)
theorem u9_any (hM:MW w mp M a) (ho:OrdOk M) (l:Nat) (hl:l+2≤M.ord.length) :
  Calls Tryz.prog 109 #[.pointer (some ⟨mp,0,none⟩),.int .i64 l] w fun e w'=>e=.returned (.int .i64 (uM M l))∧Same w w':=by
 have HM:=Lib.hid hM
 have HO:=Lib.hid ho
 have hlv:=levels9_any hM ho
 have HLV:=Lib.hid hlv
 have hol:=hM.ol
 have HUM:=Lib.hid (show uM M l=(unlikeL ((levelsL M.n (zsM M) M.ord).flatten ++ (levelsL M.n (zsM M) (swp M.ord l)).flatten)).length from rfl)
 obtain ⟨U,hU⟩:∃ z,uM M l=z:=⟨_,rfl⟩
 rw [hU] at HUM ⊢
 have hsm:∀ (ord:List Int),ord.length≤16→∀ z∈levelsL M.n (zsM M) ord,z.length≤131072000000:=fun ord ho=>level_small M.n (zsM M) (by unfold zsM;rw [List.length_map];have:=hM.hl;omega) ord ho
 have HSM:=Lib.hid hsm
 clear hM ho hlv hsm hU
 go_enter Tryz.func109,Tryz.ntmps109
 go_upto_region 2 with fail
 refine wp_read 1 ?_
 simp only [List.take_succ_cons,List.take_zero,List.drop_succ_cons,List.drop_zero]
 repeat (any_goals (first | go_big_quiet_step (fail) | quiet_step (fail)))
 refine wpQuiet_nil ?_
 refine wpList_plain rfl fun K hK=>?_
 go_simp
 refine HLV.out.mono ?_
 rintro e w1 ⟨A1,C1,rs,rfl,hLN,hlz,hs1⟩
 refine hK _ _ ?_
 clear hK K
 have hrl:rs.length=M.ord.length:=by
  have h1:(lz rs).length=M.ord.length:=by rw [hlz];unfold levelsL;rw [levels_len];simp
  rwa [lz_len] at h1
 have hrb:∀ r∈rs,r.ts.length≤131072000000:=fun r hr=>by
  have h1:r.ts.map Tb.ws∈levelsL M.n (zsM M) M.ord:=by rw [← hlz];exact List.mem_map.2 ⟨r,hr,rfl⟩
  have h2:=HSM.out M.ord hol _ h1
  rwa [List.length_map] at h2
 have HLN:=Lib.hid hLN
 have HLZ:=Lib.hid hlz
 have HS1:=Lib.hid hs1
 have HRB:=Lib.hid hrb
 clear hLN hlz hs1 hrb
 have hr16:rs.length≤16:=by omega
 have HRL:=Lib.hid hrl
 clear hrl
 go_wp2_with (fail)
 go_loopw [13,5] (fun i c wr=>∃ (k:Nat) (A:Option Addr) (C:Nat) (us:List Tb),k≤rs.length∧i=.int .i64 k∧c=.slice A us.length C∧TN w1.heap.size wr M.n A C us∧us.map Tb.ws=((lz rs).take k).flatten∧us.length≤k * 131072000000∧Same w1 wr) (fun i _ _=>rs.length - (intOf i).toNat)
 case atStart=>exact ⟨0,none,0,[],by omega,rfl,rfl,TN.nil _ _ _,by simp,by simp,Frm.refl _ _⟩
 case round =>
  obtain ⟨k,A',C',us,hk,rfl,rfl,hN,hus,hul,hS⟩:=hrel
  by_cases hlt:k < rs.length
  ·obtain ⟨r,hr⟩:∃ r,rs[k]?=some r:=⟨_,List.getElem?_eq_getElem hlt⟩
   have hL:=HLN.out.same hS
   obtain ⟨sb,hA1,hsb,hc⟩:=hL.own.get LRow.cells_len hr
   have c0:wr.cell? ⟨sb,k * 1,none⟩=some (.slice r.A r.ts.length r.C):=hc 0 (by omega)
   rw [Nat.mul_one] at c0
   have hI:(k:Int) < (rs.length:Int):=by omega
   have hrs:=HRB.out r (List.mem_of_getElem? hr)
   have hTr:=hL.tn r (List.mem_of_getElem? hr)
   have hstep:((lz rs).take (k+1)).flatten=us.map Tb.ws ++ r.ts.map Tb.ws:=by
    have:(lz rs)[k]?=some (r.ts.map Tb.ws):=by unfold lz;rw [List.getElem?_map,hr];rfl
    rw [List.take_add_one,this,hus]
    simp
   have HST:=Lib.hid hstep
   have HN:=Lib.hid hN
   have HS:=Lib.hid hS
   have HTR:=Lib.hid hTr
   clear hr hL hc hstep hN hS hTr hus
   subst hA1
   go_upto_region 5 with fail
   refine wp_read 2 ?_
   simp only [List.take_succ_cons,List.take_zero,List.drop_succ_cons,List.drop_zero]
   repeat (any_goals (first | go_big_quiet_step (fail) | quiet_step (fail)))
   refine wpQuiet_nil ?_
   refine wpList_plain rfl fun K hK=>?_
   refine Own.append_many (.tmp 17) (.tmp 18) _ rfl Tryz.underlying55 info_tbl rfl (by omega) rfl HN.out.own Tb.cells_len r.ts r.A r.C rfl (fun hne=>Sl.source Tb.cells_len (by omega) HTR.out.tl.sl hne) (fun y _=>Tb.one y) (by simp [maxLen] <;> omega) (by omega) ?_
   intro A3 C3 w3 hO3 hg3 hat3
   refine hK _ _ ?_
   clear hK K
   have hp3:=TN.app HN.out HTR.out.tw hO3 hg3 hat3 HS.out.size
   have HN3:=Lib.hid hp3.1
   have HS3:=Lib.hid (hp3.2 w1 HS.out rfl)
   clear hp3 hO3 hg3 hat3
   go_wp2
   go_roundw
   case rel=>exact ⟨k+1,A3,C3,us ++ r.ts,by omega,by go_num,by simp,HN3.out,by rw [HST.out,List.map_append],by rw [List.length_append,Nat.add_mul];omega,HS3.out⟩
   case measure=>simp [intOf] <;> omega
  ·obtain rfl:k=rs.length:=by omega
   have hI:¬ ((rs.length:Nat):Int) < (rs.length:Int):=by omega
   have HN:=Lib.hid hN
   have HUS:=Lib.hid (show us.map Tb.ws=(levelsL M.n (zsM M) M.ord).flatten by rw [hus,← HLZ.out,List.take_of_length_le (by rw [lz_len];exact Nat.le_refl _)])
   have HS:=Lib.hid hS
   have hul2:us.length≤16 * 131072000000:=Nat.le_trans hul (Nat.mul_le_mul_right _ hr16)
   clear hN hus hS hul
   have hMr:=HM.out.same (HS1.out.trans HS.out (fun _ _ h=>h))
   have c2:=hMr.c2
   have hml:=hMr.blk.lt
   have HMR:=Lib.hid hMr
   have HTB:=Lib.hid (fun w' (hs:Same wr w')=>tables_any (hMr.same hs))
   have HTU:=Lib.hid (fun w' (hs:Same wr w')=>turned9_any a.oA M.ord.length a.oC M.ord l w' ((hMr.ord.sl icell_len).same hs) (by omega) hl)
   clear hMr
   go_upto_region 7 with fail
   refine wp_peS (fun _=>False) [([0,2,3,4,5,6,10],1),([],7),([],8)] [9] (by kernel_rfl) (by kernel_rfl) ?_
   simp only [wpPe,pick,List.map_cons,List.map_nil,List.getD_cons_zero,List.getD_cons_succ]
   have hs:Same wr wr.drew:=(Frm.refl _ _).drew
   repeat (any_goals (first | go_big_quiet_step (fail) | quiet_step (fail)))
   refine wpQuiet_nil ?_
   refine effStep_plain rfl fun K hK=>?_
   go_simp
   refine (HTB.out _ hs).mono ?_
   rintro e w4 ⟨A4,C4,ys,rfl,hN4,hz4,hl4,hs4⟩
   have hs4':=hs.trans hs4 (fun _ _ h=>h)
   refine hK _ _ (Lat.mk_ (Frm.mono hs4' (fun _ _ h=>h.elim))) ?_
   have HS4:=Lib.hid hs4'
   have HN4:=Lib.hid hN4
   have HZ4:=Lib.hid hz4
   clear hK K hs hs4 hs4' hN4 hz4 c2 hml
   refine wpQuiet_nil ?_
   refine effStep_plain rfl fun K hK=>?_
   go_simp
   refine (HTU.out _ HS4.out).mono ?_
   rintro e w5 ⟨A5,C5,rfl,hN5⟩
   have hs5:Same wr w5:=HS4.out.trans hN5.2.2 (fun _ _ h=>h)
   refine hK _ _ (Lat.mk_ (Frm.mono hs5 (fun _ _ h=>h.elim))) ?_
   have hN4:=HN4.out.same hN5.2.2
   have hlv:=fun w' (hw:Same w5 w')=>levels5_any (C:=C4) (OC:=C5) (hN4.tl.same hw) HM.out.n16 (by omega) (O:=A5) (ord:=swp M.ord l) ((hN5.1.sl icell_len).same hw) (swp_ord hl HO.out) (by rw [swp_len];exact hol)
   rw [HZ4.out] at hlv
   have HLV2:=Lib.hid hlv
   have HS5:=Lib.hid hs5
   clear hK K hs5 hN4 hlv hN5
   refine wpQuiet_nil ?_
   refine effStep_plain rfl fun K hK=>?_
   go_simp
   refine (HLV2.out _ (Frm.refl _ _)).mono ?_
   rintro e w6 ⟨A6,C6,qs,rfl,hLN6,hlz6,hs6⟩
   have hs6':Same wr w6:=HS5.out.trans hs6 (fun _ _ h=>h)
   refine hK _ _ (Lat.mk_ (Frm.mono hs6' (fun _ _ h=>h.elim))) ?_
   have hq16:qs.length≤16:=by
    have h1:(lz qs).length=M.ord.length:=by rw [hlz6];unfold levelsL;rw [levels_len,swp_len];simp
    rw [lz_len] at h1
    omega
   have hqb:∀ r∈qs,r.ts.length≤131072000000:=fun r hr=>by
    have h1:r.ts.map Tb.ws∈levelsL M.n (zsM M) (swp M.ord l):=by rw [← hlz6];exact List.mem_map.2 ⟨r,hr,rfl⟩
    have h2:=HSM.out (swp M.ord l) (by rw [swp_len];exact hol) _ h1
    rwa [List.length_map] at h2
   have hlow:∀ b,rowOf A' b→b < w5.heap.size∨w6.heap.size≤b:=fun b hb=>by
    obtain ⟨x,hx,rfl⟩:=hb
    have:=HN.out.own.block x hx
    have:=HS5.out.size
    exact .inl (by omega)
   have hhi:∀ r∈qs,∀ b,rowOf r.A b→b < w6.heap.size:=fun r hr b hb=>by
    obtain ⟨x,hx,rfl⟩:=hb
    exact (hLN6.tn r hr).own.block x hx
   have HLN6:=Lib.hid hLN6
   have HLZ6:=Lib.hid hlz6
   have HS6:=Lib.hid hs6'
   have HQB:=Lib.hid hqb
   have HLOW:=Lib.hid hlow
   have HHI:=Lib.hid hhi
   clear hK K hs6 hs6' hqb hlow hhi hLN6 hlz6
   repeat (any_goals (first | go_big_quiet_step (fail) | quiet_step (fail)))
   refine wpQuiet_nil ?_
   have hN6:=HN.out.same HS6.out
   have HN6:=Lib.hid hN6
   have hS16:=HS.out.trans HS6.out (fun _ _ h=>h)
   have HS16:=Lib.hid hS16
   clear hN6 hS16
   go_wp2_with (fail)
   go_loopw [31,5] (fun i c wz=>∃ (k:Nat) (A:Option Addr) (C:Nat) (vs:List Tb),k≤qs.length∧i=.int .i64 k∧c=.slice A vs.length C∧TN w1.heap.size wz M.n A C vs∧vs.map Tb.ws=(levelsL M.n (zsM M) M.ord).flatten ++ ((lz qs).take k).flatten∧vs.length≤2097152000000+k * 131072000000∧Same w1 wz∧LN w5.heap.size wz M.n A6 C6 qs∧(∀ b,rowOf A b→b < w5.heap.size∨w6.heap.size≤b)∧w6.heap.size≤wz.heap.size) (fun i _ _=>qs.length - (intOf i).toNat)
   case atStart=>exact ⟨0,A',C',us,by omega,rfl,rfl,HN6.out,by simp [HUS.out],by omega,HS16.out,HLN6.out,HLOW.out,Nat.le_refl _⟩
   case round =>
    obtain ⟨k,A7,C7,vs,hk,rfl,rfl,hN7,hvs,hvl,hS7,hL7,hlo7,hsz7⟩:=hrel
    by_cases hlt:k < qs.length
    ·obtain ⟨r,hr⟩:∃ r,qs[k]?=some r:=⟨_,List.getElem?_eq_getElem hlt⟩
     obtain ⟨sb,hA1,hsb,hc⟩:=hL7.own.get LRow.cells_len hr
     have c0:wr.cell? ⟨sb,k * 1,none⟩=some (.slice r.A r.ts.length r.C):=hc 0 (by omega)
     rw [Nat.mul_one] at c0
     have hI:(k:Int) < (qs.length:Int):=by omega
     have hrs:=HQB.out r (List.mem_of_getElem? hr)
     have hTr:=hL7.tn r (List.mem_of_getElem? hr)
     have hstep:(levelsL M.n (zsM M) M.ord).flatten ++ ((lz qs).take (k+1)).flatten=vs.map Tb.ws ++ r.ts.map Tb.ws:=by
      have:(lz qs)[k]?=some (r.ts.map Tb.ws):=by unfold lz;rw [List.getElem?_map,hr];rfl
      rw [List.take_add_one,this,hvs]
      simp
     have HST:=Lib.hid hstep
     have HN7:=Lib.hid hN7
     have HS7:=Lib.hid hS7
     have HL7:=Lib.hid hL7
     have HLO7:=Lib.hid hlo7
     have HSZ7:=Lib.hid hsz7
     have HTR:=Lib.hid hTr
     clear hr hc hstep hN7 hS7 hTr hvs hL7 hlo7 hsz7
     subst hA1
     go_upto_region 10 with fail
     refine wp_read 2 ?_
     simp only [List.take_succ_cons,List.take_zero,List.drop_succ_cons,List.drop_zero]
     repeat (any_goals (first | go_big_quiet_step (fail) | quiet_step (fail)))
     refine wpQuiet_nil ?_
     refine wpList_plain rfl fun K hK=>?_
     refine Own.append_many (.tmp 35) (.tmp 36) _ rfl Tryz.underlying55 info_tbl rfl (by omega) rfl HN7.out.own Tb.cells_len r.ts r.A r.C rfl (fun hne=>Sl.source Tb.cells_len (by omega) HTR.out.tl.sl hne) (fun y _=>Tb.one y) (by simp [maxLen] <;> omega) (by omega) ?_
     intro A3 C3 w3 hO3 hg3 hat3
     refine hK _ _ ?_
     clear hK K
     have hp3:=TN.app HN7.out HTR.out.tw hO3 hg3 hat3 HS7.out.size
     have HN3:=Lib.hid hp3.1
     have HS3:=Lib.hid (hp3.2 w1 HS7.out rfl)
     have HL3:=Lib.hid (HL7.out.keep HN7.out hg3 (fun q hq b hb hb2=>by
      rcases HLO7.out b hb with h | h
      ·have:=(HL7.out.tn q hq).fresh b hb2
       omega
      ·have:=HHI.out q hq b hb2
       omega))
     have HSZ3:=Lib.hid (Nat.le_trans HSZ7.out hg3.size)
     have HLO3:=Lib.hid (show ∀ b,rowOf A3 b→b < w5.heap.size∨w6.heap.size≤b from fun b hb=>by
      rcases hat3 b hb with h | h
      ·exact HLO7.out b h
      ·have:=HSZ7.out
       exact .inr (by omega))
     clear hp3 hO3 hg3 hat3
     go_wp2
     go_roundw
     case rel=>exact ⟨k+1,A3,C3,vs ++ r.ts,by omega,by go_num,by simp,HN3.out,by rw [HST.out,List.map_append],by rw [List.length_append,Nat.add_mul];omega,HS3.out,HL3.out,HLO3.out,HSZ3.out⟩
     case measure=>simp [intOf] <;> omega
    ·obtain rfl:k=qs.length:=by omega
     have hI:¬ ((qs.length:Nat):Int) < (qs.length:Int):=by omega
     have hvl2:vs.length≤4300000000000:=by
      have:=Nat.mul_le_mul_right 131072000000 hq16
      omega
     have huni:=fun w' (hs:Same wr w')=>unlike5_any (C:=C7) (hN7.tl.same hs) hvl2
     have hres:(unlikeL (vs.map Tb.ws)).length=U:=by
      rw [HUM.out,hvs,HLZ6.out,List.take_of_length_le (by rw [← HLZ6.out,lz_len];exact Nat.le_refl _)]
     have HUNI:=Lib.hid huni
     have HRES:=Lib.hid hres
     have HS7:=Lib.hid hS7
     clear hN7 hvs hS7 hL7 hlo7 huni hres
     go_wp2_with (fail)
     refine (HUNI.out _ (Frm.refl _ _)).mono ?_
     rintro e w8 ⟨A8,C8,ys8,rfl,hN8,hu8,hl8,hs8⟩
     have HS8:=Lib.hid (HS1.out.trans (HS7.out.trans hs8 (fun _ _ h=>h)) (fun _ _ h=>h))
     have HY:=Lib.hid (show ys8.length=U by rw [← HRES.out,← hu8,List.length_map])
     clear hN8 hu8 hs8
     go_wp2
     go_ret
     exact ⟨congrArg (fun n:Nat=>Ending.returned (Value.int .i64 n)) HY.out,HS8.out⟩
end
def answerM (M:MS) (z:List Nat):MS × Int:=if 65535≤holdsL M.held z then (M,8) else if fitsM M [z] then ({ (hold1M M z).1 with tr:=[] },0) else (M,9)
def dropM (M:MS) (z:List Nat):MS × Int:=if (relM M z).2=0 then ({ (relM M z).1 with tr:=[] },0) else relM M z
section
variable {w w':World} {mp:Nat} {M:MS} {a:MA} {n:Nat} {t:Tb}
theorem hold1M_n (M:MS) (z:List Nat):(hold1M M z).1.n=M.n:=by unfold hold1M;split <;> rfl
theorem MW.tr_nil (h:MW w mp M a):MW (w.setCell ⟨mp,4,none⟩ (.slice none 0 0)) mp { M with tr:=[] } { a with tA:=none,tC:=0 }∧MGo mp w a (w.setCell ⟨mp,4,none⟩ (.slice none 0 0)) { a with tA:=none,tC:=0 }:=by
 refine h.tr_to (r:=[]) ((Frm.refl _ _).set 4 _ (.inl rfl)) ?_ (Own.nil _ _ _ _) (fun b hb=>?_) (by simp)
 ·have:=h.blk.set 4 (.slice none 0 0)
  simpa [mcells] using this
 ·obtain ⟨x,hx,_⟩:=hb
  cases hx
theorem answer_any (hM:MW w mp M a) (ho:OrdOk M) (ht:TW w M.n t) (hc:HcOk M) (hl:M.held.length < 1500000) :
  Calls Tryz.prog 125 #[.pointer (some ⟨mp,0,none⟩),t.val] w fun e w'=>e=.returned (.int .i64 (answerM M t.ws).2)∧∃ a',MW w' mp (answerM M t.ws).1 a'∧MGo mp w a w' a':=by
 have HM:=Lib.hid hM
 have HO:=Lib.hid ho
 have HT:=Lib.hid ht
 have HC:=Lib.hid hc
 have hho:=fun w' (hs:Same w w')=>holds_any (hM.same hs) (ht.same hs)
 have hh1:=fun w' (hs:Same w w')=>hold1_any (hM.same hs) (ht.same hs) hc hl
 unfold Tb.val at hho hh1 ⊢
 obtain ⟨hv,hhv⟩:∃ z,holdsL M.held t.ws=z:=⟨_,rfl⟩
 obtain ⟨fb,hfb⟩:∃ z,fitsM M [t.ws]=z:=⟨_,rfl⟩
 have hhn:=hold1M_n M t.ws
 obtain ⟨H1,hH1⟩:∃ z,hold1M M t.ws=z:=⟨_,rfl⟩
 rw [hhv] at hho
 rw [hH1] at hh1
 have hfi:=fun (A:Option Addr) (C:Nat) w' (hs:Same w w') (hL:TL w' M.n A [t])=>fits_any (C:=C) (hM.same hs) ho hL (by simp)
 simp only [List.map_cons,List.map_nil,hfb,List.length_cons,List.length_nil,Nat.zero_add] at hfi
 have HHO:=Lib.hid hho
 have HH1:=Lib.hid hh1
 have HFI:=Lib.hid hfi
 obtain ⟨R,hR⟩:∃ z,answerM M t.ws=z:=⟨_,rfl⟩
 rw [hR]
 unfold answerM at hR
 rw [hhv,hfb,hH1] at hR
 have HR:=Lib.hid hR
 have hTn:w.heap.size≠mp:=by have:=hM.blk.lt;omega
 clear hM ho ht hc hl hho hh1 hfi hhv hfb hH1 hR hhn
 go_enter Tryz.func125,Tryz.ntmps125
 go_wp2_with (fail)
 refine (HHO.out _ ((Frm.refl _ _).alloc _)).mono ?_
 rintro e w1 ⟨rfl,hs1⟩
 have hX:=(Blk.new w 108 #[.int .i64 t.N,.slice t.A t.ws.length t.C]).frm hs1 id
 have hs1:Same w w1:=((Frm.refl _ _).alloc _).trans hs1 (fun _ _ h=>h)
 have x0:=hX.cell 0
 have x1:=hX.cell 1
 have hxl:=hX.lt
 simp at x0 x1
 have HX:=Lib.hid hX
 have HS1:=Lib.hid hs1
 clear hX hs1
 by_cases h1:hv ≥ 65535
 ·have hR:=HR.out
  rw [if_pos h1] at hR
  subst hR
  go_wp2
  go_ret
  exact ⟨rfl,a,HM.out.same HS1.out,MGo.same HS1.out⟩
 ·have hR:=HR.out
  rw [if_neg h1] at hR
  replace HR:=Lib.hid hR
  clear hR
  go_upto_region 3 with fail
  refine wp_read 2 ?_
  simp only [List.take_succ_cons,List.take_zero,List.drop_succ_cons,List.drop_zero]
  repeat (any_goals (first | go_big_quiet_step (fail) | quiet_step (fail)))
  refine wpQuiet_nil ?_
  refine wpList_plain rfl fun K hK=>?_
  go_simp
  refine hK _ _ ?_
  clear hK K
  refine list_world fun wa hwa=>?_
  have hM:=Blk.new w1 108 #[.int .i64 t.N,.slice t.A t.ws.length t.C]
  have hsa:Same w wa:=by rw [hwa];exact HS1.out.alloc _
  have hs1a:Same w1 wa:=by rw [hwa];exact (Frm.refl _ _).alloc _
  rw [← hwa] at hM
  clear hwa
  have hTL:TL wa M.n (some ⟨w1.heap.size,0,none⟩) [t]:=⟨⟨rfl,fun i x hi=>by
    cases i with
    | zero =>
     simp at hi
     subst hi
     refine ⟨w1.heap.size,0,rfl,hM.lt,fun j hj=>?_⟩
     have:=hM.cell (0+0 * 2+j)
     rw [this]
     simp [Tb.cells]
    | succ i=>simp at hi⟩,fun q hq=>by
    simp at hq
    subst hq
    exact HT.out.same hsa⟩
  have hX:=HX.out.frm hs1a id
  have x0:=hX.cell 0
  have x1:=hX.cell 1
  have hxl:=hX.lt
  simp at x0 x1
  replace HX:=Lib.hid hX
  have HSA:=Lib.hid hsa
  have HTL:=Lib.hid hTL
  clear hX hsa hs1a hTL hM
  refine wpList_plain rfl fun K hK=>?_
  go_simp
  refine (HFI.out _ _ _ HSA.out HTL.out).mono ?_
  rintro e w2 ⟨rfl,hs2⟩
  refine hK _ _ ?_
  clear hK K
  have hX:=HX.out.frm hs2 id
  have x0:=hX.cell 0
  have x1:=hX.cell 1
  have hxl:=hX.lt
  simp at x0 x1
  have HS2:=Lib.hid (HSA.out.trans hs2 (fun _ _ h=>h))
  clear hX hs2
  cases fb with
  | false =>
   have hR:=HR.out
   rw [if_neg (by decide)] at hR
   subst hR
   go_wp2
   go_ret
   exact ⟨rfl,a,HM.out.same HS2.out,MGo.same HS2.out⟩
  | true =>
   have hR:=HR.out
   rw [if_pos rfl] at hR
   subst hR
   go_wp2_with (fail)
   refine (HH1.out _ HS2.out).mono ?_
   rintro e w3 ⟨rfl,a3,hM3,hg3⟩
   have hml:=hM3.blk.lt
   have c4:=hM3.c4
   have f4:=hM3.blk.free 4
   have HM3:=Lib.hid hM3
   have HG3:=Lib.hid hg3
   clear hM3 hg3 x0 x1 hxl
   go_wp2
   go_ret
   exact ⟨rfl,_,HM3.out.tr_nil.1,((MGo.same HS2.out).trans HG3.out).trans HM3.out.tr_nil.2⟩
theorem docDrop9_any (hM:MW w mp M a) (ht:TW w M.n t) (hc:HcOk M) :
  Calls Tryz.prog 75 #[.pointer (some ⟨mp,0,none⟩),t.val] w fun e w'=>e=.returned (.int .i64 (dropM M t.ws).2)∧∃ a',MW w' mp (dropM M t.ws).1 a'∧MGo mp w a w' a':=by
 have HM:=Lib.hid hM
 have hh1:=fun w' (hs:Same w w')=>release9_any (hM.same hs) (ht.same hs) hc
 unfold Tb.val at hh1 ⊢
 obtain ⟨H1,hH1⟩:∃ z,relM M t.ws=z:=⟨_,rfl⟩
 rw [hH1] at hh1
 have HH1:=Lib.hid hh1
 obtain ⟨R,hR⟩:∃ z,dropM M t.ws=z:=⟨_,rfl⟩
 rw [hR]
 unfold dropM at hR
 rw [hH1] at hR
 have HR:=Lib.hid hR
 have hTn:w.heap.size≠mp:=by have:=hM.blk.lt;omega
 clear hM ht hc hh1 hH1 hR
 go_enter Tryz.func75,Tryz.ntmps75
 go_wp2_with (fail)
 refine (HH1.out _ ((Frm.refl _ _).alloc _)).mono ?_
 rintro e w3 ⟨rfl,a3,hM3,hg3⟩
 have hml:=hM3.blk.lt
 have c4:=hM3.c4
 have f4:=hM3.blk.free 4
 have HM3:=Lib.hid hM3
 have HG3:=Lib.hid ((MGo.same ((Frm.refl _ _).alloc _)).trans hg3)
 clear hM3 hg3
 by_cases h0:H1.2=0
 ·have hR:=HR.out
  rw [if_pos h0] at hR
  subst hR
  have hb:(H1.2 == 0)=true:=by simp [h0]
  go_wp2
  go_ret
  refine ⟨?_,_,HM3.out.tr_nil.1,HG3.out.trans HM3.out.tr_nil.2⟩
  first | rfl | rw [h0]
 ·have hR:=HR.out
  rw [if_neg h0] at hR
  subst hR
  have hb:(H1.2 == 0)=false:=by simp [h0]
  go_wp2
  go_ret
  exact ⟨rfl,a3,HM3.out,HG3.out⟩
end
def exchM (M:MS) (l:Int):MS × Int:=if l < 0∨l > (M.n:Int) - 2 then (M,1) else if 2+uM M l.toNat≤M.c then ({ M with ord:=swp M.ord l.toNat,tr:=M.tr ++ [l] },0) else (M,9)
theorem uM_le (M:MS) (l:Nat) (hz:M.held.length≤2000000) (ho:M.ord.length≤16):uM M l≤4300000000000:=by
 unfold uM
 have key:∀ (ord:List Int),ord.length≤16→(levelsL M.n (zsM M) ord).flatten.length≤2097152000000:=by
  intro ord hol
  have h1:=sum_small (levelsL M.n (zsM M) ord) 131072000000 (level_small M.n (zsM M) (by unfold zsM;rw [List.length_map];exact hz) ord hol) (levelsL M.n (zsM M) ord).length
  rw [List.take_length] at h1
  have h2:(levelsL M.n (zsM M) ord).length≤16:=by
   unfold levelsL
   rw [levels_len]
   simpa using hol
  rw [List.length_flatten]
  have:=Nat.mul_le_mul_right 131072000000 h2
  omega
 have h1:=key M.ord ho
 have h2:=key (swp M.ord l) (by rw [swp_len];exact ho)
 have h3:=unlike_len ((levelsL M.n (zsM M) M.ord).flatten ++ (levelsL M.n (zsM M) (swp M.ord l)).flatten)
 rw [List.length_append] at h3
 omega
section
variable {w w':World} {mp:Nat} {M:MS} {a:MA} {n:Nat} {t:Tb}
theorem MW.ord_set {r:List Int} {A2:Option Addr} {C2:Nat} (h:MW w mp M a) (hr:OwnI w 3 A2 r.length C2 r) (hfr:∀ b,rowOf A2 b→¬ MFp mp a b) (hl:r.length≤16) {w0:World} (hs:Same w0 w) (hn:∀ b,rowOf A2 b→w0.heap.size≤b) (h0:MW w0 mp M a) :
  MW (w.setCell ⟨mp,2,none⟩ (.slice A2 r.length C2)) mp { M with ord:=r } { a with oA:=A2,oC:=C2 }∧MGo mp w0 a (w.setCell ⟨mp,2,none⟩ (.slice A2 r.length C2)) { a with oA:=A2,oC:=C2 }:=by
 refine h0.ord_to (r:=r) (A2:=A2) (C2:=C2) ((hs.mono (fun _ _ h=>h.elim)).set 2 _ (.inl rfl)) ?_ (hr.far (p:=⟨mp,2,none⟩) (fun x hx hb=>hfr mp ⟨x,hx,hb⟩ (.inl rfl)) _) (fun b hb=>.inr (hn b hb)) hl
 have:=h.blk.set 2 (.slice A2 r.length C2)
 simpa [mcells] using this
theorem exch9_any (hM:MW w mp M a) (ho:OrdOk M) (hon:M.ord.length=M.n) (htr:M.tr.length < 10000000000000) (l:Int) :
  Calls Tryz.prog 76 #[.pointer (some ⟨mp,0,none⟩),.int .i64 l] w fun e w'=>e=.returned (.int .i64 (exchM M l).2)∧∃ a',MW w' mp (exchM M l).1 a'∧MGo mp w a w' a':=by
 have hmc0:=hM.c0
 have hml:=hM.blk.lt
 have hn16:=hM.n16
 have hw0:IntKind.i64.wrap ((M.n:Int) - 2)=(M.n:Int) - 2:=IntWalk.i64_in _ (by omega)
 have HM:=Lib.hid hM
 unfold exchM
 by_cases h0:l < 0
 ·rw [if_pos (.inl h0)]
  clear hM ho hon htr
  go_enter Tryz.func76,Tryz.ntmps76
  go_wp2
  go_ret
  exact ⟨rfl,a,HM.out,MGo.refl _ _ _⟩
 by_cases h1:l > (M.n:Int) - 2
 ·rw [if_pos (.inr h1)]
  clear hM ho hon htr
  go_enter Tryz.func76,Tryz.ntmps76
  go_wp2
  go_ret
  exact ⟨rfl,a,HM.out,MGo.refl _ _ _⟩
 obtain ⟨m,rfl⟩:=Int.eq_ofNat_of_zero_le (show 0≤l by omega)
 rw [if_neg (by omega)]
 simp only [Int.toNat_natCast]
 have hm2:m+2≤M.ord.length:=by omega
 have hu:=fun w' (hs:Same w w')=>u9_any (hM.same hs) ho m hm2
 have hule:=uM_le M m (by have:=hM.hl;omega) hM.ol
 obtain ⟨U,hU⟩:∃ z,uM M m=z:=⟨_,rfl⟩
 rw [hU] at hu hule ⊢
 have htu:=fun w' (hs:Same w w')=>turned9_any a.oA M.ord.length a.oC M.ord m w' (((hM.same hs).ord.sl icell_len)) (by have:=hM.ol;omega) hm2
 have HU:=Lib.hid hu
 have HTU:=Lib.hid htu
 have hw1:IntKind.i64.wrap (2+(U:Int))=2+(U:Int):=IntWalk.i64_in _ (by omega)
 have hmc1:=hM.c1
 have HOL:=Lib.hid hM.ol
 clear hM ho hu htu hU hon
 by_cases hfit:2+U≤M.c
 ·rw [if_pos hfit]
  have hgt:¬ (M.c:Int) < 2+(U:Int):=by omega
  go_enter Tryz.func76,Tryz.ntmps76
  go_upto_region 3 with fail
  refine wp_phS (fun _=>False) [([0,1,4,5,6,7],2),([3,8],9)] (by kernel_rfl) (by kernel_rfl) ?_
  simp only [wpPh,pick,List.map_cons,List.map_nil,List.getD_cons_zero,List.getD_cons_succ]
  have hs:Same w w.drew:=(Frm.refl _ _).drew
  repeat (any_goals (first | go_big_quiet_step (fail) | quiet_step (fail)))
  refine wpQuiet_nil ?_
  refine effStep_plain rfl fun K hK=>?_
  go_simp
  refine (HU.out _ hs).mono ?_
  rintro e w4 ⟨rfl,hs4⟩
  have hs:=hs.trans hs4 (fun _ _ h=>h)
  refine hK _ _ (Lat.mk_ (Frm.mono hs (fun _ _ h=>h.elim))) ?_
  have HS4:=Lib.hid hs
  have hM4:=HM.out.same hs
  clear hK K hs hs4 hmc0 hmc1 hml
  have hmc2:=hM4.c2
  have hml:=hM4.blk.lt
  clear hM4
  repeat (any_goals (first | go_big_quiet_step (fail) | quiet_step (fail)))
  refine wpQuiet_nil ?_
  go_wp2_with (fail)
  refine (HTU.out _ HS4.out).mono ?_
  rintro e w5 ⟨A5,C5,rfl,hN5⟩
  have hs5:Same w w5:=HS4.out.trans hN5.2.2 (fun _ _ h=>h)
  have hM5:=HM.out.same hs5
  have hml:=hM5.blk.lt
  have f2:=hM5.blk.free 2
  have c2':=hM5.c2
  have hset:=hM5.ord_set (r:=swp M.ord m) (A2:=A5) (C2:=C5) hN5.1 (fun b hb hk=>by
    have h1:=hN5.2.1 b hb
    have h2:=(HM.out.same HS4.out).lt hk
    omega) (by rw [swp_len];exact HOL.out) hs5 (fun b hb=>by
    have h1:=hN5.2.1 b hb
    have:=HS4.out.size
    omega) HM.out
  have HSET:=Lib.hid hset
  clear hN5 hs5 hM5 hset hmc2
  rw [swp_len] at HSET
  rw [swp_len]
  go_upto_region 6 with fail
  generalize w5.setCell ⟨mp,2,none⟩ (.slice A5 M.ord.length C5)=w6 at HSET ⊢
  have hM6:=HSET.out.1
  clear c2' f2 hml
  have c4:=hM6.c4
  have hml:=hM6.blk.lt
  simp only at c4
  have HM6:=Lib.hid hM6
  clear hM6
  refine wp_read 6 ?_
  simp only [List.take_succ_cons,List.take_zero,List.drop_succ_cons,List.drop_zero]
  repeat (any_goals (first | go_big_quiet_step (fail) | quiet_step (fail)))
  refine wpQuiet_nil ?_
  refine wpList_plain rfl fun K hK=>?_
  go_simp
  refine hK _ _ ?_
  clear hK K
  refine list_world fun wa hwa=>?_
  have hL:=Blk.new w6 3 #[.int .i64 (m:Int)]
  have hsa:Same w6 wa:=by rw [hwa];exact (Frm.refl _ _).alloc _
  rw [← hwa] at hL
  clear hwa
  have hMa:=HM6.out.same hsa
  refine Own.append_list (f:=icell) rfl (.tmp 40) (.tmp 42) _ rfl Tryz.underlying46 info_int rfl (by omega) rfl hMa.tr (fun _=>rfl) (m:Int) w6.heap.size 1 rfl hL (by simp [Value.oneCell',icell]) (by unfold maxLen;simp only;omega) (by simp only;omega) ?_
  intro gg cap wb hOb hgb hat
  have hmb:=hMa.blk.grown hgb (fun hx=>hMa.mp_t (ownBlock_row.1 hx.symm))
  have fb:=hmb.free 4
  have hmbl:=hmb.lt
  have cb:=hmb.cell 4
  simp at cb
  have hfr:Frm (fun x=>x=mp∨rowOf a.tA x) w6 wb:=(Frm.mono hsa (fun _ _ h=>h.elim)).grown hgb (fun g hg=>.inl (.inr (ownBlock_row.1 hg)))
  have HFR:=Lib.hid hfr
  have HMB:=Lib.hid hmb
  have HOB:=Lib.hid hOb
  have HAT:=Lib.hid (show ∀ b,rowOf (some (⟨gg,0,none⟩:Addr)) b→rowOf a.tA b∨w6.heap.size≤b from fun b hb=>by
   obtain ⟨x,hx,rfl⟩:=hb
   injection hx with hx
   subst hx
   rcases hat with h | h
   ·exact .inl (ownBlock_row.1 h)
   ·have:=hsa.size
    exact .inr (by simp only;omega))
  clear hfr hOb hgb hat hMa hsa hL hmb c4 hml
  go_wp2
  go_ret
  have hob2:=Own.far (p:=⟨mp,4,none⟩) HOB.out (fun x hx h=>Own.ne_blk HOB.out HMB.out (by decide) x hx h) (.slice (some ⟨gg,0,none⟩) (M.tr.length+1) cap)
  have hgo:=HM6.out.tr_to (r:=M.tr ++ [(m:Int)]) (A2:=some ⟨gg,0,none⟩) (C2:=cap) (HFR.out.set 4 (.slice (some ⟨gg,0,none⟩) (M.tr.length+1) cap) (.inl rfl)) (by
    have:=HMB.out.set 4 (.slice (some ⟨gg,0,none⟩) (M.tr.length+1) cap)
    simpa [mcells] using this)
   (by rw [List.length_append];exact hob2) HAT.out (by rw [List.length_append];simp <;> omega)
  have hgo1:=HSET.out.2
  exact ⟨rfl,_,hgo.1,hgo1.trans hgo.2⟩
 ·rw [if_neg hfit]
  have hgt:(M.c:Int) < 2+(U:Int):=by omega
  go_enter Tryz.func76,Tryz.ntmps76
  go_upto_region 3 with fail
  refine wp_phS (fun _=>False) [([0,1,4,5,6,7],2),([3,8],9)] (by kernel_rfl) (by kernel_rfl) ?_
  simp only [wpPh,pick,List.map_cons,List.map_nil,List.getD_cons_zero,List.getD_cons_succ]
  have hs:Same w w.drew:=(Frm.refl _ _).drew
  repeat (any_goals (first | go_big_quiet_step (fail) | quiet_step (fail)))
  refine wpQuiet_nil ?_
  refine effStep_plain rfl fun K hK=>?_
  go_simp
  refine (HU.out _ hs).mono ?_
  rintro e w4 ⟨rfl,hs4⟩
  have hs:=hs.trans hs4 (fun _ _ h=>h)
  refine hK _ _ (Lat.mk_ (Frm.mono hs (fun _ _ h=>h.elim))) ?_
  have HS4:=Lib.hid hs
  clear hK K hs hs4 hmc0 hmc1 hml
  repeat (any_goals (first | go_big_quiet_step (fail) | quiet_step (fail)))
  refine wpQuiet_nil ?_
  go_wp2
  go_ret
  exact ⟨rfl,a,HM.out.same HS4.out,MGo.same HS4.out⟩
end
def newM (n c:Nat):MS:=⟨n,c,(List.range n).map (fun i:Nat=>(i:Int)),[],[]⟩
def rngI (k:Nat):List Int:=(List.range k).map (fun i:Nat=>(i:Int))
theorem rngI_len (k:Nat):(rngI k).length=k:=by simp [rngI]
theorem rngI_succ (k:Nat):rngI (k+1)=rngI k ++ [(k:Int)]:=by simp [rngI,List.range_succ]
theorem newModel_any (n c:Nat) (w:World) (hn:n≤16) :
  Calls Tryz.prog 64 #[.int .i64 n,.int .i64 c] w fun e w'=>∃ mp a,e=.returned (.pointer (some ⟨mp,0,none⟩))∧MW w' mp (newM n c) a∧Same w w'∧∀ b,MFp mp a b→w.heap.size≤b:=by
 go_enter Tryz.func64,Tryz.ntmps64
 go_upto_region 2 with fail
 refine wp_world fun w1 hw1=>?_
 have hX:=Blk.new w 112 #[.int .i64 n,.int .i64 c,.slice none 0 0,.slice none 0 0,.slice none 0 0]
 have hs1:Same w w1:=by rw [hw1];exact (Frm.refl _ _).alloc _
 rw [← hw1] at hX
 clear hw1
 have HX:=Lib.hid hX
 have HS1:=Lib.hid hs1
 obtain ⟨mp,hmp⟩:∃ z,z=w.heap.size:=⟨_,rfl⟩
 rw [← hmp] at HX ⊢
 have hwm:w.heap.size≤mp:=by omega
 clear hX hs1 hmp
 go_wp2_with (fail)
 go_loopw [6] (fun i wr=>∃ (k:Nat) (A:Option Addr) (C:Nat),k≤n∧i=.int .i64 k∧Blk wr mp 112 #[.int .i64 n,.int .i64 c,.slice A k C,.slice none 0 0,.slice none 0 0]∧OwnI wr 3 A k C (rngI k)∧(∀ b,rowOf A b→w.heap.size≤b)∧Same w wr) (fun i _=>n - (intOf i).toNat)
 case atStart=>exact ⟨0,none,0,by omega,rfl,HX.out,Own.nil _ _ _ _,(fun b hb=>by obtain ⟨x,hx,_⟩:=hb;cases hx),HS1.out⟩
 case round =>
  obtain ⟨k,A,C,hk,rfl,hB,hO,hfr,hS⟩:=hrel
  have hml:=hB.lt
  by_cases hlt:k < n
  ·have hI:(k:Int) < (n:Int):=by omega
   have c2:wr.cell? ⟨mp,2,none⟩=some (.slice A k C):=hB.cell 2
   have HB:=Lib.hid hB
   have HO:=Lib.hid hO
   have HFR:=Lib.hid hfr
   have HS:=Lib.hid hS
   clear hB hO hfr hS
   go_upto_region 5 with fail
   refine wp_read 6 ?_
   simp only [List.take_succ_cons,List.take_zero,List.drop_succ_cons,List.drop_zero]
   repeat (any_goals (first | go_big_quiet_step (fail) | quiet_step (fail)))
   refine wpQuiet_nil ?_
   refine wpList_plain rfl fun K hK=>?_
   go_simp
   refine hK _ _ ?_
   clear hK K
   refine list_world fun wa hwa=>?_
   have hL:=Blk.new wr 3 #[.int .i64 (k:Int)]
   have hsa:Same wr wa:=by rw [hwa];exact (Frm.refl _ _).alloc _
   rw [← hwa] at hL
   clear hwa
   have hOa:=HO.out.frm hsa (fun _ _=>id)
   refine Own.append_list (f:=icell) rfl (.tmp 20) (.tmp 22) _ rfl Tryz.underlying46 info_int rfl (by omega) rfl hOa (fun _=>rfl) (k:Int) wr.heap.size 1 rfl hL (by simp [Value.oneCell',icell]) (by rw [rngI_len];unfold maxLen;omega) (by rw [rngI_len];omega) ?_
   intro gg cap wb hOb hgb hat
   have hmA:∀ x,A=some x→x.block≠mp:=fun x hx h=>hOa.ne_blk (HB.out.frm hsa id) (by decide) x hx h
   have hmb:=(HB.out.frm hsa id).grown hgb (fun hx=>by
    obtain ⟨x,hx,hxb⟩:=ownBlock_row.1 hx.symm
    exact hmA x hx hxb)
   have fb:=hmb.free 2
   have hmbl:=hmb.lt
   have cb:=hmb.cell 2
   simp at cb
   have hsb:Same w wb:=(HS.out.trans hsa (fun _ _ h=>h)).grown hgb (fun g hg=>.inr (HFR.out g (ownBlock_row.1 hg)))
   have hob2:=Own.far (p:=⟨mp,2,none⟩) hOb (fun x hx h=>Own.ne_blk hOb hmb (by decide) x hx h) (.slice (some ⟨gg,0,none⟩) (k+1) cap)
   have hmb2:=hmb.set 2 (.slice (some ⟨gg,0,none⟩) (k+1) cap)
   have HOB:=Lib.hid hob2
   have HMB:=Lib.hid (show Blk (wb.setCell ⟨mp,2,none⟩ (.slice (some ⟨gg,0,none⟩) (k+1) cap)) mp 112 #[.int .i64 n,.int .i64 c,.slice (some ⟨gg,0,none⟩) (k+1) cap,.slice none 0 0,.slice none 0 0] by simpa using hmb2)
   have HAT:=Lib.hid (show ∀ b,rowOf (some (⟨gg,0,none⟩:Addr)) b→w.heap.size≤b from fun b hb=>by
    obtain ⟨x,hx,rfl⟩:=hb
    injection hx with hx
    subst hx
    rcases hat with h | h
    ·exact HFR.out _ (ownBlock_row.1 h)
    ·have:=hsa.size
     have:=HS.out.size
     simp only
     omega)
   have HSB:=Lib.hid (hsb.setNew (g:=mp) 2 (.slice (some ⟨gg,0,none⟩) (k+1) cap) hwm)
   clear hsb hob2 hmb2 hOb hgb hat hOa hsa hL hmb c2 hml hmA
   go_wp2
   go_roundw
   case rel=>exact ⟨k+1,some ⟨gg,0,none⟩,cap,by omega,by go_num,HMB.out,by rw [rngI_succ];exact HOB.out,HAT.out,HSB.out⟩
   case measure=>simp [intOf] <;> omega
  ·obtain rfl:k=n:=by omega
   have hI:¬ ((k:Nat):Int) < (k:Int):=by omega
   have HB:=Lib.hid hB
   have HO:=Lib.hid hO
   have HFR:=Lib.hid hfr
   have HS:=Lib.hid hS
   clear hB hO hfr hS
   go_wp2
   go_ret
   refine ⟨mp,rfl,⟨A,C,none,0,[],none,0⟩,⟨?_,?_,Own.nil _ _ _ _,(fun q hq=>by cases hq),rfl,Own.nil _ _ _ _,hn,by show (rngI k).length≤16;rw [rngI_len];exact hn,by simp [newM],by simp [newM],(fun b _ hb=>by obtain ⟨x,hx,_⟩:=hb;cases hx)⟩,HS.out,?_⟩
   ·have:=HB.out
    show Blk wr mp _ #[.int .i64 k,.int .i64 c,.slice A (rngI k).length C,_,_]
    rw [rngI_len]
    exact this
   ·show OwnI wr _ A (rngI k).length C (rngI k)
    rw [rngI_len]
    exact HO.out
   ·rintro b (rfl | hb | ⟨x,hx,_⟩ | ⟨x,hx,_⟩)
    ·exact hwm
    ·exact HFR.out b hb
    ·cases hx
    ·cases hx
structure Nd where
 v:Int
 lo:Int
 hi:Int
deriving DecidableEq,Inhabited
def Nd.cells (n:Nd):List Value:=[.int .i64 n.v,.int .u32 n.lo,.int .u32 n.hi]
def Nd.val (n:Nd):Value:=.agg #[.int .i64 n.v,.int .u32 n.lo,.int .u32 n.hi]
theorem eql_nd (x y:Nd) (w:World):(binOp .eql 37 x.val y.val).run Tryz.prog w=.ok (.bool (decide (x=y))) w:=by
 obtain ⟨o,a,b⟩:=x
 obtain ⟨o',a',b'⟩:=y
 unfold Nd.val
 simp only [binOp]
 by_cases h1:o=o' <;> by_cases h2:a=a' <;> by_cases h3:b=b' <;> simp [Op.equal,Op.maxDepth,run_equalIn_struct,go_sem,h1,h2,h3]
structure Pl where
 n:Nd
 t:Bool
 c:Int
def Pl.cells (p:Pl):List Value:=[.int .i64 p.n.v,.int .u32 p.n.lo,.int .u32 p.n.hi,.bool p.t,.int .u8 p.c]
theorem Pl.cells_len (p:Pl):p.cells.length=5:=rfl
def rc (r:Int):Value:=.int .u32 r
def tk (ls:List Pl) (r:Int):Bool:=match ls[r.toNat]? with | some p=>p.t | none=>false
def ckN (ls:List Pl) (n:Nd):Int:=if n.v < 0∨64≤n.v then 2 else if tk ls n.lo=false∨tk ls n.hi=false then 3 else 0
def ownE (ls:List Pl) (r:Int):Int:=if r≤1∨tk ls r=false then 3 else 0
theorem taken_any (g:Nat) (v0 v2 v3:Value) (ls:List Pl) (A:Option Addr) (C:Nat) (r:Int) (w:World) (hb:Blk w g 141 #[v0,.slice A ls.length C,v2,v3]) (ho:Own w 166 5 Pl.cells A ls.length C ls)
  (_hm:ls.length < 4294967296) (hr0:0≤r) (hr1:r < 4294967296) :
  Calls Tryz.prog 119 #[.pointer (some ⟨g,0,none⟩),.int .u32 r] w fun e w'=>e=.returned (.bool (tk ls r))∧w=w':=by
 obtain ⟨n,rfl⟩:=Int.eq_ofNat_of_zero_le hr0
 have h1:=hb.cell 1
 simp at h1
 by_cases hlt:n < ls.length
 ·obtain ⟨p,hp⟩:∃ p,ls[n]?=some p:=⟨_,List.getElem?_eq_getElem hlt⟩
  obtain ⟨sb,rfl,hsb,hc⟩:=ho.get Pl.cells_len hp
  have c3:w.cell? ⟨sb,n * 5+3,none⟩=some (.bool p.t):=hc 3 (by omega)
  have hi:(n:Int) < ls.length:=by omega
  have HP:=Lib.hid hp
  clear hp ho hb hc
  go_enter Tryz.func119,Tryz.ntmps119
  go_wp2
  go_ret
  exact ⟨by simp [tk,HP.out],rfl⟩
 ·have hi:decide ((n:Int) < (ls.length:Int))=false:=by simp <;> omega
  have HN:Hid (ls[n]?=none):=Lib.hid (List.getElem?_eq_none (by omega))
  clear ho hb
  go_enter Tryz.func119,Tryz.ntmps119
  go_wp2
  go_ret
  exact ⟨by simp [tk,HN.out],rfl⟩
theorem check_any (g:Nat) (v0 v2 v3:Value) (ls:List Pl) (A:Option Addr) (C:Nat) (n:Nd) (w:World) (hb:Blk w g 141 #[v0,.slice A ls.length C,v2,v3]) (ho:Own w 166 5 Pl.cells A ls.length C ls)
  (hm:ls.length < 4294967296) (hl0:0≤n.lo) (hl1:n.lo < 4294967296) (hh0:0≤n.hi) (hh1:n.hi < 4294967296) :
  Calls Tryz.prog 118 #[.pointer (some ⟨g,0,none⟩),n.val] w fun e w'=>e=.returned (.int .i64 (ckN ls n))∧Same w w':=by
 have tkl:∀ w',Same w w'→Calls Tryz.prog 119 #[.pointer (some ⟨g,0,none⟩),.int .u32 n.lo] w' fun e w''=>e=.returned (.bool (tk ls n.lo))∧w'=w'' :=
  fun w' h=>taken_any g v0 v2 v3 ls A C n.lo w' (hb.frm h id) (ho.frm h (fun _ _=>id)) hm hl0 hl1
 have tkh:∀ w',Same w w'→Calls Tryz.prog 119 #[.pointer (some ⟨g,0,none⟩),.int .u32 n.hi] w' fun e w''=>e=.returned (.bool (tk ls n.hi))∧w'=w'' :=
  fun w' h=>taken_any g v0 v2 v3 ls A C n.hi w' (hb.frm h id) (ho.frm h (fun _ _=>id)) hm hh0 hh1
 have TL:=Lib.hid tkl
 have TH:=Lib.hid tkh
 clear tkl tkh hb ho
 unfold Nd.val
 have hsame:Same w (w.alloc (.cells #[.int .i64 n.v,.int .u32 n.lo,.int .u32 n.hi] 37)):=(Frm.refl _ _).alloc _
 by_cases h1:n.v < 0
 ·go_enter Tryz.func118,Tryz.ntmps118
  go_wp2_with (fail)
  go_ret
  exact ⟨ret_int (by simp [ckN,h1]),hsame⟩
 ·by_cases h2:n.v ≥ 64
  ·go_enter Tryz.func118,Tryz.ntmps118
   go_wp2_with (fail)
   go_ret
   exact ⟨ret_int (by simp [ckN] <;> omega),hsame⟩
  ·go_enter Tryz.func118,Tryz.ntmps118
   go_wp2_with (fail)
   refine (TL.out _ hsame).mono ?_
   rintro e w1 ⟨rfl,rfl⟩
   cases hl:tk ls n.lo with
   | false =>
    go_wp2_with (fail)
    go_ret
    exact ⟨ret_int (by simp only [ckN];rw [if_neg (by omega),if_pos (.inl hl)]),hsame⟩
   | true =>
    go_wp2_with (fail)
    refine (TH.out _ hsame).mono ?_
    rintro e w1 ⟨rfl,rfl⟩
    cases hh:tk ls n.hi with
    | false =>
     go_wp2_with (fail)
     go_ret
     exact ⟨ret_int (by simp only [ckN];rw [if_neg (by omega),if_pos (.inr hh)]),hsame⟩
    | true =>
     go_wp2_with (fail)
     go_ret
     exact ⟨ret_int (by simp only [ckN];rw [if_neg (by omega),if_neg (by simp [hl,hh])]),hsame⟩
theorem own_any (g:Nat) (v0 v2 v3:Value) (ls:List Pl) (A:Option Addr) (C:Nat) (r:Int) (w:World) (hb:Blk w g 141 #[v0,.slice A ls.length C,v2,v3]) (ho:Own w 166 5 Pl.cells A ls.length C ls)
  (hm:ls.length < 4294967296) (hr0:0≤r) (hr1:r < 4294967296) :
  Calls Tryz.prog 120 #[.pointer (some ⟨g,0,none⟩),.int .u32 r] w fun e w'=>e=.returned (.int .i64 (ownE ls r))∧w=w':=by
 have T:=Lib.hid (taken_any g v0 v2 v3 ls A C r w hb ho hm hr0 hr1)
 clear hb ho
 by_cases h1:r≤1
 ·go_enter Tryz.func120,Tryz.ntmps120
  go_wp2_with (fail)
  go_ret
  exact ⟨ret_int (by simp [ownE,h1]),rfl⟩
 ·go_enter Tryz.func120,Tryz.ntmps120
  go_wp2_with (fail)
  refine T.out.mono ?_
  rintro e w1 ⟨rfl,rfl⟩
  cases ht:tk ls r with
  | false =>
   go_wp2_with (fail)
   go_ret
   exact ⟨ret_int (by simp [ownE,ht]),rfl⟩
  | true =>
   go_wp2_with (fail)
   go_ret
   exact ⟨ret_int (by simp [ownE,ht,h1]),rfl⟩
end Go.Proofs.YtiomgckodmecbaaGreat
