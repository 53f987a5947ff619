/- Contracts and plain laws, put together in one file. No condition. -/
import Derived.Test.YtiomgckodmecbaaGreatJKernelSound10
import Derived.Test.YtiomgckodmecbaaGreatRows

set_option maxRecDepth 100000
set_option maxHeartbeats 32000000
namespace Go.Proofs.YtiomgckodmecbaaGreat
open Go.RowKit Go.Tk
section
variable {k:KS} {l:List Int}
theorem walk_has (K:KI k) (W:WRes k (rootsK k) l):∀ (d:Nat) (n:Nd) (r:Int),(n,r)∈k.L→levK k n.v=d→r∈l:=by
 intro d
 induction d using Nat.strongRecOn with
 | _ d ih =>
  intro n r hm hd
  have hp:=K.pos n r hm
  obtain ⟨h1,_⟩:=K.bk.usR (List.mem_append_left [] hm)
  obtain ⟨h2,_,_⟩:=K.mem' hm
  by_cases h0:k.hs.getD r.toNat 0=0
  ·rw [if_pos h0] at h1
   have hpar:par k.L r≠0:=fun h=>by
    rw [h] at h1
    rw [h1] at hp
    simp at hp
   have hex:∃ p∈k.L,p.1.lo=r∨p.1.hi=r:=by
    apply Classical.byContradiction
    intro hn
    refine hpar (par_zero.2 fun p hp=>⟨fun h=>hn ⟨p,hp,.inl h⟩,fun h=>hn ⟨p,hp,.inr h⟩⟩)
   obtain ⟨⟨m,s⟩,hms,hor⟩:=hex
   obtain ⟨c0,c1,_⟩:=K.bk.chl m s hms
   obtain ⟨i,hi,hin,_⟩:=K.lv.ord_of c0 c1
   have hlev:levK k m.v < levK k n.v:=by
    rcases hor with h | h
    ·exact K.ord.lo m s n hms (by rw [show m.lo=r from h];exact hm)
    ·exact K.ord.hi m s n hms (by rw [show m.hi=r from h];exact hm)
   have hs:=ih i (by omega) m s hms hi
   have hg:=(K.mem' hms).2.1
   have hc:=W.chl s hs (by rw [hg];exact c0)
   rw [hg] at hc
   rcases hor with h | h
   ·exact h ▸ hc.1
   ·exact h ▸ hc.2
  ·refine W.top r (.inr (.inr ?_))
   have hn:0 < k.hs.getD r.toNat 0:=by
    rw [List.getD_eq_getElem?_getD] at h0 ⊢
    cases hx:k.hs[r.toNat]? with
    | none=>rw [hx] at h0;exact absurd rfl h0
    | some y =>
     rw [hx] at h0
     have:=(K.bk.hol _ y hx).1
     simp at h0 ⊢
     omega
   refine rootsTo_mem.2 ⟨r.toNat,by omega,?_,hn⟩
   rw [List.getD_eq_getElem?_getD] at h0
   cases hx:k.hs[r.toNat]? with
   | none=>rw [hx] at h0;exact absurd rfl h0
   | some y=>exact (List.getElem?_eq_some_iff.1 hx).1
theorem walk_perm (K:KI k) (W:WRes k (rootsK k) l):l.Perm (0 :: 1 :: k.L.map (·.2)):=by
 have hr:(k.L.map (·.2)).Nodup:=by
  have:=K.bk.rn
  rwa [List.append_nil] at this
 have h2:∀ r∈k.L.map (·.2),2≤r:=fun r hr=>by
  obtain ⟨⟨n,s⟩,h,rfl⟩:=List.mem_map.1 hr
  exact (K.mem' h).1
 refine (List.perm_ext_iff_of_nodup W.nd ?_).2 fun r=>⟨fun h=>?_,fun h=>?_⟩
 ·refine List.nodup_cons.2 ⟨fun h=>?_,List.nodup_cons.2 ⟨fun h=>?_,hr⟩⟩
  ·rcases List.mem_cons.1 h with h | h
   ·cases h
   ·have:=h2 _ h
    omega
  ·have:=h2 _ h
   omega
 ·obtain ⟨h0,ht⟩:=W.ll r h
  rcases (K.live h0).1 ht with rfl | rfl | ⟨n,hn⟩
  ·exact List.mem_cons_self ..
  ·exact List.mem_cons_of_mem _ (List.mem_cons_self ..)
  ·exact List.mem_cons_of_mem _ (List.mem_cons_of_mem _ (List.mem_map.2 ⟨_,hn,rfl⟩))
 ·rcases List.mem_cons.1 h with rfl | h
  ·exact W.top 0 (.inl rfl)
  ·rcases List.mem_cons.1 h with rfl | h
   ·exact W.top 1 (.inr (.inl rfl))
   ·obtain ⟨⟨n,s⟩,hn,rfl⟩:=List.mem_map.1 h
    obtain ⟨c0,c1,_⟩:=K.bk.chl n s hn
    obtain ⟨i,hi,_,_⟩:=K.lv.ord_of c0 c1
    exact walk_has K W i n s hn hi
theorem walk_len (K:KI k) (W:WRes k (rootsK k) l):l.length=k.ac:=by
 have h1:=(walk_perm K W).length_eq
 have h2:=K.bk.cnt
 rw [List.append_nil] at h2
 simp at h1
 omega
def nodesOf (k:KS) (l:List Int):List Nd:=(l.filter fun r=>decide (2≤r)).map (getN k.ls)
theorem nodesOf_snoc (l:List Int) (r:Int):nodesOf k (l ++ [r])=if 2≤r then nodesOf k l ++ [getN k.ls r] else nodesOf k l:=by
 unfold nodesOf
 rw [List.filter_append]
 by_cases h:2≤r
 ·rw [if_pos h]
  simp [h]
 ·rw [if_neg h]
  simp [h]
theorem nodesOf_len (l:List Int):(nodesOf k l).length≤l.length:=by
 unfold nodesOf
 rw [List.length_map]
 exact List.length_filter_le _ _
def cntV (nd:List Nd) (v:Int):Nat:=(nd.filter fun n=>decide (n.v=v)).length
theorem cntV_snoc (nd:List Nd) (n:Nd) (v:Int):cntV (nd ++ [n]) v=if n.v=v then cntV nd v+1 else cntV nd v:=by
 unfold cntV
 rw [List.filter_append,List.length_append]
 by_cases h:n.v=v
 ·rw [if_pos h]
  simp [h]
 ·rw [if_neg h]
  simp [h]
theorem cntV_le (nd:List Nd) (v:Int):cntV nd v≤nd.length:=List.length_filter_le _ _
theorem walk_nodes (K:KI k) (W:WRes k (rootsK k) l):(nodesOf k l).Perm (k.L.map (·.1)):=by
 have h1:=((walk_perm K W).filter (fun r=>decide (2≤r))).map (getN k.ls)
 have h2:((0 :: 1 :: k.L.map (·.2)).filter fun r:Int=>decide (2≤r))=k.L.map (·.2):=by
  rw [List.filter_cons_of_neg (by decide),List.filter_cons_of_neg (by decide),List.filter_eq_self]
  intro r hr
  obtain ⟨⟨n,s⟩,h,rfl⟩:=List.mem_map.1 hr
  simpa using (K.mem' h).1
 rw [h2,List.map_map] at h1
 have h3:k.L.map (getN k.ls ∘ (·.2))=k.L.map (·.1):=List.map_congr_left fun p hp=>(K.mem' (n:=p.1) (r:=p.2) hp).2.1
 rw [h3] at h1
 exact h1
theorem walk_cnt (K:KI k) (W:WRes k (rootsK k) l) (v:Nat) (hv:v < k.n):cntV (nodesOf k l) v=wdR k v:=by
 unfold cntV wdR
 rw [if_pos ⟨by omega,by omega⟩,((walk_nodes K W).filter _).length_eq,List.filter_map,List.length_map]
 rfl
theorem live_node (K:KI k) {r:Int} (h:LiveR k r) (h2:2≤r):(getN k.ls r,r)∈k.L:=by
 rcases (K.live h.1).1 h.2 with rfl | rfl | ⟨n,hn⟩
 ·omega
 ·omega
 ·rw [(K.mem' hn).2.1]
  exact hn
theorem nodes_new (K:KI k) {pre:List Int} {r:Int} (hp:∀ s∈pre,LiveR k s) (hr:LiveR k r) (h2:2≤r) (hn:r ∉ pre):∀ m∈nodesOf k pre,m≠getN k.ls r:=by
 intro m hm he
 unfold nodesOf at hm
 obtain ⟨s,hs,rfl⟩:=List.mem_map.1 hm
 rw [List.mem_filter] at hs
 have hs2:2≤s:=by simpa using hs.2
 have h1:=live_node K (hp s hs.1) hs2
 have h3:=live_node K hr h2
 rw [he] at h1
 have hk:=K.bk.kn
 have:s=r:=pair_uniq hk h1 h3
 exact hn (this ▸ hs.1)
end
theorem info_node9:(Tryz.prog.info? 37).map (fun i=>(i.zero,i.size,i.bytes))=some (some (.agg #[.int .i64 0,.int .u32 0,.int .u32 0]),3,16):=by kernel_rfl
theorem ncells_len (n:Nd):n.cells.length=3:=rfl
theorem KI.perm {k:KS} (K:KI k):chk k.ord=0:=by
 refine chk_ok.2 ⟨⟨fun x hx=>?_,?_⟩,by rw [K.ordl];exact K.bk.n64⟩
 ·obtain ⟨i,hi⟩:=List.getElem?_of_mem hx
  obtain ⟨m,rfl,hm,_⟩:=K.lv.o2 i x hi
  rw [K.ordl]
  omega
 ·refine List.pairwise_iff_getElem.2 fun i j hi hj hij he=>?_
  obtain ⟨m,h1,_,h2⟩:=K.lv.o2 i _ (List.getElem?_eq_getElem hi)
  obtain ⟨m',h3,_,h4⟩:=K.lv.o2 j _ (List.getElem?_eq_getElem hj)
  rw [he,h3] at h1
  obtain rfl:m'=m:=by omega
  rw [h2] at h4
  injection h4 with h4
  omega
section
variable {w w':World} {B:Nat→Prop} {xb:Nat} {x:RS} {q:RA}
theorem sound9_any (hX:RW B w xb x q) (hl:x.held.length=x.refs.length) (hrg:∀ r∈x.refs,0≤r∧r < 4294967296) (hcb:∀ c∈x.held,0≤c∧c≤1000000000000000) (hrl:x.refs.length≤1000000) (hh:Held x) :
  Calls Tryz.prog 42 #[.pointer (some ⟨xb,0,none⟩)] w fun e w'=>e=.returned (.bool true)∧Same w w':=by
 have K:=hX.k.ki
 have hn1:=K.bk.n1
 have hn64:=K.bk.n64
 have hls:=K.lsl
 have hc:∀ w',Same w w'→xb < w'.heap.size∧w'.cell? ⟨xb,0,none⟩=some (.pointer (some ⟨q.kp,0,none⟩)):=fun w' hs=>⟨(hX.same hs).blk.lt,(hX.same hs).c0⟩
 have HC:=Lib.hid hc
 have hmk:=fun w=>run_make_n (P:=Tryz.prog) Tryz.underlying46 info_int .i64 .i64 x.k.n (show 8 * x.k.n≤281474976710656 by omega) (show x.k.n≤9223372036854775807 by omega) w
 have HMK:=Lib.hid (fun w=>Own.ofMade (m:=1) w 3 icell (fun _=>rfl) (by decide) 0 x.k.n (show x.k.n≤9223372036854775807 by omega) rfl)
 have hho:=fun w' (hs:Same w w') (A:Option Addr) (C:Nat) (hA:Row1 w' 28 rc A (rootsK x.k).length C (rootsK x.k))=>holds9_any (hX.same hs) hl hrg hcb hrl hh A C hA
 have hrl2:=roots_len K
 have HKR:=Lib.hid (fun w' (hs:Same w w')=>hX.k.same hs)
 have HHO:=Lib.hid hho
 have HK:=Lib.hid K
 have HS:=Lib.hid (Frm.refl (fun _=>False) w:Same w w)
 clear hX hl hrg hcb hrl hh hc hho K
 go_enter Tryz.func42,Tryz.ntmps42
 obtain ⟨hxl,c0⟩:=HC.out _ HS.out
 go_wp2_with (fail)
 refine (kr_roots (HKR.out _ HS.out)).mono ?_
 rintro e w1 ⟨A3,C3,rfl,hR3,hF3,hs⟩
 replace HS:=Lib.hid (show Same w w1 from hs)
 have HR3:=Lib.hid hR3
 have hlv:∀ r∈rootsK x.k,LiveR x.k r:=fun r hr=>by
  obtain ⟨h2,h0⟩:=roots_two HK.out r hr
  refine ⟨by omega,(HK.out.live (by omega)).2 (.inr (.inr ?_))⟩
  obtain ⟨n,hn⟩:=held_mem (r:=r) HK.out.bk (by omega) (by omega)
  exact ⟨n,by rwa [List.append_nil] at hn⟩
 have hwk:=walk9_any (HKR.out _ HS.out) A3 _ C3 (rootsK x.k) (HR3.out.sl (fun _=>rfl)) hlv (by omega)
 have HWK:=Lib.hid hwk
 clear hxl c0 hs hR3 hF3 hlv hwk
 obtain ⟨hxl,c0⟩:=HC.out _ HS.out
 go_wp2_with (fail)
 refine HWK.out.mono ?_
 rintro e w2 ⟨A4,C4,l,rfl,hW,hL4,hF4,hs⟩
 have HR4:=Lib.hid (HR3.out.frm hs (fun _ _=>id))
 replace HS:=Lib.hid (HS.out.trans hs (fun _ _ h=>h))
 have hll:=walk_len HK.out hW
 have hlc:l.length≤x.k.c:=by
  have h1:=HK.out.bk.cntl
  have h2:=HK.out.bk.lim
  omega
 have hlb:l.length≤1048576:=by
  have h1:=HK.out.acl
  omega
 have hl2:2≤l.length:=by
  have h1:=HK.out.bk.cnt
  omega
 have hlive:=kr_live (HKR.out _ HS.out)
 rw [← hll] at hlive
 have HLIVE:=Lib.hid hlive
 have HW:=Lib.hid hW
 have HL4:=Lib.hid hL4
 have hcc:¬ (l.length:Int) > (x.k.c:Int):=by omega
 clear hxl c0 hs HWK hW hL4 hF4 hll hlive HR3 hlc
 obtain ⟨hxl,c0⟩:=HC.out _ HS.out
 go_wp2_with (fail)
 refine HLIVE.out.mono ?_
 rintro e w3 ⟨rfl,rfl⟩
 go_wp2_with (fail)
 refine (kr_nodes (HKR.out _ HS.out)).mono ?_
 rintro e w3 ⟨rfl,rfl⟩
 go_wp2_with (fail)
 refine (kr_vars (HKR.out _ HS.out)).mono ?_
 rintro e w3 ⟨rfl,rfl⟩
 go_wp2_with (fail)
 refine (kr_order (HKR.out _ HS.out)).mono ?_
 rintro e w3 ⟨A7,C7,rfl,hO7,hF7,hs⟩
 rw [HK.out.ordl] at hO7 ⊢
 replace HR4:=Lib.hid (HR4.out.frm hs (fun _ _=>id))
 replace HL4:=Lib.hid (HL4.out.frm hs (fun _ _=>id))
 replace HS:=Lib.hid (HS.out.trans hs (fun _ _ h=>h))
 have hdc:=doccheck_any A7 x.k.n C7 x.k.ord w3 (Own.il (show OwnI w3 3 A7 x.k.n C7 x.k.ord from hO7)) (by omega)
 rw [HK.out.perm] at hdc
 have HDC:=Lib.hid hdc
 have HO7:=Lib.hid (show OwnI w3 3 A7 x.k.n C7 x.k.ord from hO7)
 clear hxl c0 hs hO7 hF7 hdc HLIVE hcc
 go_wp2_with (fail)
 refine HDC.out.mono ?_
 rintro e w4 ⟨rfl,rfl⟩
 go_wp2_with (fail)
 refine wp_world fun w5 hw5=>?_
 have hr5:OwnI w5 3 (some ⟨w3.heap.size,0,none⟩) x.k.n x.k.n (List.replicate x.k.n 0):=by rw [hw5];simpa [icell] using HMK.out w3
 have hs5:Same w3 w5:=by rw [hw5];exact (Frm.refl _ _).alloc _
 have hz5:w5.heap.size=w3.heap.size+1:=by rw [hw5];simp
 clear hw5
 have hlt:∀ b,(rowOf A7 b∨rowOf A3 b∨rowOf A4 b)→b < w3.heap.size:=fun b hb=>by
  rcases hb with hb | hb | hb
  ·exact row_lt HO7.out hb
  ·exact row_lt HR4.out hb
  ·exact row_lt HL4.out hb
 replace HR4:=Lib.hid (HR4.out.frm hs5 (fun _ _=>id))
 replace HL4:=Lib.hid (HL4.out.frm hs5 (fun _ _=>id))
 replace HO7:=Lib.hid (HO7.out.frm hs5 (fun _ _=>id))
 have hlow:=HS.out.size
 replace HS:=Lib.hid (HS.out.trans hs5 (fun _ _ h=>h))
 obtain ⟨LB,hLB⟩:∃ z,w3.heap.size=z:=⟨_,rfl⟩
 rw [hLB] at hr5 hz5 hlow hlt ⊢
 have HLT:=Lib.hid hlt
 have HR5:=Lib.hid hr5
 clear hr5 hs5 hLB HDC hlt
 go_loopw [88] (fun s wr=>∃ (i:Nat) (lv:List Int),i≤x.k.n∧s=.int .i64 i∧OwnI wr 3 (some ⟨LB,0,none⟩) x.k.n x.k.n lv∧(∀ (j:Nat) (v:Int),j < i→x.k.ord[j]?=some v→lv.getD v.toNat 0=(j:Int))∧Frm (fun b=>b=LB) w5 wr) (fun s _=>x.k.n - (intOf s).toNat)
 case atStart=>exact ⟨0,_,by omega,rfl,HR5.out,(fun j v h=>absurd h (by omega)),Frm.refl _ _⟩
 case round =>
  as_aux_lemma =>
  obtain ⟨i,lv,hi,rfl,hrow,hlv,hfr⟩:=hrel
  have hO:=HO7.out.frm hfr (fun y hy hh=>by have:=HLT.out y.block (.inl ⟨y,hy,rfl⟩);omega)
  by_cases hlt:i < x.k.n
  ·have hI:(i:Int) < (x.k.n:Int):=by omega
   obtain ⟨v,hv⟩:∃ v,x.k.ord[i]?=some v:=⟨_,List.getElem?_eq_getElem (by rw [HK.out.ordl];exact hlt)⟩
   obtain ⟨m,rfl,hm,hmi⟩:=HK.out.lv.o2 i v hv
   have hM:(m:Int) < (x.k.n:Int):=by omega
   obtain ⟨ob,hA,hol,d0⟩:=hO.at1 (c:=fun x:Int=>.int .i64 x) hv
   have hll:=hrow.len
   obtain ⟨y,hy⟩:∃ y,lv[m]?=some y:=⟨_,List.getElem?_eq_getElem (by omega)⟩
   obtain ⟨lb',hA',hbl,d1⟩:=hrow.at1 (c:=fun x:Int=>.int .i64 x) hy
   injection hA' with hA'
   injection hA' with hA'
   subst hA'
   have fk:=Own.free hrow m
   have hpt:=Own.put1 (c:=fun x:Int=>.int .i64 x) hrow (i:=m) (by omega) (i:Int)
   have hnew:∀ (j:Nat) (v:Int),j < i+1→x.k.ord[j]?=some v→(lv.set m (i:Int)).getD v.toNat 0=(j:Int):=fun j v hj hjv=>by
    obtain ⟨m',rfl,hm',hmj⟩:=HK.out.lv.o2 j v hjv
    rw [Int.toNat_natCast,List.getD_eq_getElem?_getD]
    by_cases he:m'=m
    ·subst he
     rw [hmi] at hmj
     injection hmj with hmj
     rw [List.getElem?_set_self (by omega)]
     simpa using hmj
    ·rw [List.getElem?_set_ne (fun h=>he h.symm),← List.getD_eq_getElem?_getD]
     have hji:j≠i:=fun h=>by
      subst h
      rw [hv] at hjv
      injection hjv with hjv
      omega
     have:=hlv j m' (by omega) hjv
     rwa [Int.toNat_natCast] at this
   have HPT:=Lib.hid hpt
   have HNEW:=Lib.hid hnew
   have HFR:=Lib.hid (hfr.set m (.int .i64 i) rfl:Frm (fun b=>b=LB) w5 (wr.setCell ⟨LB,m,none⟩ (.int .i64 i)))
   have hwl:LB < wr.heap.size:=hbl
   clear hpt hnew hfr hrow hO hlv hv hy hmi hll
   subst hA
   go_wp2
   go_roundw
   case rel=>exact ⟨i+1,_,by omega,by go_num,HPT.out,HNEW.out,HFR.out⟩
   case measure=>simp [intOf] <;> omega
  ·obtain rfl:i=x.k.n:=by omega
   have hI:¬ ((x.k.n:Nat):Int) < (x.k.n:Int):=by omega
   have hlev:∀ v:Nat,v < x.k.n→lv[v]?=some (levK x.k v):=fun v hv=>by
    obtain ⟨j,h1,h2,h3⟩:=HK.out.lv.ord_of (v:=(v:Int)) (by omega) (by omega)
    have h4:=hlv j v h2 h3
    rw [Int.toNat_natCast,List.getD_eq_getElem?_getD] at h4
    rw [List.getElem?_eq_getElem (by have:=hrow.len;omega)] at h4 ⊢
    rw [h1]
    simpa using h4
   have hR4:=HR4.out.frm hfr (fun y hy hh=>by have:=HLT.out y.block (.inr (.inl ⟨y,hy,rfl⟩));omega)
   have hL4:=HL4.out.frm hfr (fun y hy hh=>by have:=HLT.out y.block (.inr (.inr ⟨y,hy,rfl⟩));omega)
   have hsr:Same w wr:=HS.out.trans hfr (fun b hb hh=>by omega)
   have HR6:=Lib.hid hR4
   have HL6:=Lib.hid hL4
   have HS6:=Lib.hid hsr
   have HLV:=Lib.hid hlev
   have HROW:=Lib.hid hrow
   have hz6:=hfr.size
   clear hrow hlv hfr hO hlev hR4 hL4 hsr HR4 HL4 HO7 HS HR5
   go_wp2_with (fail)
   refine wp_world fun w7 hw7=>?_
   have hr7:OwnI w7 3 (some ⟨wr.heap.size,0,none⟩) x.k.n x.k.n (List.replicate x.k.n 0):=by rw [hw7];simpa [icell] using HMK.out wr
   have hs7:Same wr w7:=by rw [hw7];exact (Frm.refl _ _).alloc _
   clear hw7
   replace HR6:=Lib.hid (HR6.out.frm hs7 (fun _ _=>id))
   replace HL6:=Lib.hid (HL6.out.frm hs7 (fun _ _=>id))
   replace HROW:=Lib.hid (HROW.out.frm hs7 (fun _ _=>id))
   replace HS6:=Lib.hid (HS6.out.trans hs7 (fun _ _ h=>h))
   obtain ⟨WB,hWB⟩:∃ z,wr.heap.size=z:=⟨_,rfl⟩
   rw [hWB] at hr7 hz6 ⊢
   have HR7:=Lib.hid hr7
   have hlw:LB < WB:=by omega
   have hww:w.heap.size≤WB:=by omega
   clear hr7 hs7 hWB hz6
   go_wp2_with (fail)
   go_loopw [12,102] (fun s12 s102 wr=>∃ (i:Nat) (A:Option Addr) (C:Nat) (wd:List Int),i≤l.length∧s102=.int .i64 i∧s12=.slice A (nodesOf x.k (l.take i)).length C∧Go.Tk.Own wr 37 3 Nd.cells A (nodesOf x.k (l.take i)).length C (nodesOf x.k (l.take i))∧Fresh w7.heap.size A ∧
    OwnI wr 3 (some ⟨WB,0,none⟩) x.k.n x.k.n wd∧(∀ v:Nat,v < x.k.n→wd[v]?=some (cntV (nodesOf x.k (l.take i)) v:Int))∧Frm (fun b=>b=WB) w7 wr) (fun _ s102 _=>l.length - (intOf s102).toNat)
   case atStart=>exact ⟨0,none,0,_,by omega,rfl,rfl,Own.nil _ _ _ _,fresh_none _,HR7.out,(fun v hv=>by simp [hv,cntV,nodesOf]),Frm.refl _ _⟩
   case round =>
    as_aux_lemma =>
    have HR7b:=Lib.hid HR7.out
    clear HR7
    obtain ⟨i,A12,C12,wd,hi,rfl,rfl,hnd,hf12,hwd,hcv,hfr⟩:=hrel
    have hSr:Same w wr:=HS6.out.trans hfr (fun b hb hh=>by omega)
    have hRr:=HR6.out.frm hfr (fun y hy hh=>by have:=HLT.out y.block (.inr (.inl ⟨y,hy,rfl⟩));omega)
    have hLr:=HL6.out.frm hfr (fun y hy hh=>by have:=HLT.out y.block (.inr (.inr ⟨y,hy,rfl⟩));omega)
    have hVr:=HROW.out.frm hfr (fun y hy hh=>by injection hy with hy;subst hy;exact absurd hh (by show ¬ LB=WB;omega))
    have hnl:=nodesOf_len (k:=x.k) (l.take i)
    rw [List.length_take] at hnl
    obtain ⟨nd,hne⟩:∃ z,nodesOf x.k (l.take i)=z:=⟨_,rfl⟩
    by_cases hlt:i < l.length
    ·have hI:(i:Int) < (l.length:Int):=by omega
     obtain ⟨r,hr⟩:∃ r,l[i]?=some r:=⟨_,List.getElem?_eq_getElem hlt⟩
     have hstep:=nodesOf_snoc (k:=x.k) (l.take i) r
     have htk:l.take (i+1)=l.take i ++ [r]:=by rw [List.take_add_one,hr];rfl
     rw [← htk] at hstep
     have hlr:=HW.out.ll r (List.mem_of_getElem? hr)
     have hr0:=hlr.1
     have hr1:r < 4294967296:=by have:=tk_lt hlr.2 hr0;omega
     have hnin:r ∉ l.take i:=fun h=>by
      obtain ⟨j,hj,hjr⟩:=List.mem_take_iff_getElem.1 h
      have h1:=List.pairwise_iff_getElem.1 HW.out.nd j i (by omega) hlt (by omega)
      rw [List.getElem?_eq_getElem hlt] at hr
      injection hr with hr
      exact h1 (hjr.trans hr.symm)
     obtain ⟨sb,hA4,hsb,d0⟩:=hLr.at1 (c:=rc) hr
     unfold rc at d0
     rw [hne] at hnd hcv hstep hnl ⊢
     by_cases h2:r < 2
     ·rw [if_neg (by omega)] at hstep
      have HST:=Lib.hid hstep
      have HND:=Lib.hid hnd
      have HF:=Lib.hid hf12
      have HWD:=Lib.hid hwd
      have HCV:=Lib.hid hcv
      have HFR:=Lib.hid hfr
      clear hstep hnd hf12 hwd hcv hfr hRr hLr hVr hSr hlr hnin htk hr hne
      subst hA4
      go_wp2
      go_roundw
      case rel=>exact ⟨i+1,A12,C12,wd,by omega,by go_num,by rw [HST.out],by rw [HST.out];exact HND.out,HF.out,HWD.out,by rw [HST.out];exact HCV.out,HFR.out⟩
      case measure=>simp [intOf] <;> omega
     ·have h2':2≤r:=by omega
      rw [if_pos h2'] at hstep
      have hmem:=live_node HK.out hlr h2'
      have hnew:=nodes_new HK.out (pre:=l.take i) (r:=r) (fun s hs=>HW.out.ll s (List.mem_of_mem_take hs)) hlr h2' hnin
      rw [hne] at hnew
      obtain ⟨c0',c1',_,_,_,_,cne⟩:=HK.out.bk.chl _ r hmem
      have hcl:=live_chl HK.out hlr c0'
      have hord:=fun m h=>HK.out.ord.lo _ r m hmem h
      have hord2:=fun m h=>HK.out.ord.hi _ r m hmem h
      have hkid:∀ c,(c=(getN x.k.ls r).lo∨c=(getN x.k.ls r).hi)→LiveR x.k c∧(0≤(getN x.k.ls c).v→(getN x.k.ls c).v < x.k.n∧levK x.k (getN x.k.ls r).v < levK x.k (getN x.k.ls c).v):=fun c hc=>by
       have hlc:LiveR x.k c:=by
        rcases hc with h | h
        ·rw [h];exact hcl.1
        ·rw [h];exact hcl.2
       refine ⟨hlc,fun hv=>?_⟩
       have hc2:2≤c:=by
        rcases (HK.out.live hlc.1).1 hlc.2 with h | h | ⟨n,hn⟩
        ·rw [HK.out.const (.inl h)] at hv
         omega
        ·rw [HK.out.const (.inr h)] at hv
         omega
        ·exact (HK.out.mem' hn).1
       have hcm:=live_node HK.out hlc hc2
       refine ⟨(HK.out.bk.chl _ c hcm).2.1,?_⟩
       rcases hc with rfl | rfl
       ·exact hord _ hcm
       ·exact hord2 _ hcm
      have hE:getE x.k.ls r=0:=by unfold getE;rw [if_pos hlr.2]
      have hkn:=kr_node (HKR.out _ hSr) r hr0 hr1
      rw [hE] at hkn
      have hc1:(getN x.k.ls r).lo < 4294967296:=by have:=tk_lt hcl.1.2 hcl.1.1;omega
      have hc2:(getN x.k.ls r).hi < 4294967296:=by have:=tk_lt hcl.2.2 hcl.2.1;omega
      obtain ⟨⟨v,lo,hi'⟩,hn⟩:∃ z,getN x.k.ls r=z:=⟨_,rfl⟩
      rw [hn] at hkn hstep hnew hkid c0' c1' cne hc1 hc2
      unfold Nd.val at hkn
      simp only at hkid c0' c1' cne hc1 hc2
      obtain ⟨m,rfl⟩:=Int.eq_ofNat_of_zero_le c0'
      have hm:m < x.k.n:=by omega
      have HKN:=Lib.hid hkn
      have HST:=Lib.hid hstep
      have HNEW:=Lib.hid hnew
      have HKID:=Lib.hid hkid
      have HND:=Lib.hid hnd
      have HF:=Lib.hid hf12
      have HWD:=Lib.hid hwd
      have HCV:=Lib.hid hcv
      have HFR:=Lib.hid hfr
      have HSR:=Lib.hid hSr
      have HVR:=Lib.hid hVr
      clear hkn hstep hnew hkid hnd hf12 hwd hcv hfr hRr hLr hVr hSr hlr hnin htk hr hne hcl hord hord2 hmem hE hn
      subst hA4
      obtain ⟨hxl,c0⟩:=HC.out _ HSR.out
      go_wp2_with (fail)
      refine HKN.out.mono ?_
      rintro e w9 ⟨rfl,hs9⟩
      have HS9:=Lib.hid hs9
      clear hs9 hxl c0 d0 hsb HKN
      go_upto_region 22 with fail
      refine wp_world fun w10 hw10=>?_
      have hT:=Blk.new w9 37 #[.int .i64 m,.int .u32 lo,.int .u32 hi']
      have hs10:Same w9 w10:=by rw [hw10];exact (Frm.refl _ _).alloc _
      rw [← hw10] at hT
      clear hw10
      obtain ⟨T,hTe⟩:∃ z,w9.heap.size=z:=⟨_,rfl⟩
      rw [hTe] at hT ⊢
      have HTL:Hid (wr.heap.size≤T):=Lib.hid (by rw [← hTe];exact HS9.out.size)
      have HT:=Lib.hid hT
      have HS10:=Lib.hid (HS9.out.trans hs10 (fun _ _ h=>h))
      clear hT hs10 hTe HS9
      have t0:=HT.out.cell 0
      have t1:=HT.out.cell 1
      have t2:=HT.out.cell 2
      have tl:=HT.out.lt
      simp at t0 t1 t2
      have hv0:¬ (m:Int) < 0:=by omega
      have hmn:¬ (m:Int) ≥ (x.k.n:Int):=by omega
      have hlh:¬ lo=hi':=cne
      go_wp2_with (fail)
      refine wp_world fun w11 hw11=>?_
      have hs11:Same w10 w11:=by rw [hw11];exact (Frm.refl _ _).alloc _
      have hCB:=Go.Tk.Own.lit w10 28 (fun x=>[rc x]) (fun _=>rfl) [lo,hi'] (by simp [maxLen]) (cs:=#[.int .u32 lo,.int .u32 hi']) (by simp [rc])
      have hCB1:Row1 w11 28 rc (some ⟨w10.heap.size,0,none⟩) 2 2 [lo,hi']:=by rw [hw11];exact hCB
      clear hw11 hCB
      replace HT:=Lib.hid (HT.out.frm hs11 id)
      have HS11:=Lib.hid (HS10.out.trans hs11 (fun _ _ h=>h))
      obtain ⟨CB,hCe⟩:∃ z,w10.heap.size=z:=⟨_,rfl⟩
      rw [hCe] at hCB1 ⊢
      have HCB:=Lib.hid hCB1
      clear hs11 hCB1 hCe t0 t1 t2 tl HS10
      have HSA:=Lib.hid (HSR.out.trans HS11.out (fun _ _ h=>h))
      go_loopw [139] (fun s wr2=>∃ j:Nat,j≤2∧s=.int .i64 j∧Same w11 wr2) (fun s _=>2 - (intOf s).toNat)
      case atStart=>exact ⟨0,by omega,rfl,Frm.refl _ _⟩
      case round =>
       as_aux_lemma =>
       obtain ⟨j,hj,rfl,hs3⟩:=hrel
       have HS3:=Lib.hid hs3
       clear hs3
       by_cases hj2:j < 2
       ·have hJ:(j:Int) < 2:=by omega
        obtain ⟨c,hc⟩:∃ c,[lo,hi'][j]?=some c:=⟨_,List.getElem?_eq_getElem hj2⟩
        have hcc:c=lo∨c=hi':=by
         have:=List.mem_of_getElem? hc
         simpa using this
        obtain ⟨hlc,hcv⟩:=HKID.out c hcc
        obtain ⟨cb,hA,hcl,d0⟩:=(HCB.out.frm HS3.out (fun _ _=>id)).at1 (c:=rc) hc
        injection hA with hA
        injection hA with hA
        subst hA
        unfold rc at d0
        have hr3:c < 4294967296:=by have:=tk_lt hlc.2 hlc.1;omega
        have hSr:=HSA.out.trans HS3.out (fun _ _ h=>h)
        have hkn:=kr_node (HKR.out _ hSr) c hlc.1 hr3
        have hE:getE x.k.ls c=0:=by unfold getE;rw [if_pos hlc.2]
        rw [hE] at hkn
        obtain ⟨⟨v2,lo2,hi2⟩,hn⟩:∃ z,getN x.k.ls c=z:=⟨_,rfl⟩
        rw [hn] at hkn hcv
        unfold Nd.val at hkn
        simp only at hcv
        have HKN:=Lib.hid hkn
        obtain ⟨hxl,c0⟩:=HC.out _ hSr
        have HCV2:=Lib.hid hcv
        clear hkn hn hE hSr hc hcc hlc hcv
        go_wp2_with (fail)
        refine HKN.out.mono ?_
        rintro e w12 ⟨rfl,hs12⟩
        have HS12:=Lib.hid (HS3.out.trans hs12 (fun _ _ h=>h))
        clear hs12 hxl c0 d0 hcl HKN
        go_upto_region 28 with fail
        refine wp_world fun w13 hw13=>?_
        have hT2:=Blk.new w12 37 #[.int .i64 v2,.int .u32 lo2,.int .u32 hi2]
        have hs13:Same w12 w13:=by rw [hw13];exact (Frm.refl _ _).alloc _
        rw [← hw13] at hT2
        clear hw13
        have hs13':=HS12.out.trans hs13 (fun _ _ h=>h)
        have hT1:=HT.out.frm hs13' id
        have t0:=hT1.cell 0
        have tl:=hT1.lt
        have u0:=hT2.cell 0
        have ul:=hT2.lt
        simp at t0 u0
        have hV:=HVR.out.frm (HS11.out.trans hs13' (fun _ _ h=>h)) (fun _ _=>id)
        have HS13:=Lib.hid hs13'
        obtain ⟨lb1,hA1,hl1,e1⟩:=hV.at1 (c:=fun x:Int=>.int .i64 x) (HLV.out m hm)
        injection hA1 with hA1
        injection hA1 with hA1
        subst hA1
        clear hs13 hs13' hT1 hT2
        have hM:(m:Int) < (x.k.n:Int):=by omega
        by_cases hv2:0≤v2
        ·obtain ⟨g1,g2⟩:=HCV2.out hv2
         obtain ⟨m2,rfl⟩:=Int.eq_ofNat_of_zero_le hv2
         have hm2:m2 < x.k.n:=by omega
         obtain ⟨lb2,hA2,hl2',e2⟩:=hV.at1 (c:=fun x:Int=>.int .i64 x) (HLV.out m2 hm2)
         injection hA2 with hA2
         injection hA2 with hA2
         subst hA2
         have hM2:¬ (m2:Int) ≥ (x.k.n:Int):=by omega
         have hM3:(m2:Int) < (x.k.n:Int):=by omega
         obtain ⟨y1,hy1⟩:∃ z,levK x.k (m:Int)=z:=⟨_,rfl⟩
         obtain ⟨y2,hy2⟩:∃ z,levK x.k (m2:Int)=z:=⟨_,rfl⟩
         rw [hy1] at e1 g2
         rw [hy2] at e2 g2
         have hM4:¬ y2≤y1:=by omega
         clear hV hy1 hy2
         refine wp_phS (fun _=>False) [([0,1,2,3,4,5,6,7,8,9,10,11,12,13,14,15,16,17,18,19,20],21)] (by kernel_rfl) (by kernel_rfl) ?_
         rw [wpPh_end_eq]
         simp only [pick,List.map_cons,List.map_nil,List.getD_cons_zero,List.getD_cons_succ]
         repeat go_big_quiet_step (fail)
         rw [wpQuiet_nil_eq]
         go_wp2
         go_roundw
         case rel=>exact ⟨j+1,by omega,by go_num,HS13.out.trans ((Frm.refl _ _).drew) (fun _ _ h=>h)⟩
         case measure=>simp [intOf] <;> omega
        ·clear hV
         refine wp_phS (fun _=>False) [([0,1,2,3,4,5,6,7,8,9,10,11,12,13,14,15,16,17,18,19,20],21)] (by kernel_rfl) (by kernel_rfl) ?_
         rw [wpPh_end_eq]
         simp only [pick,List.map_cons,List.map_nil,List.getD_cons_zero,List.getD_cons_succ]
         repeat go_big_quiet_step (fail)
         rw [wpQuiet_nil_eq]
         go_wp2
         go_roundw
         case rel=>exact ⟨j+1,by omega,by go_num,HS13.out.trans ((Frm.refl _ _).drew) (fun _ _ h=>h)⟩
         case measure=>simp [intOf] <;> omega
       ·obtain rfl:j=2:=by omega
        clear hj2 HCB HKID hj
        go_wp2_with (fail)
        go_loopw [177] (fun s wr3=>∃ j:Nat,j≤nd.length∧s=.int .i64 j∧Same w11 wr3) (fun s _=>nd.length - (intOf s).toNat)
        case atStart=>exact ⟨0,by omega,rfl,HS3.out⟩
        case round =>
         as_aux_lemma =>
         clear HS3
         obtain ⟨j,hj,rfl,hs3⟩:=hrel
         have HS3:=Lib.hid hs3
         have HS3r:=Lib.hid (HS11.out.trans hs3 (fun _ _ h=>h))
         clear hs3
         by_cases hjl:j < nd.length
         ·have hJ:(j:Int) < (nd.length:Int):=by omega
          obtain ⟨⟨v2,lo2,hi2⟩,hm2⟩:∃ z,nd[j]?=some z:=⟨_,List.getElem?_eq_getElem hjl⟩
          have hne2:=HNEW.out _ (List.mem_of_getElem? hm2)
          have heq:∀ w,(binOp .eql 37 (.agg #[.int .i64 m,.int .u32 lo,.int .u32 hi']) (.agg #[.int .i64 v2,.int .u32 lo2,.int .u32 hi2])).run Tryz.prog w=.ok (.bool false) w:=fun w=>by
           have h:=eql_nd ⟨m,lo,hi'⟩ ⟨v2,lo2,hi2⟩ w
           rw [decide_eq_false (fun h=>hne2 h.symm)] at h
           exact h
          obtain ⟨nb,hA,hnb,hnc⟩:=(HND.out.frm HS3r.out (fun _ _=>id)).get ncells_len hm2
          have d0:wr.cell? ⟨nb,j * 3,none⟩=some (.int .i64 v2):=hnc 0 (by omega)
          have d1:wr.cell? ⟨nb,j * 3+1,none⟩=some (.int .u32 lo2):=hnc 1 (by omega)
          have d2:wr.cell? ⟨nb,j * 3+2,none⟩=some (.int .u32 hi2):=hnc 2 (by omega)
          clear hne2 hm2 hnc
          subst hA
          go_upto_region 34 with fail
          refine wp_world fun w13 hw13=>?_
          have hT2:=Blk.new wr 37 #[.int .i64 v2,.int .u32 lo2,.int .u32 hi2]
          have hs13:Same wr w13:=by rw [hw13];exact (Frm.refl _ _).alloc _
          rw [← hw13] at hT2
          clear hw13 d0 d1 d2 hnb
          have hs13':=HS3.out.trans hs13 (fun _ _ h=>h)
          have hT1:=HT.out.frm hs13' id
          have t0:=hT1.cell 0
          have t1:=hT1.cell 1
          have t2:=hT1.cell 2
          have tl:=hT1.lt
          have u0:=hT2.cell 0
          have u1:=hT2.cell 1
          have u2:=hT2.cell 2
          have ul:=hT2.lt
          simp at t0 t1 t2 u0 u1 u2
          have HS13:=Lib.hid hs13'
          clear hs13 hs13' hT1 hT2
          go_wp2
          go_roundw
          case rel=>exact ⟨j+1,by omega,by go_num,HS13.out⟩
          case measure=>simp [intOf] <;> omega
         ·obtain rfl:j=nd.length:=by omega
          have hJ:¬ ((nd.length:Nat):Int) < (nd.length:Int):=by omega
          have hT1:=HT.out.frm HS3.out id
          have t0:=hT1.cell 0
          have t1:=hT1.cell 1
          have t2:=hT1.cell 2
          have tl:=hT1.lt
          simp at t0 t1 t2
          clear hT1 hjl hj
          go_upto_region 37 with fail
          refine wp_read 2 ?_
          simp only [List.take_succ_cons,List.take_zero,List.drop_succ_cons,List.drop_zero]
          repeat (any_goals (first | go_big_quiet_step (fail) | quiet_step (fail)))
          refine wpQuiet_nil ?_
          refine wpList_plain rfl fun K hK=>?_
          go_simp
          refine hK _ _ ?_
          clear hK K
          refine list_world fun wa hwa=>?_
          have hL:=Blk.new wr 37 #[.int .i64 m,.int .u32 lo,.int .u32 hi']
          have hsa:Same wr wa:=by rw [hwa];exact (Frm.refl _ _).alloc _
          rw [← hwa] at hL
          clear hwa
          have hsra:=HS3r.out.trans hsa (fun _ _ h=>h)
          have hrow:=HND.out.frm hsra (fun _ _=>id)
          refine Own.append_list (f:=Nd.cells) rfl (.tmp 185) (.tmp 187) _ rfl Tryz.underlying121 info_node9 rfl (by omega) rfl hrow ncells_len ⟨m,lo,hi'⟩ wr.heap.size 1 rfl (by unfold Nd.cells;exact hL) (by simp [Value.oneCell',Nd.cells]) (by unfold maxLen;omega) (by omega) ?_
          intro gg cap wb hOb hgb hat
          have hWa:=HWD.out.frm hsra (fun _ _=>id)
          have hWb:=hWa.keptBy hgb (fun b hb hA=>hrow.ne_own hWa (by decide) b (ownBlock_row.1 hb) hA)
          have hTa:=(HT.out.frm HS3.out id).frm hsa id
          have hgrow:∀ g,(Value.slice A12 nd.length C12).ownBlock=some g→w7.heap.size≤g:=fun g hg=>HF.out g (ownBlock_row.1 hg)
          have hfb:Frm (fun b=>b=WB) w7 wb:=(HFR.out.trans hsra (fun _ _ h=>h.elim)).grown hgb (fun g hg=>.inr (hgrow g hg))
          have hnew:Fresh w7.heap.size (some ⟨gg,0,none⟩):=fun b hb=>by
           obtain ⟨y,hy,rfl⟩:=hb
           injection hy with hy
           subst hy
           rcases hat with h | h
           ·exact hgrow gg h
           ·have h1:=HFR.out.size
            have h2:=hsra.size
            show w7.heap.size≤gg
            omega
          have hM:(m:Int) < (x.k.n:Int):=by omega
          have hcnt:=HCV.out m hm
          have hcb:cntV nd m≤nd.length:=cntV_le _ _
          obtain ⟨cn,hcn⟩:∃ z,cntV nd (m:Int)=z:=⟨_,rfl⟩
          rw [hcn] at hcnt hcb
          obtain ⟨wb',hA',hwl,d3⟩:=hWb.at1 (c:=fun x:Int=>.int .i64 x) hcnt
          injection hA' with hA'
          injection hA' with hA'
          subst hA'
          have fk:=Own.free hWb m
          have hwlen:=hWb.len
          have hpt:=Own.put1 (c:=fun x:Int=>.int .i64 x) hWb (i:=m) (by omega) ((cn:Int)+1)
          have hne3:∀ y,(some ⟨gg,0,none⟩:Option Addr)=some y→y.block≠WB:=fun y hy h=>by
           have h1:=hnew y.block ⟨y,hy,rfl⟩
           have h2:=row_lt HR7b.out (b:=WB) ⟨_,rfl,rfl⟩
           omega
          have hOc:=Own.far (p:=⟨WB,m,none⟩) hOb hne3 (.int .i64 ((cn:Int)+1))
          have hcvn:∀ v:Nat,v < x.k.n→(wd.set m ((cn:Int)+1))[v]?=some (cntV (nd ++ [⟨m,lo,hi'⟩]) v:Int):=fun v hv=>by
           rw [cntV_snoc]
           by_cases he:m=v
           ·subst he
            rw [if_pos rfl,List.getElem?_set_self (by omega),hcn]
            rfl
           ·rw [if_neg (show ¬ ((m:Nat):Int)=v by omega),List.getElem?_set_ne he]
            exact HCV.out v hv
          have hTb:=hTa.grown hgb (fun hx=>by
           obtain ⟨y,hy,hyb⟩:=ownBlock_row.1 hx.symm
           have h1:=HF.out y.block ⟨y,hy,rfl⟩
           have h2:=row_lt HND.out (b:=y.block) ⟨y,hy,rfl⟩
           have h3:=HTL.out
           omega)
          have s0:=hTb.cell 0
          have sl:=hTb.lt
          simp at s0
          have HPT:=Lib.hid hpt
          have HOC:=Lib.hid hOc
          have HCVN:=Lib.hid hcvn
          have HNW:=Lib.hid hnew
          have HFB:=Lib.hid (hfb.set m (.int .i64 ((cn:Int)+1)) rfl:Frm (fun b=>b=WB) w7 (wb.setCell ⟨WB,m,none⟩ (.int .i64 ((cn:Int)+1))))
          clear hOb hgb hat hWa hWb hTa hgrow hfb hnew hcnt hcn hpt hne3 hOc hcvn hTb hrow hL hsa hsra t0 t1 t2 tl hwlen
          go_wp2
          go_roundw
          case rel=>exact ⟨i+1,some ⟨gg,0,none⟩,cap,_,by omega,by go_num,by rw [HST.out,List.length_append];rfl,by rw [HST.out,List.length_append];exact HOC.out,HNW.out,HPT.out,by rw [HST.out];exact HCVN.out,HFB.out⟩
          case measure=>simp [intOf] <;> omega
    ·obtain rfl:i=l.length:=by omega
     have hI:¬ ((l.length:Nat):Int) < (l.length:Int):=by omega
     have hcw:∀ v:Nat,v < x.k.n→wd[v]?=some (wdR x.k v:Int):=fun v hv=>by
      have h:=hcv v hv
      rw [List.take_length,walk_cnt HK.out HW.out v hv] at h
      exact h
     have hlw2:∀ v:Nat,v < x.k.n→lv[v]?=some (lvlR x.k v):=fun v hv=>by
      rw [HLV.out v hv]
      unfold lvlR
      rw [if_pos ⟨by omega,by omega⟩]
     have hle:∀ v:Nat,v < x.k.n→lvlE x.k v=0:=fun v hv=>by
      unfold lvlE
      rw [if_pos ⟨by omega,by omega⟩]
     obtain ⟨w20,rfl⟩:∃ z,z=wr:=⟨_,rfl⟩
     have HCW:=Lib.hid hcw
     have HLW:=Lib.hid hlw2
     have HLE:=Lib.hid hle
     have HWD:=Lib.hid hwd
     have HVR:=Lib.hid hVr
     have HRR:=Lib.hid hRr
     have HSR:=Lib.hid hSr
     clear hcw hlw2 hle hwd hVr hRr hSr hnd hf12 hcv hfr hLr hnl hne hlt
     go_wp2_with (fail)
     go_loopw [23] (fun s wr=>∃ v:Nat,v≤x.k.n∧s=.int .i64 v∧w20=wr) (fun s _=>x.k.n - (intOf s).toNat)
     case atStart=>exact ⟨0,by omega,rfl,rfl⟩
     case round =>
      obtain ⟨v,hv,rfl,rfl⟩:=hrel
      obtain ⟨hxl,c0⟩:=HC.out _ HSR.out
      by_cases hvl:v < x.k.n
      ·have hJ:(v:Int) < (x.k.n:Int):=by omega
       have h1:=kr_width (HKR.out _ HSR.out) v
       have h2:=kr_level (HKR.out _ HSR.out) v
       have g1:=HCW.out v hvl
       have g2:=HLW.out v hvl
       rw [HLE.out v hvl] at h1 h2
       obtain ⟨y1,hy1⟩:∃ z,wdR x.k (v:Int)=z:=⟨_,rfl⟩
       obtain ⟨y2,hy2⟩:∃ z,lvlR x.k (v:Int)=z:=⟨_,rfl⟩
       rw [hy1] at h1 g1
       rw [hy2] at h2 g2
       obtain ⟨b1,hA1,hl1,e1⟩:=HWD.out.at1 (c:=fun x:Int=>.int .i64 x) g1
       injection hA1 with hA1
       injection hA1 with hA1
       subst hA1
       obtain ⟨b2,hA2,hl2',e2⟩:=HVR.out.at1 (c:=fun x:Int=>.int .i64 x) g2
       injection hA2 with hA2
       injection hA2 with hA2
       subst hA2
       have H1:=Lib.hid h1
       have H2:=Lib.hid h2
       clear h1 h2 g1 g2 hy1 hy2
       go_wp2_with (fail)
       refine H1.out.mono ?_
       rintro e wy ⟨rfl,rfl⟩
       go_wp2_with (fail)
       refine H2.out.mono ?_
       rintro e wy ⟨rfl,rfl⟩
       go_wp2
       go_roundw
       case rel=>exact ⟨v+1,by omega,by go_num,trivial⟩
       case measure=>simp [intOf] <;> omega
      ·obtain rfl:v=x.k.n:=by omega
       have hJ:¬ ((x.k.n:Nat):Int) < (x.k.n:Int):=by omega
       have hho:=HHO.out _ HSR.out A3 C3 HRR.out
       have HHOr:=Lib.hid hho
       clear hho
       go_wp2_with (fail)
       refine HHOr.out.mono ?_
       rintro e wy ⟨rfl,rfl⟩
       go_wp2
       go_ret
       exact ⟨rfl,HSR.out⟩
end
section
variable {w w':World}
theorem kernelSound_any (n c:Int) (A:Option Addr) (len cap:Nat) (ops:List (Int × Int × Int × Int)) (w:World) (hs:Sl w 4 opc A len ops) (hb:len≤10000000000000) :
  Calls Tryz.prog 7 #[.int .i64 n,.int .i64 c,.slice A len cap] w fun e w'=>e=.returned (.bool true)∧Same w w':=by
 obtain rfl:=hs.len
 have HA:=Lib.hid hs
 clear hs
 go_enter Tryz.func7,Tryz.ntmps7
 go_wp2_with (fail)
 refine (awake9_law _).mono ?_
 rintro e w1 ⟨rfl,hs1⟩
 have HS:=Lib.hid hs1
 replace HA:=Lib.hid (HA.out.same hs1)
 clear hs1
 by_cases hbad:n < 1∨64 < n∨c < 2∨1048576 < c
 ·go_wp2_with (fail)
  refine (fresh_bad n c _ hbad).mono ?_
  rintro e w2 ⟨rfl,hs⟩
  replace HS:=Lib.hid (HS.out.trans hs (fun _ _ h=>h))
  clear hs
  by_cases h1:n < 1
  ·clear hbad
   go_wp2
   go_ret
   exact ⟨rfl,HS.out⟩
  ·by_cases h2:n > 64
   ·clear hbad
    go_wp2
    go_ret
    exact ⟨rfl,HS.out⟩
   ·by_cases h3:c < 2
    ·clear hbad
     go_wp2
     go_ret
     exact ⟨rfl,HS.out⟩
    ·have h4:c > 1048576:=by omega
     clear hbad
     go_wp2
     go_ret
     exact ⟨rfl,HS.out⟩
 ·obtain ⟨N,rfl⟩:=Int.eq_ofNat_of_zero_le (show 0≤n by omega)
  obtain ⟨M,rfl⟩:=Int.eq_ofNat_of_zero_le (show 0≤c by omega)
  have hfo:=fresh_ok N M w1 (by omega) (by omega) (by omega) (by omega)
  have HFO:=Lib.hid hfo
  clear hfo
  go_wp2_with (fail)
  refine HFO.out.mono ?_
  rintro e w2 ⟨xb,q,rfl,hX,hs⟩
  have HX:=Lib.hid hX
  have HU:=Lib.hid (Up.ofSame hs:Up (fun b=>b < w1.heap.size) w1 w2)
  clear hX hs hbad
  by_cases h4:(M:Int) > 4096
  ·go_wp2
   go_ret
   exact ⟨rfl,HS.out.trans (Frm.mono HU.out (fun b hb hn=>hn hb)) (fun _ _ h=>h)⟩
  ·go_wp2_with (fail)
   go_loopw [39] (fun s wr=>∃ (i:Nat) (x:RS) (q:RA),i≤ops.length∧s=.int .i64 i∧XI i x∧RW (fun b=>b < w1.heap.size) wr xb x q∧Up (fun b=>b < w1.heap.size) w1 wr) (fun s _=>ops.length - (intOf s).toNat)
   case atStart=>exact ⟨0,_,q,by omega,rfl,xi_new N M,HX.out,HU.out⟩
   case round =>
    as_aux_lemma =>
    clear HX HU
    obtain ⟨i,x,q,hi,rfl,hI,hX,hU⟩:=hrel
    have HI:=Lib.hid hI
    have HX:=Lib.hid hX
    have HU:=Lib.hid hU
    have hsr:Same w1 wr:=Frm.mono hU (fun b hb hn=>hn hb)
    clear hI hX hU
    by_cases hlt:i < ops.length
    ·have hJ:(i:Int) < (ops.length:Int):=by omega
     obtain ⟨o,ho⟩:∃ o,ops[i]?=some o:=⟨_,List.getElem?_eq_getElem hlt⟩
     obtain ⟨ab,off,hA,hbl,hc⟩:=(HA.out.same hsr).get i o ho
     have d0:wr.cell? ⟨ab,off+i * 4,none⟩=some (.int .i64 o.1):=hc 0 (by omega)
     have d1:wr.cell? ⟨ab,off+i * 4+1,none⟩=some (.int .i64 o.2.1):=hc 1 (by omega)
     have d2:wr.cell? ⟨ab,off+i * 4+2,none⟩=some (.int .i64 o.2.2.1):=hc 2 (by omega)
     have d3:wr.cell? ⟨ab,off+i * 4+3,none⟩=some (.int .i64 o.2.2.2):=hc 3 (by omega)
     clear ho hc
     subst hA
     go_upto_region 11 with fail
     refine wp_world fun w3 hw3=>?_
     have hT:=Blk.new wr 60 #[.int .i64 o.1,.int .i64 o.2.1,.int .i64 o.2.2.1,.int .i64 o.2.2.2]
     have hs3:Same wr w3:=by rw [hw3];exact (Frm.refl _ _).alloc _
     rw [← hw3] at hT
     clear hw3
     have t0:=hT.cell 0
     have t1:=hT.cell 1
     have t2:=hT.cell 2
     have t3:=hT.cell 3
     have tl:=hT.lt
     simp at t0 t1 t2 t3
     have hst:=step_any (HX.out.same hs3) (fun b hb=>Nat.lt_of_lt_of_le hb (Nat.le_trans HU.out.size hs3.size)) HI.out (by omega) o
     have HST:=Lib.hid hst
     have HU3:=Lib.hid (HU.out.trans (Up.ofSame hs3))
     clear hst hs3 hT hsr d0 d1 d2 d3 hbl
     go_wp2_with (fail)
     refine HST.out.mono ?_
     rintro e w4 ⟨rfl,⟨q4,hX4⟩,hU4⟩
     have hI4:=xi_step HX.out.k.ki HI.out o
     have hso:=sound9_any hX4 hI4.hl hI4.rg (fun c hc=>by have:=hI4.cb c hc;omega) (by have:=hI4.rl;omega) hI4.hh
     have HSO:=Lib.hid hso
     have HX4:=Lib.hid hX4
     have HI4:=Lib.hid hI4
     have HU4:=Lib.hid (HU3.out.trans hU4)
     clear hso hX4 hI4 hU4 t0 t1 t2 t3 tl
     go_wp2_with (fail)
     refine HSO.out.mono ?_
     rintro e w5 ⟨rfl,hs5⟩
     have HX5:=Lib.hid (HX4.out.same hs5)
     have HU5:=Lib.hid (HU4.out.trans (Up.ofSame hs5))
     clear hs5
     go_wp2
     go_roundw
     case rel=>exact ⟨i+1,_,q4,by omega,by go_num,HI4.out,HX5.out,HU5.out⟩
     case measure=>simp [intOf] <;> omega
    ·obtain rfl:i=ops.length:=by omega
     have hJ:¬ ((ops.length:Nat):Int) < (ops.length:Int):=by omega
     have hfin:=HS.out.trans hsr (fun _ _ h=>h)
     clear hsr
     go_wp2
     go_ret
     exact ⟨rfl,hfin⟩
end
abbrev op9Ks:List Leaf:=[.int .i64,.int .i64,.int .i64,.int .i64]
theorem op9_of {w:World} (l:List Value) (h:CellsOk w op9Ks l):∃ o:Int × Int × Int × Int,l=opc o:=by
 simp only [CellsOk,CellOk] at h
 obtain ⟨v0,l0,rfl,⟨n0,rfl,w0⟩,v1,l1,rfl,⟨n1,rfl,w1⟩,v2,l2,rfl,⟨n2,rfl,w2⟩,v3,l3,rfl,⟨n3,rfl,w3⟩,rfl⟩:=h
 exact ⟨⟨n0,n1,n2,n3⟩,rfl⟩
theorem op9_ok {w:World} {v:Value} (h:CellOk w (.slice 32 op9Ks) v):∃ A n c xs,v=.slice A n c∧n≤c∧c * 32≤reachBytes∧Sl w 4 opc A n xs:=by
 obtain ⟨A,n,c,xs,rfl,h1,_,h2,h3⟩:=slice_ok opc (by decide) op9_of h
 exact ⟨A,n,c,xs,rfl,h1,h2,h3⟩
end Go.Proofs.YtiomgckodmecbaaGreat

