/- Contracts and plain laws, put together in one file. No condition. -/
import Derived.Test.YtiomgckodmecbaaGreatJKernelSound6
import Derived.Carry
import Derived.Test.YtiomgckodmecbaaGreatProg
import Derived.Sort.MapsRangeIn
import Derived.Sort.KeysCollected
import Derived.RangeFuncMany
import Derived.WalkKit
import Derived.OwnWalkIn
import Derived.TacticsInMore
import Derived.RegionIn
import Derived.LoopNIn
import Derived.LoopIn
import Derived.Shelf.AbstractIn
import Derived.WideKeyEntry

set_option maxRecDepth 100000
set_option maxHeartbeats 32000000
namespace Go.Proofs.YtiomgckodmecbaaGreat
open Go.RowKit Go.Tk
def numAt:Option Value→Nat
 | some (.int _ n)=>n.toNat
 | _=>0
def lenOf (v:Value):Nat:=lenAt (some v)
section
variable {w:World} {kp:Nat} {k:KS} {a:KA} {ext:List Int} {X:List Ent} {n:Nd} {r0:Int}
theorem KW.less (h:KW w kp k a) {sb m:Nat} (hA:a.uA=some ⟨sb,0,none⟩) (hi:m < k.us.length) :
  KW (w.setCell ⟨sb,m,none⟩ (.int .i32 (k.us.getD m 0 - 1))) kp (lessK k m) a∧KGo k.n kp w a (w.setCell ⟨sb,m,none⟩ (.int .i32 (k.us.getD m 0 - 1))) a:=h.setUs hA hi _
theorem krelease_any (h:KW w kp k a) (hb:Bk k (r0 :: ext) []) :
  Calls Tryz.prog 61 #[.pointer (some ⟨kp,0,none⟩),.int .u32 r0] w fun e w'=>e=.returned (.tuple #[])∧∃ a',KW w' kp (relK k r0) a'∧KGo k.n kp w a w' a':=by
 have hr0:=(hb.exl r0 (List.mem_cons_self ..)).1
 have HB:=Lib.hid hb
 have HH:=Lib.hid h
 have hkl:=h.blk.lt
 clear hb h
 go_enter Tryz.func61,Tryz.ntmps61
 go_wp2_with (fail)
 refine wp_world fun w1 hw1=>?_
 have hs1:Same w w1:=by rw [hw1];exact (Frm.refl _ _).alloc _
 have hT:=Go.Tk.Own.lit w 28 (fun x=>[rc x]) (fun _=>rfl) [r0] (by simp [maxLen]) (cs:=#[.int .u32 r0]) (by simp [rc])
 have hT1:Row1 w1 28 rc (some ⟨w.heap.size,0,none⟩) 1 1 [r0]:=by rw [hw1];exact hT
 have hTf:∀ b,rowOf (some ⟨w.heap.size,0,none⟩:Option Addr) b→¬ KFp k.n kp a b:=by
  rintro b ⟨ad,hx,rfl⟩ hk
  injection hx with hx
  subst hx
  have:=HH.out.lt hk
  simp at this
 have HT1:=Lib.hid hT1
 have HTF:=Lib.hid hTf
 have HS1:=Lib.hid hs1
 clear hw1 hT hT1 hTf hs1
 go_loopw [4] (fun t wr=>∃ f k' a' st A C,Bk k' (st ++ ext) []∧3 * k'.L.length+st.length≤f∧relF f k' st=relK k r0∧k'.n=k.n∧a'.g=a.g∧KW wr kp k' a'∧KGo k.n kp w a wr a'∧t=.slice A st.length C∧Row1 wr 28 rc A st.length C st.reverse∧(∀ b,rowOf A b→¬ KFp k.n kp a' b)∧(∀ b,rowOf A b→w.heap.size≤b)) (fun t wr=>3 * numAt (wr.cell? ⟨a.g,3,none⟩)+lenOf t)
 case atStart =>
  refine ⟨3 * k.ac+1,k,a,[r0],some ⟨w.heap.size,0,none⟩,1,HB.out,?_,rfl,rfl,rfl,HH.out.same HS1.out,KGo.same HS1.out,rfl,HT1.out,HTF.out,fresh_some (Nat.le_refl _)⟩
  have:=HB.out.cnt
  simp at this ⊢
  omega
 case round =>
  obtain ⟨f,k',a',st,A,C,hb',hf,hrel,hkn,hag,hk',hg',rfl,hT,hTf,hTn⟩:=hrel
  have HM:Hid (numAt (wr.cell? ⟨a.g,3,none⟩)=k'.ac):=Lib.hid (by
   rw [← hag,hk'.ar.blk.cell 3];rfl)
  have HB':=Lib.hid hb'
  have HF:=Lib.hid hf
  have HREL:=Lib.hid hrel
  have HKN:=Lib.hid hkn
  have HAG:=Lib.hid hag
  have HK':=Lib.hid hk'
  have HG':=Lib.hid hg'
  have HT:=Lib.hid hT
  have HTF:=Lib.hid hTf
  have HTN:=Lib.hid hTn
  clear hTn
  have hkl':=hk'.blk.lt
  clear hb' hf hrel hkn hag hk' hg' hT hTf
  cases st with
  | nil =>
   go_wp2
   go_end0
   refine ⟨rfl,a',?_,HG'.out⟩
   have e:relF f k' []=k':=by cases f <;> rfl
   rw [← HREL.out,e]
   exact HK'.out
  | cons r st =>
   replace HB':Hid (Bk k' (r :: (st ++ ext)) []):=HB'
   obtain ⟨f,rfl⟩:∃ f',f=f'+1:=⟨f - 1,by have:=HF.out;simp only [List.length_cons] at this;omega⟩
   obtain ⟨tb,rfl,tbl,tbc⟩:=HT.out.at1 (i:=st.length) (x:=r) (by simp)
   have hpop:Row1 wr 28 rc (some ⟨tb,0,none⟩) st.length C st.reverse:=by
    have:=HT.out
    rw [List.reverse_cons] at this
    have:=Go.Tk.Own.pop (f:=fun x=>[rc x]) (fun _=>rfl) this
    rwa [List.length_reverse] at this
   have hsl:st.length+1≤C∧C < 9223372036854775808:=by
    have:=HT.out
    simp only [List.length_cons] at this
    rcases this.own.2 with ⟨h0,_⟩ | ⟨_,cap,_,h1,_,_,h3,h4,_⟩
    ·cases h0
    ·injection h1 with _ _ h1
     subst h1
     unfold maxLen at h4
     omega
   obtain ⟨hs1,hs2⟩:=hsl
   replace tbc:wr.cell? ⟨tb,st.length,none⟩=some (.int .u32 r):=tbc
   have hc1:((st.length:Int)+1) > 0:=by omega
   have HPOP:=Lib.hid hpop
   clear hpop
   simp only [List.length_cons]
   obtain ⟨hr0',hrt⟩:=HB'.out.exl r (List.mem_cons_self ..)
   have hrl:=HB'.out.lt hr0' hrt
   have HRT:=Lib.hid hrt
   clear hrt
   by_cases hrI:r≤1
   ·have hrel:relF (f+1) k' (r :: st)=relF f k' st:=by simp [relF,hrI]
    rw [hrel] at HREL
    have hb2:Bk k' (st ++ ext) []:=bk_const HB'.out hrI
    have HB2:=Lib.hid hb2
    clear hb2 hrel
    go_wp2
    go_roundw
    case rel =>
     refine ⟨f,k',a',st,_,C,HB2.out,by have:=HF.out;simp only [List.length_cons] at this;omega,HREL.out,HKN.out,HAG.out,HK'.out,HG'.out,rfl,HPOP.out,HTF.out,HTN.out⟩
    case measure=>simp [lenOf,lenAt]
   ·obtain ⟨n,hm⟩:∃ n,(n,r)∈k'.L:=by
     rcases (HB'.out.tkL hr0').1 HRT.out with h | h | ⟨n,h⟩
     ·omega
     ·omega
     ·exact ⟨n,by simpa using h⟩
    obtain ⟨m,rfl⟩:=Int.eq_ofNat_of_zero_le hr0'
    obtain ⟨hu1,hu2⟩:=HB'.out.usR (List.mem_append_left _ hm)
    rw [Int.toNat_natCast] at hu1 hu2
    obtain ⟨u,hu⟩:∃ u,k'.us.getD m 0=u:=⟨_,rfl⟩
    have hu0:1≤u:=by
     rw [← hu,hu1,List.count_cons_self];omega
    have huM:u≤16000001:=by
     obtain ⟨x,_,e2,e3,_⟩:=HB'.out.use_lt (List.mem_append_left _ hm)
     rw [Int.toNat_natCast,hu] at e2
     omega
    have hug:k'.us[m]?=some u:=by
     rw [← hu,List.getD_eq_getElem?_getD,List.getElem?_eq_getElem hu2];rfl
    obtain ⟨ub,hub,ubl,ubk,ubc,ubf⟩:=HK'.out.atUs hug
    have hle:=HK'.out.less hub hu2
    rw [hu] at hle
    have g2:=HK'.out.c2
    rw [hub] at g2
    have hmI:(m:Int) < k'.us.length:=by omega
    have HM':=Lib.hid hm
    have HLE:=Lib.hid hle
    have HU:=Lib.hid hu
    have HUB:=Lib.hid hub
    have hbl:=bk_less HB'.out (by omega)
    have HBL:=Lib.hid hbl
    clear hm hle hu hub hu1 hug hbl
    by_cases hu1:1 < u
    ·have hrel:relF (f+1) k' (m :: st)=relF f (lessK k' m) st:=by
      have:=HU.out
      simp only [relF]
      rw [if_neg hrI,if_pos (by rw [Int.toNat_natCast,this];exact hu1)]
     rw [hrel] at HREL
     clear hrel
     have hg1:KGo k'.n kp wr a' _ a':=HLE.out.2
     have HG1:=Lib.hid hg1
     clear hg1
     go_wp2
     go_roundw
     case rel =>
      have hg:=HG1.out
      rw [HKN.out] at hg
      have hTF:∀ b,rowOf (some ⟨tb,0,none⟩:Option Addr) b→¬ KFp k.n kp a' b:=HTF.out
      refine ⟨f,lessK k' m,a',st,_,C,HBL.out,by have:=HF.out;simp only [List.length_cons] at this;show 3 * k'.L.length+_≤_;omega,HREL.out,HKN.out,HAG.out,HLE.out.1,HG'.out.trans hg,rfl,?_,HTF.out,HTN.out⟩
      exact HPOP.out.frm hg.frm (fun ad h=>hTF _ ⟨ad,h,rfl⟩)
     case measure =>
      have h1:=HM.out
      have h2:=HLE.out.1.ar.blk.cell 3
      rw [HAG.out] at h2
      rw [h1,h2]
      simp [lenOf,lenAt,numAt,lessK]
    ·have hrel:relF (f+1) k' (m :: st)=relF f (freeK (remK (lessK k' m) n) m) (n.hi :: n.lo :: st):=by
      have h1:=HU.out
      have h2:=(HB'.out.memL (List.mem_append_left _ HM'.out)).2.1
      simp only [relF]
      rw [if_neg hrI,if_neg (by rw [Int.toNat_natCast,h1];exact hu1),h2]
     rw [hrel] at HREL
     clear hrel
     have hnode:=fun w' (hw:KW w' kp (lessK k' m) a')=>knode_any hw (m:Int) hr0' (by omega)
     have hn1:getN (lessK k' m).ls (m:Int)=n:=(HB'.out.memL (List.mem_append_left _ HM'.out)).2.1
     rw [hn1] at hnode
     have HNODE:=Lib.hid hnode
     clear hnode hn1
     go_upto_region 8 with fail
     refine wp_world fun w3 hw3=>?_
     rw [← hw3] at HLE
     clear hw3
     go_wp2_with (fail)
     refine (HNODE.out _ HLE.out.1).mono ?_
     rintro e w4 ⟨rfl,hs4⟩
     unfold Nd.val
     have hk4:=HLE.out.1.same hs4
     have HK4:=Lib.hid hk4
     have HS4:=Lib.hid hs4
     have hk4l:=hk4.blk.lt
     clear hk4 hs4 HNODE
     go_upto_region 9 with fail
     refine wp_world fun w5 hw5=>?_
     have hX:=Blk.new w4 37 #[.int .i64 n.v,.int .u32 n.lo,.int .u32 n.hi]
     have hs5:Same w4 w5:=by rw [hw5];exact (Frm.refl _ _).alloc _
     rw [← hw5] at hX
     clear hw5
     have hk5:=HK4.out.same hs5
     have c1:=hk5.c1
     have hk5l:=hk5.blk.lt
     have x0:=hX.cell 0
     have x1:=hX.cell 1
     have x2:=hX.cell 2
     have hxl:=hX.lt
     simp at x0 x1 x2
     have hXK:¬ KFp k'.n kp a' w4.heap.size:=fun hx=>by
      have:=HK4.out.lt hx
      omega
     have hUk:¬ UB a'.U k'.n kp:=fun hx=>hk5.dj 6 0 kp (by omega) hx rfl
     have hUX:¬ UB a'.U k'.n w4.heap.size:=fun hx=>hXK ⟨6,hx⟩
     obtain ⟨v0,v1,l0,h0,lt,ht,_⟩:=HB'.out.chl n _ HM'.out
     have hn64:=HB'.out.n64
     have hll:=HB'.out.lt l0 lt
     have hhl:=HB'.out.lt h0 ht
     have hok:n.ok:=Nd.ok_of v0 (by omega) l0 (by omega) h0 (by omega)
     have hrm:=fun w' (hw:KW w' kp (lessK k' m) a')=>uqrem_any a'.U _ _ n hok w' hw.ut
     have HRM:=Lib.hid hrm
     have HX:=Lib.hid hX
     have HS5:=Lib.hid hs5
     have HK5:=Lib.hid hk5
     have HXK:=Lib.hid hXK
     clear hX hs5 hk5 hXK hok hrm lt ht
     refine wp_phS (UB a'.U k'.n) [([0,1,2,3,4],5)] (by kernel_rfl) (by kernel_rfl) ?_
     simp only [wpPh,pick,List.map_cons,List.map_nil,List.getD_cons_zero,List.getD_cons_succ]
     repeat (any_goals (first | go_big_quiet_step (fail) | quiet_step (fail)))
     refine wpQuiet_nil ?_
     refine wpList_plain rfl fun K hK=>?_
     go_simp
     refine (HRM.out _ (HK5.out.same ((Frm.refl _ _).drew))).mono ?_
     rintro e w6 ⟨rfl,hu6,hf6⟩
     have ht6:=HK5.out.table hu6 (((Frm.refl (UB a'.U k'.n) w5).drew).trans (S':=UB a'.U k'.n) hf6 (fun _ _ h=>h))
     refine hK _ _ ?_
     clear hK K
     have hk6:KW w6 kp (remK (lessK k' m) n) a':=ht6.1
     have hg6:KGo k'.n kp w5 a' w6 a':=ht6.2
     have hX6:=HX.out.frm hg6.frm HXK.out
     have c0:=hk6.c0
     have hk6l:=hk6.blk.lt
     have x0:=hX6.cell 0
     have x1:=hX6.cell 1
     have x2:=hX6.cell 2
     have hxl:=hX6.lt
     simp at x0 x1 x2
     have hm1:(1:Int) < m:=by omega
     have hfr:=HB'.out.cntl
     have hlim:=HB'.out.lim
     have hcM:=HB'.out.cM
     have hcnt:=HB'.out.cnt
     have hFR:=fun w' (hw:KW w' kp (remK (lessK k' m) n) a')=>free_ok (r:=m) hw.ar (by omega) (by
      show ownE k'.ls m=0
      unfold ownE
      rw [if_neg]
      rw [HRT.out]
      simp <;> omega) (by show -4000000 < (k'.ac:Int);omega) (by show k'.fr.length≤_;omega)
     have HFR:=Lib.hid hFR
     have HK6:=Lib.hid hk6
     have HG6:=Lib.hid hg6
     have HX6:=Lib.hid hX6
     clear hFR hk6 hg6 hX6 ht6 hu6 hf6 HX HRM HK5 c1 hUk hUX
     go_wp2_with (fail)
     refine (HFR.out _ HK6.out).mono ?_
     rintro e w7 ⟨rfl,A2,C2,hA7,hf7,hn7⟩
     have ht7:=HK6.out.arena2 (ac:=k'.ac - 1) (by
      have:(((k'.ac - 1:Nat)):Int)=(k'.ac:Int) - 1:=by omega
      rw [this]
      exact hA7) hf7 hn7
     have hk7:KW w7 kp (freeK (remK (lessK k' m) n) m) { a' with A':=A2,C':=C2 }:=ht7.1
     have hg7:KGo k'.n kp w6 a' w7 { a' with A':=A2,C':=C2 }:=ht7.2
     have hX7:=HX6.out.frm hg7.frm HXK.out
     have x0:=hX7.cell 0
     have x1:=hX7.cell 1
     have x2:=hX7.cell 2
     have hxl:=hX7.lt
     simp at x0 x1 x2
     have HK7:=Lib.hid hk7
     have HG7:=Lib.hid hg7
     have HX7:=Lib.hid hX7
     clear hk7 hg7 hX7 ht7 hA7 hf7 hn7 c0
     go_upto_region 11 with fail
     refine wp_read 5 ?_
     simp only [List.take_succ_cons,List.take_zero,List.drop_succ_cons,List.drop_zero]
     repeat (any_goals (first | go_big_quiet_step (fail) | quiet_step (fail)))
     refine wpQuiet_nil ?_
     refine wpList_plain rfl fun K hK=>?_
     go_simp
     refine hK _ _ ?_
     clear hK K
     refine list_world fun wa hwa=>?_
     have hM:=Blk.new w7 28 #[.int .u32 n.lo,.int .u32 n.hi]
     have hsa:Same w7 wa:=by rw [hwa];exact (Frm.refl _ _).alloc _
     rw [← hwa] at hM
     clear hwa
     have hbd:=HB'.out.bd
     simp only [List.length_cons,List.length_append] at hbd
     have hgo:KGo k'.n kp wr a' wa { a' with A':=A2,C':=C2 } :=
      ((((HLE.out.2.trans (KGo.same HS4.out)).trans (KGo.same HS5.out)).trans HG6.out).trans HG7.out).trans (KGo.same hsa)
     have hTF:∀ b,rowOf (some ⟨tb,0,none⟩:Option Addr) b→¬ KFp k.n kp a' b:=HTF.out
     have hTF':∀ b,rowOf (some ⟨tb,0,none⟩:Option Addr) b→¬ KFp k'.n kp a' b:=by rw [HKN.out];exact hTF
     have hTa:=HPOP.out.frm hgo.frm (fun ad h=>hTF' _ ⟨ad,h,rfl⟩)
     have hka:=HK7.out.same hsa
     have HKA:=Lib.hid hka
     have HGO:=Lib.hid hgo
     clear hka hgo
     refine wpList_plain rfl fun K hK=>?_
     refine Own.append_many (f:=fun x=>[rc x]) (.tmp 57) (.tmp 62) _ rfl Tryz.underlying40 info_ref rfl (by omega) rfl hTa (fun _=>rfl) [n.lo,n.hi] (some ⟨w7.heap.size,0,none⟩) 2 rfl (fun _=>⟨_,rfl,news_of_blk (by simpa [rc] using hM)⟩) (by simp [Value.oneCell',rc]) (by simp [maxLen] <;> omega) (by simp <;> omega) ?_
     intro A3 C3 wb hTb hgb hat
     refine hK _ _ ?_
     clear hK K
     have hTA:∀ b,rowOf (some ⟨tb,0,none⟩:Option Addr) b→¬ KFp k.n kp { a' with A':=A2,C':=C2 } b:=by
      rw [← HKN.out]
      exact HGO.out.apart hTF' (by
       rintro b ⟨ad,hx,rfl⟩
       injection hx with hx
       subst hx
       exact tbl)
     have hfb:Frm (fun b=>rowOf (some ⟨tb,0,none⟩:Option Addr) b) wa wb:=(Frm.refl _ _).grown hgb (fun g hg=>.inl (ownBlock_row.1 hg))
     have hkb:=HKA.out.frm hfb (fun b hb hr=>hTA b hr (by rw [← HKN.out];exact hb))
     have hgab:KGo k.n kp w a wb { a' with A':=A2,C':=C2 }:=by
      have h1:=HGO.out
      rw [HKN.out] at h1
      have h2:=HG'.out.trans h1
      exact ⟨h2.frm.grown hgb (fun g hg=>.inr (HTN.out g (ownBlock_row.1 hg))),h2.fp⟩
     have hTn3:∀ b,rowOf A3 b→w.heap.size≤b:=by
      intro b hb
      rcases hat b hb with h | h
      ·exact HTN.out b h
      ·have h1:=HG'.out.frm.size
       have h2:=HGO.out.frm.size
       omega
     have hTf3:∀ b,rowOf A3 b→¬ KFp k.n kp { a' with A':=A2,C':=C2 } b:=by
      intro b hb hk
      rcases hat b hb with h | h
      ·exact hTA b h hk
      ·rw [← HKN.out] at hk
       have:=HKA.out.lt hk
       omega
     have HGAB:=Lib.hid hgab
     have HTN3:=Lib.hid hTn3
     have HTF3:=Lib.hid hTf3
     clear hgab hTn3 hTf3
     have HTB:=Lib.hid hTb
     have HKB:=Lib.hid hkb
     clear hTb hgb hTA hfb hkb
     go_wp2
     go_roundw
     case rel =>
      refine ⟨f,_,{ a' with A':=A2,C':=C2 },n.hi :: n.lo :: st,A3,C3,bk_last HB'.out HM'.out (by have:=HU.out;rw [Int.toNat_natCast,this];omega),?_,HREL.out,HKN.out,HAG.out,HKB.out,HGAB.out,by simp,?_,HTF3.out,HTN3.out⟩
      ·have h1:=HF.out
       have h2:=(perm_without HB'.out.kn HM'.out).length_eq
       have h3:=(remK_L HBL.out (n:=n) HM'.out).1
       show 3 * (remK (lessK k' m) n).L.length+_≤_
       rw [h3]
       show 3 * (without n k'.L).length+_≤_
       simp only [List.length_cons] at h1 h2 ⊢
       omega
      ·have:=HTB.out
       simpa using this
     case measure =>
      have h1:=HM.out
      have h2:=HKB.out.ar.blk.cell 3
      have e:({ a' with A':=A2,C':=C2 }:KA).g=a.g:=HAG.out
      rw [e] at h2
      have h3:=HB'.out.cnt
      rw [h1,h2]
      simp [lenOf,lenAt,numAt,freeK,remK,lessK]
      omega
end
def getL (k:KS) (n:Nd):Option Int→Int × KS
 | some r=>(r,k)
 | none=>((takeR k:Int),takeK k n)
def getK (k:KS) (n:Nd):Int × KS:=if n.lo=n.hi then (n.lo,k) else getL k n (look k.L n)
section
variable {w:World} {kp:Nat} {k:KS} {a:KA} {ext:List Int} {X:List Ent} {n:Nd}
theorem kget_any (h:KW w kp k a) (hb:Bk k ext X) (hn:NdOk k n) (hc:n.lo≠n.hi→look k.L n=none→k.ac < k.c) :
  Calls Tryz.prog 99 #[.pointer (some ⟨kp,0,none⟩),.int .i64 n.v,.int .u32 n.lo,.int .u32 n.hi] w fun e w'=>e=.returned (.int .u32 (getK k n).1)∧∃ a',KW w' kp (getK k n).2 a'∧KGo k.n kp w a w' a':=by
 by_cases he:n.lo=n.hi
 ·have e:getK k n=(n.lo,k):=by unfold getK;rw [if_pos he]
  rw [e]
  have heB:(n.lo == n.hi)=true:=by simpa using he
  have H:=Lib.hid h
  clear e he h hc hb hn
  go_enter Tryz.func99,Tryz.ntmps99
  go_wp2
  go_ret
  exact ⟨rfl,a,H.out,KGo.refl _ _ _ _⟩
 ·have heB:(n.lo == n.hi)=false:=by simpa using he
  have hok:=hn.ok hb
  have hfd:=fun w' (hw:KW w' kp k a)=>uqfind_any a.U _ _ n hok w' hw.ut
  have hlen:=hn.lt hb
  have htk:=fun (hnone:look k.L n=none) w' (hw:KW w' kp k a)=>ktake_any hw hb hn (hc he hnone) he (look_none.1 hnone)
  obtain ⟨l,hl⟩:∃ l,look k.L n=l:=⟨_,rfl⟩
  have e:getK k n=getL k n l:=by unfold getK;rw [if_neg he,hl]
  rw [e]
  rw [hl] at hfd htk
  have HFD:=Lib.hid hfd
  have HTK:=Lib.hid htk
  have H:=Lib.hid h
  have hkl:=h.blk.lt
  clear e he h hc hb hn hfd htk hl hok hlen
  go_enter Tryz.func99,Tryz.ntmps99
  go_upto_region 4 with fail
  refine wp_world fun w1 hw1=>?_
  have hX:=Blk.new w 37 #[.int .i64 n.v,.int .u32 n.lo,.int .u32 n.hi]
  have hs1:Same w w1:=by rw [hw1];exact (Frm.refl _ _).alloc _
  rw [← hw1] at hX
  clear hw1
  have hk1:=H.out.same hs1
  have c1:=hk1.c1
  have hkl1:=hk1.blk.lt
  have x0:=hX.cell 0
  have x1:=hX.cell 1
  have x2:=hX.cell 2
  have hxl:=hX.lt
  simp at x0 x1 x2
  have HX:=Lib.hid hX
  have HK1:=Lib.hid hk1
  have HS1:=Lib.hid hs1
  clear hX hk1 hs1 hkl
  refine wp_phS (fun _=>False) [([0,1,2,3,4],5),([6,7,8,9],10)] (by kernel_rfl) (by kernel_rfl) ?_
  simp only [wpPh,pick,List.map_cons,List.map_nil,List.getD_cons_zero,List.getD_cons_succ]
  repeat (any_goals (first | go_big_quiet_step (fail) | quiet_step (fail)))
  refine wpQuiet_nil ?_
  refine effStep_plain rfl fun K hK=>?_
  go_simp
  refine (HFD.out _ (HK1.out.same (Frm.refl _ _).drew)).mono ?_
  rintro e w2 ⟨rfl,hs2⟩
  have hs2':Same w1 w2:=(Frm.refl _ _).drew.trans hs2 (fun _ _ h=>h)
  refine hK _ _ (Lat.mk_ hs2') ?_
  clear hK K hs2
  have hX2:=HX.out.frm hs2' id
  have hk2:=HK1.out.same hs2'
  have HK2:=Lib.hid hk2
  have HS2:=Lib.hid hs2'
  have x0:=hX2.cell 0
  have x1:=hX2.cell 1
  have x2:=hX2.cell 2
  have hxl2:=hX2.lt
  simp at x0 x1 x2
  clear hX2 hk2 hs2' HX HK1 HFD
  have HG:Hid (KGo k.n kp w a w2 a):=Lib.hid ((KGo.same HS1.out).trans (KGo.same HS2.out))
  cases l with
  | some r =>
   repeat (any_goals (first | go_big_quiet_step (fail) | quiet_step (fail)))
   refine wpQuiet_nil ?_
   go_wp2
   go_ret
   exact ⟨rfl,a,HK2.out,HG.out⟩
  | none =>
   repeat (any_goals (first | go_big_quiet_step (fail) | quiet_step (fail)))
   refine wpQuiet_nil ?_
   go_wp2_with (fail)
   refine (HTK.out trivial _ HK2.out).mono ?_
   rintro e w3 ⟨rfl,a3,hk3,hg3⟩
   have HK3:=Lib.hid hk3
   have HG3:=Lib.hid (HG.out.trans hg3)
   clear hk3 hg3
   go_wp2
   go_ret
   exact ⟨rfl,a3,HK3.out,HG3.out⟩
end
def setK (k:KS) (r:Int) (n:Nd):KS:={ k with ls:=k.ls.set r.toNat ⟨n,true,0⟩ }
section
variable {w:World} {kp:Nat} {k:KS} {a:KA} {ext:List Int} {X:List Ent} {n:Nd}
theorem kremove_any (h:KW w kp k a) (hn:n.ok) :
  Calls Tryz.prog 95 #[.pointer (some ⟨a.U.T,0,none⟩),n.val] w fun e w'=>e=.returned (.int .i64 (remE k.n k.L n))∧KW w' kp (remK k n) a∧KGo k.n kp w a w' a∧Frm (UB a.U k.n) w w':=by
 refine (uqrem_any a.U _ _ n hn w h.ut).mono ?_
 rintro e w' ⟨rfl,hu,hf⟩
 obtain ⟨g1,g2⟩:=h.table hu hf
 exact ⟨rfl,g1,g2,hf⟩
theorem kadd_any (h:KW w kp k a) (hn:n.ok) (r:Int) (h0:0≤r) (h1:r < 4294967296) (hl:k.L.length < maxLen) :
  Calls Tryz.prog 93 #[.pointer (some ⟨a.U.T,0,none⟩),n.val,.int .u32 r] w fun e w'=>e=.returned (.int .i64 (addE k.n k.L n))∧KW w' kp (addK k n r) a∧KGo k.n kp w a w' a∧Frm (UB a.U k.n) w w':=by
 have hrw:(Lit.int .u32 r).wf=true:=by simp [Lit.wf,IntKind.min,IntKind.max,IntKind.signed,IntKind.bits] <;> omega
 refine (uqadd_any a.U _ _ n hn r hrw hl w h.ut).mono ?_
 rintro e w' ⟨rfl,hu,hf⟩
 obtain ⟨g1,g2⟩:=h.table hu hf
 exact ⟨rfl,g1,g2,hf⟩
theorem kset_any (h:KW w kp k a) (hb:Bk k ext X) (hn:NdOk k n) {m:Nat} (h2:2≤m) {n0:Nd} (hm:k.ls[m]?=some ⟨n0,true,0⟩) :
  Calls Tryz.prog 100 #[.pointer (some ⟨a.g,0,none⟩),.int .u32 m,n.val] w fun e w'=>e=.returned (.int .i64 0)∧KW w' kp (setK k m n) a∧KGo k.n kp w a w' a∧Frm (AFp a.g a.A a.A') w w':=by
 have hlt:=hn.lt hb
 have hml:=lt_of_get hm
 have hlim:=hb.lim
 have hcM:=hb.cM
 have hl0:=hn.l0
 have hh0:=hn.h0
 have htk:tk k.ls (m:Int)=true:=tk_some.2 ⟨_,hm,rfl⟩
 have how:ownE k.ls (m:Int)=0:=by
  unfold ownE
  rw [if_neg (by rw [htk];simp <;> omega)]
 refine (set_ok h.ar n (by omega) hl0 (by omega) hh0 (by omega) (hn.ck hb) how hm).mono ?_
 rintro e w' ⟨rfl,hA,hf⟩
 obtain ⟨g1,g2⟩:=h.arena (ac:=k.ac) (A2:=a.A) (C2:=a.C) hA hf (fun b hb=>.inl hb)
 exact ⟨rfl,by simpa [setK] using g1,g2,hf⟩
theorem KW.set_ord (h:KW w kp k a) {sb i:Nat} (hA:a.oA=some ⟨sb,0,none⟩) (hi:i < k.ord.length) (x:Int) :
  KW (w.setCell ⟨sb,i,none⟩ (.int .i64 x)) kp { k with ord:=k.ord.set i x } a∧KGo k.n kp w a (w.setCell ⟨sb,i,none⟩ (.int .i64 x)) a:=by
 have hne:kp≠sb:=by
  intro he
  exact h.dj 0 9 kp (by omega) rfl ⟨_,hA,he.symm⟩
 have hr:=h.ord
 rw [hA] at hr
 have hp:OwnI (w.setCell ⟨sb,i,none⟩ (.int .i64 x)) 3 (some ⟨sb,0,none⟩) k.ord.length a.oC (k.ord.set i x):=Go.Tk.Own.put1 (c:=fun x=>Value.int .i64 x) hr hi x
 have hb:Blk (w.setCell ⟨sb,i,none⟩ (.int .i64 x)) kp 100 (kcells k a):=h.blk.far (p:=⟨sb,i,none⟩) hne _
 have:=h.ord_to (w':=w.setCell ⟨sb,i,none⟩ (.int .i64 x)) (r:=k.ord.set i x) (A2:=a.oA) (C2:=a.oC) ((Frm.refl _ w).setCell (p:=⟨sb,i,none⟩) (.inl (.inr ⟨_,hA,rfl⟩)) _)
  (by simpa [kcells] using hb) (by rw [hA,List.length_set];exact hp) (fun b hb=>.inl hb)
 exact this
theorem KW.set_lev (h:KW w kp k a) {sb i:Nat} (hA:a.lA=some ⟨sb,0,none⟩) (hi:i < k.lev.length) (x:Int) :
  KW (w.setCell ⟨sb,i,none⟩ (.int .i64 x)) kp { k with lev:=k.lev.set i x } a∧KGo k.n kp w a (w.setCell ⟨sb,i,none⟩ (.int .i64 x)) a:=by
 have hne:kp≠sb:=by
  intro he
  exact h.dj 0 10 kp (by omega) rfl ⟨_,hA,he.symm⟩
 have hr:=h.lev
 rw [hA] at hr
 have hp:OwnI (w.setCell ⟨sb,i,none⟩ (.int .i64 x)) 3 (some ⟨sb,0,none⟩) k.lev.length a.lC (k.lev.set i x):=Go.Tk.Own.put1 (c:=fun x=>Value.int .i64 x) hr hi x
 have hb:Blk (w.setCell ⟨sb,i,none⟩ (.int .i64 x)) kp 100 (kcells k a):=h.blk.far (p:=⟨sb,i,none⟩) hne _
 have:=h.lev_to (w':=w.setCell ⟨sb,i,none⟩ (.int .i64 x)) (r:=k.lev.set i x) (A2:=a.lA) (C2:=a.lC) ((Frm.refl _ w).setCell (p:=⟨sb,i,none⟩) (.inl (.inr ⟨_,hA,rfl⟩)) _)
  (by simpa [kcells] using hb) (by rw [hA,List.length_set];exact hp) (fun b hb=>.inl hb)
 exact this
end
end Go.Proofs.YtiomgckodmecbaaGreat
namespace Go.Proofs.YtiomgckodmecbaaGreat
open Go.RowKit Go.Tk Go.Maps
theorem uqnew_bad (vars:Int) (h:¬ (1≤vars∧vars≤64)) (w:World):Calls Tryz.prog 52 #[.int .i64 vars] w fun e w'=>e=.returned (.tuple #[.pointer none,.int .i64 1])∧w'=w:=by
 rcases Int.lt_or_le vars 1 with h1 | h1
 ·clear h
  go_enter Tryz.func52,Tryz.ntmps52
  go_wp2
  go_ret2
  exact ⟨rfl,rfl⟩
 ·have h3:¬ vars < 1:=by omega
  have h2:64 < vars:=by omega
  clear h
  go_enter Tryz.func52,Tryz.ntmps52
  go_wp2
  go_ret2
  exact ⟨rfl,rfl⟩
theorem info_nmap:(Tryz.prog.info? 132).map (fun i=>(i.zero,i.size,i.bytes))=some (some (.map none),1,8):=by kernel_rfl
structure UTp (w0 w:World) (U:UTab) (n k:Nat):Prop where
 same:Same w0 w
 t:Blk w U.T 131 #[.slice (some ⟨U.sb,0,none⟩) n n]
 s:∃ cs,Blk w U.sb 132 cs∧cs.size=n∧∀ v,v < k→cs[v]?=some (.map (some (U.mb v)))
 m:∀ v,v < k→NM 28 .u32 w (U.mb v) []
 inj:∀ u v,u < k→v < k→U.mb u=U.mb v→u=v
 fT:w0.heap.size≤U.T
 fs:w0.heap.size≤U.sb
 fm:∀ v,v < k→w0.heap.size≤U.mb v∧U.T < U.mb v∧U.sb < U.mb v
theorem utp_step {w w1:World} {T sb n k:Nat} {mb:Nat→Nat} (h:UTp w w1 ⟨T,sb,mb⟩ n k) (hk:k < n):UTp w ((w1.setCell ⟨sb,k,none⟩ (.map (some w1.heap.size))).alloc (.map #[] 0)) ⟨T,sb,fun v=>if v=k then w1.heap.size else mb v⟩ n (k+1):=by
 obtain ⟨cs,hB,hcs,hck⟩:=h.s
 have hTl:T < w1.heap.size:=h.t.lt
 have hSl:sb < w1.heap.size:=hB.lt
 have hne:sb≠T:=fun e=>by
  have h1:=h.t
  simp only at h1 hB
  rw [← e] at h1
  have:=(hB.inj h1).1
  revert this
  decide
 have hf:Frm (fun x=>x=sb) w1 ((w1.setCell ⟨sb,k,none⟩ (.map (some w1.heap.size))).alloc (.map #[] 0)):=((Frm.refl (fun x=>x=sb) w1).set k _ rfl).alloc _
 refine ⟨h.same.trans hf (fun i hi (e:i=sb)=>by have:=h.fs;simp only at this;omega),h.t.frm hf (fun e=>hne e.symm),⟨_,(hB.set k (.map (some w1.heap.size))).alloc _,by simp [hcs],fun v hv=>?_⟩,fun v hv=>?_,fun u v hu hv e=>?_,h.fT,h.fs,fun v hv=>?_⟩
 ·by_cases e:v=k
  ·subst e;simp [hcs,hk]
  ·rw [Array.getElem?_setIfInBounds_ne (fun e2=>e e2.symm)]
   simp only [if_neg e]
   exact hck v (by omega)
 ·by_cases e:v=k
  ·simp only [if_pos e]
   have:=NM.made 28 .u32 (w1.setCell ⟨sb,k,none⟩ (.map (some w1.heap.size)))
   rwa [size_setCell] at this
  ·simp only [if_neg e]
   refine (h.m v (by omega)).frm hf (fun e2=>?_)
   have:=(h.fm v (by omega)).2.2
   simp only at this e2
   omega
 ·have lv:=fun x (hx:x < k)=>(h.m x hx).lt
  simp only at e lv
  by_cases e1:u=k <;> by_cases e2:v=k
  ·rw [e1,e2]
  ·rw [if_pos e1,if_neg e2] at e;have:=lv v (by omega);omega
  ·rw [if_neg e1,if_pos e2] at e;have:=lv u (by omega);omega
  ·rw [if_neg e1,if_neg e2] at e;exact h.inj u v (by omega) (by omega) e
 ·by_cases e:v=k
  ·simp only [if_pos e]
   exact ⟨h.same.size,hTl,hSl⟩
  ·simp only [if_neg e]
   exact h.fm v (by omega)
theorem uqnew_any (n:Nat) (h1:1≤n) (h2:n≤64) (w:World) :
  Calls Tryz.prog 52 #[.int .i64 n] w fun e w'=>∃ U,e=.returned (.tuple #[.pointer (some ⟨U.T,0,none⟩),.int .i64 0])∧Same w w'∧UT w' U n []∧w.heap.size≤U.T∧w.heap.size≤U.sb∧∀ v,v < n→w.heap.size≤U.mb v:=by
 have h3:¬ (n:Int) < 1:=by omega
 have h4:¬ (64:Int) < n:=by omega
 have hmk:=fun w=>run_make_n (P:=Tryz.prog) Tryz.underlying129 info_nmap .i64 .i64 n (by omega) (by omega) w
 have hmm:=@run_makeMap Tryz.prog
 go_enter Tryz.func52,Tryz.ntmps52
 go_upto_region 4 with fail
 refine wp_world fun w1 hw1=>?_
 have hs1:Same w w1:=by rw [hw1];exact ((Frm.refl _ _).alloc _).alloc _
 have hT:Blk w1 (w.heap.size+1) 131 #[.slice (some ⟨w.heap.size,0,none⟩) n n]:=by
  rw [hw1]
  have:=Blk.new (w.alloc (.cells (madeCells #[.map none] n) 132)) 131 #[.slice (some ⟨w.heap.size,0,none⟩) n n]
  rwa [World.size_alloc] at this
 have hS:Blk w1 w.heap.size 132 (madeCells #[.map none] n):=by rw [hw1];exact (Blk.new _ _ _).alloc _
 have hsz:(madeCells #[.map none] n).size=n:=by simp [madeCells]
 have h0:=Lib.hid (show UTp w w1 ⟨w.heap.size+1,w.heap.size,fun _=>0⟩ n 0 from ⟨hs1,hT,⟨_,hS,hsz,fun v hv=>absurd hv (Nat.not_lt_zero v)⟩,fun v hv=>absurd hv (Nat.not_lt_zero v),fun u v hu=>absurd hu (Nat.not_lt_zero u),Nat.le_succ _,Nat.le_refl _,fun v hv=>absurd hv (Nat.not_lt_zero v)⟩)
 clear hs1 hT hS hsz hw1 hmk
 obtain ⟨T,hT⟩:∃ T,T=w.heap.size+1:=⟨_,rfl⟩
 obtain ⟨sb,hsb⟩:∃ T,T=w.heap.size:=⟨_,rfl⟩
 rw [← hT,← hsb] at h0 ⊢
 clear hT hsb
 go_wp2
 go_loopw [17] (fun i wr=>∃ (k:Nat) (mb:Nat→Nat),i=.int .i64 k∧k≤n∧UTp w wr ⟨T,sb,mb⟩ n k) (fun i _=>n - (intOf i).toNat)
 case atStart=>exact ⟨0,_,rfl,Nat.zero_le _,h0.out⟩
 case round =>
  clear h0
  obtain ⟨k,mb,rfl,hk,hp⟩:=hrel
  by_cases hlt:k < n
  ·have hk0:(0:Int)≤k:=by omega
   have hk1:(k:Int) < n:=by omega
   have HP:=Lib.hid hp
   have cT:wr.cell? ⟨T,0,none⟩=some (.slice (some ⟨sb,0,none⟩) n n):=hp.t.cell 0
   have lT:T < wr.heap.size:=hp.t.lt
   obtain ⟨cs,hB,hcs,hck⟩:=hp.s
   simp only at hB
   have lS:sb < wr.heap.size:=hB.lt
   have fS:wr.frozen? ⟨sb,k,none⟩=false:=hB.free k
   obtain ⟨u,hu⟩:∃ u,cs[k]?=some u:=⟨_,Array.getElem?_eq_getElem (by rw [hcs];exact hlt)⟩
   have cS:wr.cell? ⟨sb,k,none⟩=some u:=(hB.cell k).trans hu
   have HB:=Lib.hid hB
   have HC:=Lib.hid hck
   have HCS:=Lib.hid hcs
   clear hB hcs hck hu hp
   go_wp2
   go_roundw
   case rel=>exact ⟨k+1,_,by go_num,hlt,utp_step HP.out hlt⟩
   case measure=>simp [intOf] <;> omega
  ·obtain rfl:k=n:=by omega
   obtain ⟨cs,hB,hcs,hck⟩:=hp.s
   have hU:UT wr ⟨T,sb,mb⟩ k []:=⟨⟨h1,h2⟩,hp.t,fun v hv=>(hB.cell v).trans (hck v hv),hB.lt,fun v hv=>hp.m v hv,hp.inj,fun v hv=>⟨Nat.ne_of_gt (hp.fm v hv).2.1,Nat.ne_of_gt (hp.fm v hv).2.2⟩,by simp,List.nodup_nil⟩
   have HU:=Lib.hid hU
   have HP:=Lib.hid hp
   clear hU hp hB hcs hck
   go_wp2
   go_ret2
   exact ⟨⟨T,sb,mb⟩,rfl,HP.out.same,HU.out,HP.out.fT,HP.out.fs,fun v hv=>(HP.out.fm v hv).1⟩
end Go.Proofs.YtiomgckodmecbaaGreat
namespace Go.Proofs.YtiomgckodmecbaaGreat
open Go.RowKit Go.Sort Go.Shelf
def Tryz.usort_ren:Go.Shelf.Ren:=⟨fun | 5=>136 | 8=>141 | 7=>140 | 19=>152 | 20=>153 | 10=>143 | 11=>144 | 12=>145 | 13=>146 | 14=>147 | 15=>148 | 16=>149 | 17=>150 | 18=>151 | 30=>154 | 31=>155 | 32=>156 | 33=>157 | 34=>158 | 35=>159 | 40=>160 | n=>n,fun | 23=>40 | 25=>28 | 3=>3 | 32=>183 | 22=>40 | 0=>0 | 44=>27 | 46=>123 | 4=>4 | 36=>192 | 35=>191 | 41=>197 | 5=>5 | 9=>9 | 53=>201 | 57=>205 | 63=>207 | 64=>118 | n=>n,fun | n=>n⟩
theorem Tryz.usort:Go.Proofs.YtiomgckodmecbaaGreat.SlW32.n5 Tryz.prog Tryz.usort_ren:={
 mixed:=by kernel_rfl
 f5:=⟨Tryz.f136.name,by decide,Tryz.func136.trans (congrArg some (by kernel_rfl))⟩
 f7:=⟨Tryz.f140.name,by decide,Tryz.func140.trans (congrArg some (by kernel_rfl))⟩
 f8:=Tryz.func141.trans (congrArg some (by kernel_rfl))
 f10:=⟨Tryz.f143.name,by decide,Tryz.func143.trans (congrArg some (by kernel_rfl))⟩
 f11:=⟨Tryz.f144.name,by decide,Tryz.func144.trans (congrArg some (by kernel_rfl))⟩
 f12:=⟨Tryz.f145.name,by decide,Tryz.func145.trans (congrArg some (by kernel_rfl))⟩
 f13:=⟨Tryz.f146.name,by decide,Tryz.func146.trans (congrArg some (by kernel_rfl))⟩
 f14:=⟨Tryz.f147.name,by decide,Tryz.func147.trans (congrArg some (by kernel_rfl))⟩
 f15:=⟨Tryz.f148.name,by decide,Tryz.func148.trans (congrArg some (by kernel_rfl))⟩
 f16:=⟨Tryz.f149.name,by decide,Tryz.func149.trans (congrArg some (by kernel_rfl))⟩
 f17:=⟨Tryz.f150.name,by decide,Tryz.func150.trans (congrArg some (by kernel_rfl))⟩
 f18:=⟨Tryz.f151.name,by decide,Tryz.func151.trans (congrArg some (by kernel_rfl))⟩
 f19:=Tryz.func152.trans (congrArg some (by kernel_rfl))
 f20:=Tryz.func153.trans (congrArg some (by kernel_rfl))
 f30:=⟨Tryz.f154.name,by decide,Tryz.func154.trans (congrArg some (by kernel_rfl))⟩
 f31:=Tryz.func155.trans (congrArg some (by kernel_rfl))
 f32:=Tryz.func156.trans (congrArg some (by kernel_rfl))
 f33:=⟨Tryz.f157.name,by decide,Tryz.func157.trans (congrArg some (by kernel_rfl))⟩
 f34:=⟨Tryz.f158.name,by decide,Tryz.func158.trans (congrArg some (by kernel_rfl))⟩
 f35:=⟨Tryz.f159.name,by decide,Tryz.func159.trans (congrArg some (by kernel_rfl))⟩
 f40:=⟨Tryz.f160.name,by decide,Tryz.func160.trans (congrArg some (by kernel_rfl))⟩
 t0:=Tryz.underlying0
 a0:=Tryz.isAgg0
 z0:=Tryz.sizeOf0
 v0:=Tryz.zeroValue0
 t3:=Tryz.underlying3
 a3:=Tryz.isAgg3
 z3:=Tryz.sizeOf3
 v3:=Tryz.zeroValue3
 t4:=Tryz.underlying4
 a4:=Tryz.isAgg4
 z4:=Tryz.sizeOf4
 v4:=Tryz.zeroValue4
 t5:=Tryz.underlying5
 a5:=Tryz.isAgg5
 z5:=Tryz.sizeOf5
 v5:=Tryz.zeroValue5
 t9:=Tryz.underlying9
 a9:=Tryz.isAgg9
 z9:=Tryz.sizeOf9
 v9:=Tryz.zeroValue9
 t22:=Tryz.underlying40
 a22:=Tryz.isAgg40
 z22:=Tryz.sizeOf40
 v22:=Tryz.zeroValue40
 t23:=Tryz.underlying40
 a23:=Tryz.isAgg40
 z23:=Tryz.sizeOf40
 v23:=Tryz.zeroValue40
 t25:=Tryz.underlying28
 a25:=Tryz.isAgg28
 z25:=Tryz.sizeOf28
 v25:=Tryz.zeroValue28
 t32:=Tryz.underlying183
 a32:=Tryz.isAgg183
 z32:=Tryz.sizeOf183
 v32:=Tryz.zeroValue183
 t35:=Tryz.underlying191
 a35:=Tryz.isAgg191
 z35:=Tryz.sizeOf191
 v35:=Tryz.zeroValue191
 t36:=Tryz.underlying192
 a36:=Tryz.isAgg192
 z36:=Tryz.sizeOf192
 v36:=Tryz.zeroValue192
 t41:=Tryz.underlying197
 a41:=Tryz.isAgg197
 z41:=Tryz.sizeOf197
 v41:=Tryz.zeroValue197
 t44:=Tryz.underlying27
 a44:=Tryz.isAgg27
 z44:=Tryz.sizeOf27
 v44:=Tryz.zeroValue27
 t46:=Tryz.underlying123
 a46:=Tryz.isAgg123
 z46:=Tryz.sizeOf123
 v46:=Tryz.zeroValue123
 t53:=Tryz.underlying201
 a53:=Tryz.isAgg201
 z53:=Tryz.sizeOf201
 v53:=Tryz.zeroValue201
 t57:=Tryz.underlying205
 a57:=Tryz.isAgg205
 z57:=Tryz.sizeOf205
 v57:=Tryz.zeroValue205
 t63:=Tryz.underlying207
 a63:=Tryz.isAgg207
 z63:=Tryz.sizeOf207
 v63:=Tryz.zeroValue207
 t64:=Tryz.underlying118
 a64:=Tryz.isAgg118
 z64:=Tryz.sizeOf118
 v64:=Tryz.zeroValue118 }
end Go.Proofs.YtiomgckodmecbaaGreat
namespace Go.Proofs.YtiomgckodmecbaaGreat
open Go.RowKit Go.Tk Go.Maps Go.Sort Go.Shelf
structure CollN (D:DataW Unit) (left:Lit→Bool) (ps:List Ent):Prop where
 nd:(keys ps).Nodup
 mem:∀ n:Nd,n.ok→(n∈keys ps↔Maps.has D n.key=true∧left n.key=false)
 val:∀ p∈ps,p.1.ok∧∀ zd,D.atKey p.1.key zd=.lit (.int .u32 p.2)
theorem CollN.start (D:DataW Unit):CollN D (Maps.has D) []:=⟨List.nodup_nil,fun n _=>by cases Maps.has D n.key <;> simp [keys],by simp⟩
theorem CollN.step {D:DataW Unit} {left:Lit→Bool} {ps:List Ent} (h:CollN D left ps) {n:Nd} {c:Int} (hn:n.ok) (hlk:left n.key=true) (hat:∀ zd,D.atKey n.key zd=.lit (.int .u32 c)):CollN D (fun z=>left z && !z.sameKey n.key) (ps ++ [(n,c)]):=by
 have hhas:Maps.has D n.key=true:=has_true_of_atKey hat
 have hnew:n ∉ keys ps:=fun hx=>by have:=((h.mem n hn).1 hx).2;rw [hlk] at this;cases this
 have hk:keys (ps ++ [(n,c)])=keys ps ++ [n]:=by simp [keys]
 refine ⟨?_,fun m hm=>?_,fun p hp=>?_⟩
 ·rw [hk,List.nodup_append]
  exact ⟨h.nd,by simp,fun a ha b hb e=>hnew (by simp at hb;rw [← hb,← e];exact ha)⟩
 ·rw [hk,List.mem_append,List.mem_singleton]
  by_cases e:m=n
  ·subst e
   have hsk:m.key.sameKey m.key=true:=by simp [Nd.key,Lit.sameKey]
   rw [hsk,hhas];simp
  ·rw [sameKey_ne (fun e2=>e (nd_key_inj hm hn e2)),h.mem m hm]
   simp [e]
 ·rcases List.mem_append.1 hp with hp | hp
  ·exact h.val p hp
  ·obtain rfl:=List.mem_singleton.1 hp
   exact ⟨hn,hat⟩
theorem nodup_of_keys {L:List Ent} (h:(keys L).Nodup):L.Nodup:=by
 induction L with
 | nil=>exact List.nodup_nil
 | cons a L ih =>
  obtain ⟨h1,h2⟩:=List.nodup_cons.1 (show (a.1 :: keys L).Nodup from h)
  exact List.nodup_cons.2 ⟨fun hm=>h1 (List.mem_map_of_mem hm),ih h2⟩
theorem CollN.perm {D:DataW Unit} {left:Lit→Bool} {ps L:List Ent} (h:CollN D left ps) (hr:NRel .u32 D L) (hl:∀ kl,left kl=false):ps.Perm L:=by
 refine (List.perm_ext_iff_of_nodup (nodup_of_keys h.nd) (nodup_of_keys hr.nd)).2 fun p=>⟨fun hp=>?_,fun hp=>?_⟩
 ·obtain ⟨h1,h2⟩:=h.val p hp
  have hk:=((h.mem p.1 h1).1 (List.mem_map_of_mem hp)).1
  obtain ⟨r,hm⟩:=mem_keys.1 ((hr.dom p.1 h1).1 hk)
  have h3:=hr.val _ hm (.lit (.int .u32 0))
  rw [h2] at h3
  have:=dlit_inj h3
  rw [show p=(p.1,p.2) from rfl,this]
  exact hm
 ·obtain ⟨h1,h2⟩:=hr.ok p hp
  have hk:=(hr.dom p.1 h1).2 (List.mem_map_of_mem hp)
  obtain ⟨r,hm⟩:=mem_keys.1 ((h.mem p.1 h1).2 ⟨hk,hl _⟩)
  have h3:=(h.val _ hm).2 (.lit (.int .u32 0))
  rw [hr.val p hp] at h3
  have:=dlit_inj h3
  rw [show p=(p.1,p.2) from rfl,this]
  exact hm
theorem vals1_in (F:Fence) (n:Nat) (h8:F.fn 137) (hro:F.round=none) (hn:1≤n) (l Bm b:Nat) (L:List Ent) (J:List Int→World→Prop)
  (hY:∀ pre x W,J pre W→pre.length < L.length→YieldAt F (n - 1) Tryz.prog l #[.int .u32 x] W fun e W'=>e=.returned (.bool true)∧J (pre ++ [x]) W'∧KeepsWalks W W')
  (W:World) (hJ:AbidesFrom W.heap.size J) (hm:W.cell? ⟨Bm,0,none⟩=some (.map (some b))) (hown:NM 28 .u32 W b L) (h0:J [] W) :
  CallsIn F n Tryz.prog 137 #[.func (.yield l) #[] #[],.pointer (some ⟨Bm,0,none⟩)] W fun e W'=>(∃ v,e=.returned v)∧∃ ps:List Ent,ps.Perm L∧J (ps.map (·.2)) W':=by
 obtain ⟨D0,hown,hrel0⟩:=hown
 have hsz:Maps.size D0=L.length:=hrel0.size
 rw [← hsz] at hY
 clear hsz
 refine callsIn_of_wp Tryz.func137 rfl h8 ?_ hro
 simp only [Tryz.ntmps137,List.size_toArray,List.length_cons,List.length_nil,Nat.reduceAdd,Nat.reduceSub,Array.replicate_succ,Array.replicate_zero,List.push_toArray,List.append_toArray,List.nil_append,List.cons_append]
 gi_wp2_with (first
  | (gi_at_range;refine wpListIn_range_own _ rfl _ 132 rfl 37 28 KN Tryz.underlying132 _ b _ _ rfl hown ?_;intro w0 hrg0 hg0 hs0)
  | gi_in)
 go_frame
 gi_loopw [4] (fun _ wr=>∃ (left:Lit→Bool) (cnt:Nat) (ps:List Ent),wr.ranges Tryz.prog 37 (refR 28) b W.heap.size L.length D0 left cnt∧ps.length+cnt≤Maps.size D0∧CollN D0 left ps∧J (ps.map (·.2)) wr)
  (fun _ wr=>wr.rangeLeft b W.heap.size)
 case atStart =>
  exact ⟨_,_,[],hrg0,by simp,CollN.start D0,hJ [] W w0 none h0 hg0 (fun r e=>by cases e)⟩
 case round =>
  obtain ⟨left,cnt,ps,hrg,hcs,hC,hJs⟩:=hrel
  gi_wp2_with (first
   | (gi_at_next;refine wpListIn_next_ranges _ rfl _ rfl 37 KN (refR 28) Nd.val (Value.int .u32) (fun key kl hk=>by obtain ⟨x,_,hx,_⟩:=nd_key_inv hk;exact ⟨x,hx⟩) (fun v y hv=>by obtain ⟨c,rfl,_⟩:=plainElem_int_inv Tryz.underlying28 hv;exact ⟨c,rfl⟩) b W.heap.size L.length _ _ _ rfl hrg ?_ ?_)
   | gi_in)
  ·intro hc0 hl0
   gi_wp2
   go_end0
   exact ⟨⟨_,rfl⟩,ps,hC.perm hrel0 hl0,hJs⟩
  ·intro x c kl yd yp w2 cnt2 hkey hlk hv hat hrg2 hlt hg2 hs2 hen
   obtain ⟨x',hxo,ex,rfl⟩:=nd_key_inv hkey
   obtain rfl:x=x':=by cases x;cases x';simpa [Nd.val] using ex
   obtain ⟨c',ec,ez,_⟩:=plainElem_int_inv Tryz.underlying28 hv
   obtain rfl:c=c':=by simpa using ec
   obtain rfl:yd=.lit (.int .u32 c):=(Prod.mk.inj ez).1
   have hJ2:J (ps.map (·.2)) w2:=hJ _ wr w2 (some W.heap.size) hJs hg2 (fun r e=>by cases e;exact ⟨Nat.le_refl _,hrg.iter_walk⟩)
   obtain ⟨fn,tmps,assign,body,hy,hR⟩:=hY (ps.map (·.2)) c w2 hJ2 (by simp <;> omega)
   clear hs2
   gi_wp2
   refine hR.mono ?_
   have hC2:=hC.step hxo hlk hat
   rintro e W3 ⟨rfl,hJ3,hk3⟩
   gi_wp2
   have hrg3:=hrg2.of_walks hk3
   go_roundw
   case rel=>exact ⟨_,cnt2,ps ++ [(x,c)],hrg3,by simp <;> omega,hC2,by simpa using hJ3⟩
   case measure=>rw [hrg3.left_eq,hrg.left_eq];exact hlt
end Go.Proofs.YtiomgckodmecbaaGreat
namespace Go.Proofs.YtiomgckodmecbaaGreat
open Go.RowKit Go.Sort Go.Shelf
def Tryz.usorted_ren:Go.Shelf.Ren:=⟨fun | 6=>131 | 8=>135 | 9=>136 | 11=>139 | 13=>141 | 12=>140 | 23=>152 | 24=>153 | 14=>143 | 15=>144 | 16=>145 | 17=>146 | 18=>147 | 19=>148 | 20=>149 | 21=>150 | 22=>151 | 25=>154 | 26=>155 | 27=>156 | 28=>157 | 29=>158 | 30=>159 | 31=>160 | n=>n,fun | 26=>28 | 28=>179 | 24=>40 | 0=>0 | 3=>3 | 37=>183 | 48=>27 | 50=>123 | 4=>4 | 40=>192 | 39=>191 | 45=>197 | 5=>5 | 9=>9 | 51=>201 | 55=>205 | 57=>207 | 58=>118 | 33=>103 | n=>n,fun | n=>n⟩
theorem Tryz.usorted:Go.Proofs.YtiomgckodmecbaaGreat.SlZ32.n6 Tryz.prog Tryz.usorted_ren:={
 mixed:=by kernel_rfl
 f6:=⟨Tryz.f131.name,by decide,Tryz.func131.trans (congrArg some (by kernel_rfl))⟩
 f8:=⟨Tryz.f135.name,by decide,Tryz.func135.trans (congrArg some (by kernel_rfl))⟩
 f11:=⟨Tryz.f139.name,by decide,Tryz.func139.trans (congrArg some (by kernel_rfl))⟩
 t0:=Tryz.underlying0
 a0:=Tryz.isAgg0
 z0:=Tryz.sizeOf0
 v0:=Tryz.zeroValue0
 t24:=Tryz.underlying40
 a24:=Tryz.isAgg40
 z24:=Tryz.sizeOf40
 v24:=Tryz.zeroValue40
 t26:=Tryz.underlying28
 a26:=Tryz.isAgg28
 z26:=Tryz.sizeOf28
 v26:=Tryz.zeroValue28
 t28:=Tryz.underlying179
 a28:=Tryz.isAgg179
 z28:=Tryz.sizeOf179
 v28:=Tryz.zeroValue179
 i26:=by kernel_rfl }
end Go.Proofs.YtiomgckodmecbaaGreat
namespace Go.Proofs.YtiomgckodmecbaaGreat
open Go.RowKit Go.Tk Go.Maps Go.Sort Go.Shelf
theorem vals_gives (F:Fence) (n:Nat) (h8:F.fn 137) (hro:F.round=none) (hn:1≤n) (Bm b:Nat) (L:List Ent) (w:World) (hBm:Bm < w.heap.size) (hm:w.cell? ⟨Bm,0,none⟩=some (.map (some b))) (hown:NM 28 .u32 w b L) :
    SeqGives F n Tryz.prog 137 #[.pointer (some ⟨Bm,0,none⟩)] encU (fun ss=>∃ ps:List Ent,ps.Perm L∧ss=ps.map (·.2)) L.length w:=fun l J W hW hJ hY h0=>by
  have hown':NM 28 .u32 W b L:=by
    have hbl:=hown.lt
    obtain ⟨D,h1,h2⟩:=hown
    obtain ⟨es,clock,hb,Ft,hs,hD⟩:=h1
    exact ⟨D,⟨es,clock,(hW.block b hbl).trans hb,Ft,hs,hD⟩,h2⟩
  refine (vals1_in F n h8 hro hn l Bm b L J hY W hJ ((hW.cell (p:=⟨Bm,0,none⟩) hBm).trans hm) hown' h0).mono ?_
  rintro e W' ⟨hv,ps,hp,hJ'⟩
  exact ⟨hv,_,⟨ps,hp,rfl⟩,hJ'⟩
theorem vals_in (F:Fence) (n:Nat) (hf:F.fn 132) (hro:F.round=none) (mb:Option Nat) (w:World) :
    CallsIn F n Tryz.prog 132 #[.map mb] w fun e w'=>e=.returned (.func (.func 137) #[] #[.pointer (some ⟨w.heap.size,0,none⟩)])∧w'=w.alloc (.cells #[.map mb] 132):=by
  refine callsIn_of_wp Tryz.func132 rfl hf ?_ hro
  simp only [Tryz.ntmps132,List.size_toArray,List.length_cons,List.length_nil,Nat.reduceAdd,Nat.reduceSub,Array.replicate_succ,Array.replicate_zero,List.push_toArray,List.append_toArray,List.nil_append,List.cons_append]
  gi_wp2
  go_ret
  exact ⟨rfl,rfl⟩
theorem usorts (m:Nat):AnyZU.SortsIn Tryz.prog Tryz.usorted_ren Fence.wide m :=
  ⟨fun blk off cap ss W hH hblk hsz=>callsIn_wide.2 (AnyU.slices_Sort_int Tryz.usort blk off cap ss W hH hblk hsz),
   fun p cap W=>callsIn_wide.2 (AnyU.slices_Sort_int_none Tryz.usort p cap W)⟩
def rising (L:List Ent):List Int:=(L.map (·.2)).mergeSort fun x y=>decide (x≤y)
theorem rising_perm {L L':List Ent} (h:L.Perm L'):rising L=rising L':=by
  unfold rising
  have tr:∀ a b c:Int,decide (a≤b)=true→decide (b≤c)=true→decide (a≤c)=true:=by
    intro a b c h1 h2;simp at h1 h2 ⊢;omega
  have tot:∀ a b:Int,(decide (a≤b) || decide (b≤a))=true:=by
    intro a b;simp <;> omega
  refine List.Perm.eq_of_pairwise (le:=fun a b=>decide (a≤b)=true) ?_ (List.pairwise_mergeSort tr tot _) (List.pairwise_mergeSort tr tot _) ?_
  · intro a b _ _ h1 h2;simp at h1 h2;omega
  · exact ((List.mergeSort_perm _ _).trans (h.map _)).trans (List.mergeSort_perm _ _).symm
theorem rising_len (L:List Ent):(rising L).length=L.length:=by unfold rising;rw [List.length_mergeSort,List.length_map]
def NewU (lo:Nat) (w':World) (v:Value) (xs:List Int):Prop:=∃ A C,v=.slice A xs.length C∧Row1 w' 28 (Value.int .u32) A xs.length C xs∧Fresh lo A∧(xs=[]↔A=none)
theorem newU_of {lo:Nat} {w':World} {v:Value} {xs:List Int} (h:w'.ownsRow lo 28 1 v xs.length (xs.map encU)) (hn:v=.slice none 0 0↔xs=[]):NewU lo w' v xs:=by
  have h0:=ownsRow_base_a h (Nat.zero_le lo)
  rcases h.2 with ⟨rfl,hz⟩ | ⟨g,cap,cur,rfl,hb,hg,_⟩
  · obtain rfl:=List.eq_nil_of_length_eq_zero hz
    exact ⟨none,0,rfl,Own.nil _ _ _ _,fresh_none _,by simp⟩
  · refine ⟨some ⟨g,0,none⟩,cap,rfl,⟨rfl,?_⟩,fresh_some hb,?_⟩
    · rw [flat1];exact h0
    · simp at hn ⊢;exact fun h=>hn h
theorem sortedvals_any (b:Nat) (L:List Ent) (w:World) (hm:NM 28 .u32 w b L) (hmax:L.length * 4≤140737488355328) :
    ∃ w1,w1=w.alloc (.cells #[.map (some b)] 132)∧Calls Tryz.prog 131 #[.func (.func 137) #[] #[.pointer (some ⟨w.heap.size,0,none⟩)]] w1 fun e w'=>∃ v,e=.returned v∧NewU w.heap.size w' v (rising L)∧Same w w':=by
  obtain ⟨w1,hw1⟩:∃ z,z=w.alloc (.cells #[.map (some b)] 132):=⟨_,rfl⟩
  have hs1:Same w w1:=by rw [hw1];exact (Frm.refl _ _).alloc _
  have hX:Blk w1 w.heap.size 132 #[.map (some b)]:=by rw [hw1];exact Blk.new _ _ _
  have hseq:=vals_gives Fence.wide (5 - 1 - 1 - 1) trivial rfl (by omega) w.heap.size b L w1 hX.lt (hX.cell 0) (hm.frm hs1 id)
  have cS:=AnyZU.sorted_in Tryz.usorted Fence.wide 5 trivial trivial trivial trivial rfl (by omega) (usorts _) (enters_of Tryz.func136 (by kernel_rfl) rfl) 137 #[.pointer (some ⟨w.heap.size,0,none⟩)] trivial (enters_of Tryz.func137 (by kernel_rfl) rfl) _ _ (by show L.length≤9223372036854775807;omega) hmax w1 hseq
  refine ⟨w1,hw1,(callsIn_wide.1 cS).mono ?_⟩
  rintro e w' ⟨v,ss,rfl,⟨ps,hp,rfl⟩,hrow,hnil,hb⟩
  have hsz:w.heap.size≤w1.heap.size:=hs1.size
  have hlen:(rising ps).length=(ps.map (·.2)).length:=by rw [rising_len,List.length_map]
  refine ⟨v,rfl,?_,hs1.trans (Frm.of_below hb _) (fun _ _ h=>h)⟩
  rw [← rising_perm hp]
  have hrow':w'.ownsRow w.heap.size 28 1 v (rising ps).length ((rising ps).map encU):=by
    rw [hlen];exact ownsRow_base_a hrow hsz
  refine newU_of hrow' ?_
  rw [hnil]
  constructor
  · intro h;rw [List.map_eq_nil_iff] at h;subst h;simp [rising]
  · intro h;rw [List.map_eq_nil_iff];exact List.eq_nil_of_length_eq_zero (by rw [← rising_len,h];rfl)
theorem uqrefs_any (U:UTab) (vars:Nat) (L:List Ent) (v:Nat) (hv:v < vars) (w:World) (h:UT w U vars L) (hmax:L.length * 4≤140737488355328) :
    Calls Tryz.prog 121 #[.pointer (some ⟨U.T,0,none⟩),.int .i64 v] w fun e w'=>∃ x,e=.returned (.tuple #[x,.int .i64 0])∧NewU w.heap.size w' x (rising (ofv L v))∧Same w w':=by
  have HC:=Lib.hid (uqcheck_any U vars L v w h)
  have ct:w.cell? ⟨U.T,0,none⟩=some (.slice (some ⟨U.sb,0,none⟩) vars vars):=h.t.cell 0
  have lt:=h.t.lt
  have hE:vErr vars v=0:=if_pos ⟨by omega,by omega⟩
  have cs:=h.s v hv
  have ls:=h.sl
  have hk0:(0:Int)≤v:=by omega
  have hk1:(v:Int) < vars:=by omega
  have hlen:(ofv L v).length * 4≤140737488355328:=by
    have:=List.length_filter_le (fun p:Ent=>decide (p.1.v=(v:Int))) L
    have h2:(ofv L v).length≤L.length:=this
    omega
  obtain ⟨w1,hw1,hS⟩:=sortedvals_any (U.mb v) (ofv L v) w (h.m v hv) hlen
  have HS:=Lib.hid hS
  have HV:=Lib.hid (fun w=>callsIn_wide.1 (vals_in Fence.wide 5 trivial rfl (some (U.mb v)) w))
  rw [hE] at HC
  clear h hE hv hlen hmax hS
  go_enter Tryz.func121,Tryz.ntmps121
  go_wp2_with (fail)
  refine HC.out.mono ?_
  rintro e w2 ⟨rfl,rfl⟩
  clear HC
  go_wp2_with (fail)
  refine (HV.out _).mono ?_
  rintro e w3 ⟨rfl,hw3⟩
  rw [← hw1] at hw3
  subst hw3
  clear hw1 HV
  go_wp2_with (fail)
  refine HS.out.mono ?_
  rintro e w4 ⟨x,rfl,hx,hs⟩
  have HX:=Lib.hid hx
  have HW:=Lib.hid hs
  clear hx hs HS
  go_wp2
  go_ret2
  exact ⟨x,rfl,HX.out,HW.out⟩
structure Crs where
 r:Int
 n:Nd
 a00:Int
 a01:Int
 a10:Int
 a11:Int
deriving Inhabited,DecidableEq
def Crs.cells (c:Crs):List Value:=[.int .u32 c.r,.int .i64 c.n.v,.int .u32 c.n.lo,.int .u32 c.n.hi,.int .u32 c.a00,.int .u32 c.a01,.int .u32 c.a10,.int .u32 c.a11]
theorem Crs.cells_len (c:Crs):c.cells.length=8:=rfl
def zCrs:Crs:=⟨0,⟨0,0,0⟩,0,0,0,0⟩
theorem info_crs:(Tryz.prog.info? 147).map (fun i=>(i.zero,i.size,i.bytes))=some (some (.agg zCrs.cells.toArray),8,40):=by kernel_rfl
def partsK (k:KS) (r y:Int):Int × Int:=if (getN k.ls r).v=y then ((getN k.ls r).lo,(getN k.ls r).hi) else (r,r)
def isCrs (k:KS) (y:Int) (r:Int):Bool:=decide ((getN k.ls (getN k.ls r).lo).v=y) || decide ((getN k.ls (getN k.ls r).hi).v=y)
def crsOf (k:KS) (y:Int) (r:Int):Crs:=⟨r,getN k.ls r,(partsK k (getN k.ls r).lo y).1,(partsK k (getN k.ls r).lo y).2,(partsK k (getN k.ls r).hi y).1,(partsK k (getN k.ls r).hi y).2⟩
def crsIn (k:KS) (y:Int) (rs:List Int):List Crs:=(rs.filter (isCrs k y)).map (crsOf k y)
theorem crsIn_snoc (k:KS) (y:Int) (rs:List Int) (r:Int):crsIn k y (rs ++ [r])=if isCrs k y r then crsIn k y rs ++ [crsOf k y r] else crsIn k y rs:=by
 unfold crsIn
 rw [List.filter_append]
 by_cases h:isCrs k y r=true
 ·rw [if_pos h];simp [h]
 ·rw [if_neg h];simp [h]
section
variable {w:World} {kp:Nat} {k:KS} {a:KA}
theorem kparts_any (h:KW w kp k a) (r y:Int) (h0:0≤r) (h1:r < 4294967296) :
  Calls Tryz.prog 122 #[.pointer (some ⟨kp,0,none⟩),.int .u32 r,.int .i64 y] w fun e w'=>e=.returned (.tuple #[.int .u32 (partsK k r y).1,.int .u32 (partsK k r y).2])∧Same w w':=by
 have hkl:=h.blk.lt
 have H:=Lib.hid h
 clear h
 unfold partsK
 obtain ⟨n,hn⟩:∃ n,getN k.ls r=n:=⟨_,rfl⟩
 have hcall:=fun w' (hw:Same w w')=>knode_any (H.out.same hw) r h0 h1
 rw [hn] at hcall ⊢
 have HC:=Lib.hid hcall
 clear hcall hn
 have hcase:∀ (b:Bool),decide (n.v=y)=b→Calls Tryz.prog 122 #[.pointer (some ⟨kp,0,none⟩),.int .u32 r,.int .i64 y] w fun e w'=>e=.returned (.tuple #[.int .u32 (if b=true then n.lo else r),.int .u32 (if b=true then n.hi else r)])∧Same w w':=by
  intro b hb
  have hbe:(n.v == y)=b:=by rw [← hb];cases h:decide (n.v=y) <;> simp_all
  clear hb
  go_enter Tryz.func122,Tryz.ntmps122
  go_wp2_with (fail)
  refine (HC.out _ (Frm.refl _ _)).mono ?_
  rintro e w1 ⟨rfl,hs1⟩
  unfold Nd.val
  have HS1:=Lib.hid hs1
  clear hs1
  cases b with
  | true =>
   go_upto_region 3 with fail
   refine wp_quiet (by kernel_rfl) (by kernel_rfl) ?_
   repeat (any_goals (first | go_big_quiet_step (fail) | quiet_step (fail)))
   refine wpQuiet_nil ?_
   rintro _ ⟨q,rfl⟩
   go_wp2
   go_ret2
   exact ⟨rfl,(HS1.out.alloc _).trans (more_same _ _) (fun _ _ h=>h)⟩
  | false =>
   go_wp2
   go_ret2
   exact ⟨rfl,HS1.out.alloc _⟩
 refine (hcase _ rfl).mono ?_
 rintro e w' ⟨rfl,hs⟩
 refine ⟨?_,hs⟩
 by_cases hv:n.v=y
 ·simp [hv]
 ·simp [hv]
theorem run_ndv (n:Nd) (w:World):(Instr.field 37 n.val 0).run Tryz.prog w=.ok (.int .i64 n.v) w:=rfl
structure RefIn (k:KS) (r:Int):Prop where
 r0:0≤r
 r1:r < 4294967296
 l0:0≤(getN k.ls r).lo
 l1:(getN k.ls r).lo < 4294967296
 h0:0≤(getN k.ls r).hi
 h1:(getN k.ls r).hi < 4294967296
theorem kcrossings_any (h:KW w kp k a) (x:Nat) (y:Int) (hx:x < k.n) (hR:∀ r∈rising (ofv k.L x),RefIn k r) (hlen:k.L.length≤4000000) :
  Calls Tryz.prog 97 #[.pointer (some ⟨kp,0,none⟩),.int .i64 x,.int .i64 y] w fun e w'=>∃ A C,e=.returned (.slice A (crsIn k y (rising (ofv k.L x))).length C)∧Go.Tk.Own w' 147 8 Crs.cells A (crsIn k y (rising (ofv k.L x))).length C (crsIn k y (rising (ofv k.L x)))∧Fresh w.heap.size A∧Same w w':=by
 have hkl:=h.blk.lt
 have c1:=h.c1
 have hrefs:=fun w' (hw:Same w w')=>uqrefs_any a.U k.n k.L x hx w' (h.same hw).ut (by omega)
 have HREFS:=Lib.hid hrefs
 have H:=Lib.hid h
 have hrl:=rising_len (ofv k.L x)
 have hol:(ofv k.L x).length≤k.L.length:=List.length_filter_le _ _
 obtain ⟨rs,hrs⟩:∃ rs,rising (ofv k.L x)=rs:=⟨_,rfl⟩
 rw [hrs] at HREFS hR hrl ⊢
 have hrl':rs.length≤4000000:=by omega
 have HR:=Lib.hid hR
 clear h hrefs hrs hrl hlen hR hol
 go_enter Tryz.func97,Tryz.ntmps97
 go_wp2_with (fail)
 refine (HREFS.out _ (Frm.refl _ _)).mono ?_
 rintro e w1 ⟨xv,rfl,⟨A,C,rfl,hrow,hfr,_⟩,hs1⟩
 have HROW:=Lib.hid hrow
 have HS1:=Lib.hid hs1
 clear hrow hs1 hfr c1 HREFS
 go_wp2_with (fail)
 go_loopw [26,7] (fun i l wr=>∃ n A' C',n≤rs.length∧i=.int .i64 n∧l=.slice A' (crsIn k y (rs.take n)).length C'∧Go.Tk.Own wr 147 8 Crs.cells A' (crsIn k y (rs.take n)).length C' (crsIn k y (rs.take n))∧Fresh w1.heap.size A'∧Same w1 wr) (fun i _ _=>rs.length - (intOf i).toNat)
 case atStart=>exact ⟨0,none,0,by omega,rfl,rfl,Own.nil _ _ _ _,fresh_none _,Frm.refl _ _⟩
 case round =>
  obtain ⟨n,A',C',hn,rfl,rfl,hO,hF,hS⟩:=hrel
  have HO:=Lib.hid hO
  have HF:=Lib.hid hF
  have HS:=Lib.hid hS
  clear hO hF hS
  by_cases hlt:n < rs.length
  ·obtain ⟨r,hr⟩:∃ r,rs[n]?=some r:=⟨_,List.getElem?_eq_getElem hlt⟩
   have hrow:=HROW.out.frm HS.out (fun _ _=>id)
   obtain ⟨sb,rfl,hsb,hsc⟩:=hrow.at1 hr
   have hRr:=HR.out r (List.mem_of_getElem? hr)
   have hcr:crsIn k y (rs.take (n+1))=if isCrs k y r then crsIn k y (rs.take n) ++ [crsOf k y r] else crsIn k y (rs.take n):=by
    rw [List.take_add_one,hr]
    exact crsIn_snoc k y _ r
   have HCR:=Lib.hid hcr
   obtain ⟨nd,hnd⟩:∃ nd,getN k.ls r=nd:=⟨_,rfl⟩
   obtain ⟨r0,r1,l0,l1,h0,h1⟩:=hRr
   rw [hnd] at l0 l1 h0 h1
   have HND:=Lib.hid hnd
   have hI:(n:Int) < (rs.length:Int):=by omega
   have hk:=H.out.same (HS1.out.trans HS.out (fun _ _ h=>h))
   have hnode:=fun w' (hw:Same wr w')=>knode_any (hk.same hw) r r0 r1
   rw [hnd] at hnode
   have hn1:=fun w' (hw:Same wr w')=>knode_any (hk.same hw) nd.lo l0 l1
   have hn2:=fun w' (hw:Same wr w')=>knode_any (hk.same hw) nd.hi h0 h1
   have hp1:=fun w' (hw:Same wr w')=>kparts_any (hk.same hw) nd.lo y l0 l1
   have hp2:=fun w' (hw:Same wr w')=>kparts_any (hk.same hw) nd.hi y h0 h1
   obtain ⟨m1,hm1⟩:∃ m1,getN k.ls nd.lo=m1:=⟨_,rfl⟩
   obtain ⟨m2,hm2⟩:∃ m2,getN k.ls nd.hi=m2:=⟨_,rfl⟩
   rw [hm1] at hn1
   rw [hm2] at hn2
   obtain ⟨q1,hq1⟩:∃ q,partsK k nd.lo y=q:=⟨_,rfl⟩
   obtain ⟨q2,hq2⟩:∃ q,partsK k nd.hi y=q:=⟨_,rfl⟩
   rw [hq1] at hp1
   rw [hq2] at hp2
   have hci:crsOf k y r=⟨r,nd,q1.1,q1.2,q2.1,q2.2⟩:=by unfold crsOf;rw [hnd,hq1,hq2]
   have hic:isCrs k y r=(decide (m1.v=y) || decide (m2.v=y)):=by unfold isCrs;rw [hnd,hm1,hm2]
   have HCI:=Lib.hid hci
   have HIC:=Lib.hid hic
   have HN:=Lib.hid hnode
   have HN1:=Lib.hid hn1
   have HN2:=Lib.hid hn2
   have HP1:=Lib.hid hp1
   have HP2:=Lib.hid hp2
   have hkl':=hk.blk.lt
   replace hsc:wr.cell? ⟨sb,n,none⟩=some (.int .u32 r):=hsc
   clear hr hcr hnd hnode hn1 hn2 hp1 hp2 hm1 hm2 hq1 hq2 hci hic hk hrow
   obtain ⟨b1,hb1⟩:∃ b,decide (m1.v=y)=b:=⟨_,rfl⟩
   obtain ⟨b2,hb2⟩:∃ b,decide (m2.v=y)=b:=⟨_,rfl⟩
   rw [hb1,hb2] at HIC
   have e1:(m1.v != y) = !b1:=by rw [← hb1];cases h:decide (m1.v=y) <;> simp_all
   have e2:(m2.v != y) = !b2:=by rw [← hb2];cases h:decide (m2.v=y) <;> simp_all
   clear hb1 hb2
   go_wp2_with (fail)
   refine (HN.out _ (Frm.refl _ _)).mono ?_
   rintro e w2 ⟨rfl,hs2⟩
   unfold Nd.val
   go_upto_region 7 with fail
   refine wp_world fun w3 hw3=>?_
   have hX:=Blk.new w2 37 #[.int .i64 nd.v,.int .u32 nd.lo,.int .u32 nd.hi]
   have hs3:Same wr w3:=by rw [hw3];exact hs2.alloc _
   rw [← hw3] at hX
   clear hw3
   have x0:=hX.cell 0
   have x1:=hX.cell 1
   have x2:=hX.cell 2
   have hxl:=hX.lt
   simp at x0 x1 x2
   have HX:=Lib.hid hX
   have HS3:=Lib.hid hs3
   have HWZ:Hid (wr.heap.size≤w2.heap.size):=Lib.hid hs2.size
   clear hX hs3 hs2
   have hq:∀ (b:Bool),b1=b→b2=b2→True:=fun _ _ _=>trivial
   have hfld:=run_ndv
   have hmain:∀ (bb:Bool),(b1 || b2)=bb→True:=fun _ _=>trivial
   clear hmain hq
   refine wp_quiet (by kernel_rfl) (by kernel_rfl) ?_
   cases b1 with
   | true =>
    have e1':(m1.v != y)=false:=by simpa using e1
    clear e1
    repeat (any_goals (first | go_big_quiet_step ((go_at_call 62;exact quiet_call (HN1.out _ (HS3.out.trans (more_same _ _) (fun _ _ h=>h))))) | quiet_step ((go_at_call 62;exact quiet_call (HN1.out _ (HS3.out.trans (more_same _ _) (fun _ _ h=>h)))))))
    refine wpQuiet_nil ?_
    rintro _ ⟨qq,rfl⟩
    have hs4:Same w3 (more w3 qq):=more_same _ _
    generalize more w3 qq=w4 at *
    have hX4:=HX.out.frm hs4 id
    have x0:=hX4.cell 0
    have x1:=hX4.cell 1
    have x2:=hX4.cell 2
    have hxl4:=hX4.lt
    simp at x0 x1 x2
    have HX4:=Lib.hid hX4
    have HS4:=Lib.hid (HS3.out.trans hs4 (fun _ _ h=>h))
    clear hX4 hs4 HX HS3
    go_upto_region 9 with fail
    refine wp_world fun w5 hw5=>?_
    have hY:=Blk.new w4 147 #[.int .u32 r,.int .i64 nd.v,.int .u32 nd.lo,.int .u32 nd.hi,.int .u32 0,.int .u32 0,.int .u32 0,.int .u32 0]
    have hs5:Same wr w5:=by rw [hw5];exact HS4.out.alloc _
    have hX5:Blk w5 w2.heap.size 37 #[.int .i64 nd.v,.int .u32 nd.lo,.int .u32 nd.hi]:=by rw [hw5];exact HX4.out.alloc _
    rw [← hw5] at hY
    have hwz:=HX4.out.lt
    clear hw5
    have x0:=hX5.cell 0
    have x1:=hX5.cell 1
    have x2:=hX5.cell 2
    have hxl5:=hX5.lt
    simp at x0 x1 x2
    have HX5:=Lib.hid hX5
    have HY5:=Lib.hid hY
    have HS5:=Lib.hid hs5
    clear hX5 hY hs5 HX4 HS4
    go_wp2_with (fail)
    refine (HP1.out _ HS5.out).mono ?_
    rintro e w6 ⟨rfl,hs6⟩
    have hY6:=HY5.out.frm hs6 id
    have hX6:=HX5.out.frm hs6 id
    have y4:=hY6.cell 4
    have y5:=hY6.cell 5
    have hyl6:=hY6.lt
    have yf:=fun i=>hY6.free i
    simp at y4 y5
    have HX6:=Lib.hid hX6
    have HY6:=Lib.hid hY6
    have HS6:=Lib.hid (HS5.out.trans hs6 (fun _ _ h=>h))
    clear hX6 hY6 hs6 HX5 HY5 HS5
    go_upto_region 10 with fail
    refine wp_world fun w7 hw7=>?_
    have hYX:w2.heap.size≠w4.heap.size:=by omega
    have hY7:Blk w7 w4.heap.size 147 #[.int .u32 r,.int .i64 nd.v,.int .u32 nd.lo,.int .u32 nd.hi,.int .u32 q1.1,.int .u32 q1.2,.int .u32 0,.int .u32 0]:=by
     rw [hw7]
     have:=(HY6.out.set 4 (.int .u32 q1.1)).set 5 (.int .u32 q1.2)
     simpa using this
    have hX7:Blk w7 w2.heap.size 37 #[.int .i64 nd.v,.int .u32 nd.lo,.int .u32 nd.hi]:=by
     rw [hw7]
     exact (HX6.out.far (p:=⟨w4.heap.size,4,none⟩) hYX _).far (p:=⟨w4.heap.size,5,none⟩) hYX _
    have hwr:wr.heap.size≤w4.heap.size:=by have:=HWZ.out;omega
    have hs7:Same wr w7:=by
     rw [hw7]
     exact (HS6.out.setNew _ _ hwr).setNew _ _ hwr
    clear hw7 y4 y5 yf
    have x0:=hX7.cell 0
    have x1:=hX7.cell 1
    have x2:=hX7.cell 2
    have hxl7:=hX7.lt
    simp at x0 x1 x2
    have HX7:=Lib.hid hX7
    have HY7:=Lib.hid hY7
    have HS7:=Lib.hid hs7
    clear hX7 hY7 hs7 HX6 HY6 HS6
    go_wp2_with (fail)
    refine (HP2.out _ HS7.out).mono ?_
    rintro e w8 ⟨rfl,hs8⟩
    have hY8:=HY7.out.frm hs8 id
    have y6:=hY8.cell 6
    have y7:=hY8.cell 7
    have hyl8:=hY8.lt
    have yf:=fun i=>hY8.free i
    simp at y6 y7
    have HY8:=Lib.hid hY8
    have HS8:=Lib.hid (HS7.out.trans hs8 (fun _ _ h=>h))
    clear hY8 hs8 HX7 HY7 HS7
    go_upto_region 11 with fail
    refine wp_world fun w9 hw9=>?_
    have hY9:Blk w9 w4.heap.size 147 #[.int .u32 r,.int .i64 nd.v,.int .u32 nd.lo,.int .u32 nd.hi,.int .u32 q1.1,.int .u32 q1.2,.int .u32 q2.1,.int .u32 q2.2]:=by
     rw [hw9]
     have:=(HY8.out.set 6 (.int .u32 q2.1)).set 7 (.int .u32 q2.2)
     simpa using this
    have hs9:Same wr w9:=by
     rw [hw9]
     exact (HS8.out.setNew _ _ hwr).setNew _ _ hwr
    clear hw9 y6 y7 yf
    have y0:=hY9.cell 0
    have y1:=hY9.cell 1
    have y2:=hY9.cell 2
    have y3:=hY9.cell 3
    have y4:=hY9.cell 4
    have y5:=hY9.cell 5
    have y6:=hY9.cell 6
    have y7:=hY9.cell 7
    have hyl9:=hY9.lt
    simp at y0 y1 y2 y3 y4 y5 y6 y7
    have HY9:=Lib.hid hY9
    have HS9:=Lib.hid hs9
    clear hY9 hs9 HY8 HS8
    refine wp_read 2 ?_
    simp only [List.take_succ_cons,List.take_zero,List.drop_succ_cons,List.drop_zero]
    repeat (any_goals (first | go_big_quiet_step (fail) | quiet_step (fail)))
    refine wpQuiet_nil ?_
    refine wpList_plain rfl fun K hK=>?_
    go_simp
    refine hK _ _ ?_
    clear hK K
    refine list_world fun wa hwa=>?_
    have hM:=Blk.new w9 147 #[.int .u32 r,.int .i64 nd.v,.int .u32 nd.lo,.int .u32 nd.hi,.int .u32 q1.1,.int .u32 q1.2,.int .u32 q2.1,.int .u32 q2.2]
    have hsa:Same wr wa:=by rw [hwa];exact HS9.out.alloc _
    rw [← hwa] at hM
    have hw9a:w9.heap.size < wa.heap.size:=hM.lt
    clear hwa
    have hil:(crsIn k y (rs.take n)).length≤4000000:=by
     have h1:(crsIn k y (rs.take n)).length≤(rs.take n).length:=by unfold crsIn;rw [List.length_map];exact List.length_filter_le _ _
     rw [List.length_take] at h1
     omega
    refine Own.append_list rfl (.tmp 78) (.tmp 80) _ rfl Tryz.underlying143 info_crs rfl (by omega) rfl (HO.out.frm hsa (fun _ _=>id)) Crs.cells_len ⟨r,nd,q1.1,q1.2,q2.1,q2.2⟩ w9.heap.size 1 rfl hM (by simp [Value.oneCell',Crs.cells]) (by unfold maxLen;omega) (by omega) ?_
    intro gg cap wb hOb hgb hat
    have hSb:Same w1 wb:=by
     refine (HS.out.trans hsa (fun _ _ h=>h)).grown hgb (fun g hg=>.inr ?_)
     exact HF.out g (ownBlock_row.1 hg)
    have hFb:Fresh w1.heap.size (some ⟨gg,0,none⟩):=by
     refine fresh_some ?_
     rcases hat with h | h
     ·exact HF.out gg (ownBlock_row.1 h)
     ·have:=HS.out.size;have:=hsa.size;omega
    have HOB:=Lib.hid hOb
    have HSB:=Lib.hid hSb
    have HFB:=Lib.hid hFb
    clear hOb hSb hFb hgb hat hM hsa
    go_wp2
    go_roundw
    case rel =>
     have hcc:crsIn k y (rs.take (n+1))=crsIn k y (rs.take n) ++ [⟨r,nd,q1.1,q1.2,q2.1,q2.2⟩]:=by
      rw [HCR.out,HIC.out,if_pos (by simp),HCI.out]
     refine ⟨n+1,some ⟨gg,0,none⟩,cap,by omega,by go_num,?_,?_,HFB.out,HSB.out⟩
     ·rw [hcc,List.length_append];rfl
     ·rw [hcc,List.length_append];exact HOB.out
    case measure=>simp [intOf] <;> omega
   | false =>
    have e1':(m1.v != y)=true:=by simpa using e1
    clear e1
    cases b2 with
    | true =>
     have e2':(m2.v != y)=false:=by simpa using e2
     clear e2
     repeat (any_goals (first | go_big_quiet_step ((first | (go_at_call_of 62 (Value.int IntKind.u32 nd.lo);exact quiet_call (HN1.out _ (HS3.out.trans (more_same _ _) (fun _ _ h=>h)))) | (go_at_call 62;exact quiet_call (HN2.out _ (HS3.out.trans (more_same _ _) (fun _ _ h=>h)))))) | quiet_step ((first | (go_at_call_of 62 (Value.int IntKind.u32 nd.lo);exact quiet_call (HN1.out _ (HS3.out.trans (more_same _ _) (fun _ _ h=>h)))) | (go_at_call 62;exact quiet_call (HN2.out _ (HS3.out.trans (more_same _ _) (fun _ _ h=>h))))))))
     refine wpQuiet_nil ?_
     rintro _ ⟨qq,rfl⟩
     have hs4:Same w3 (more w3 qq):=more_same _ _
     generalize more w3 qq=w4 at *
     have hX4:=HX.out.frm hs4 id
     have x0:=hX4.cell 0
     have x1:=hX4.cell 1
     have x2:=hX4.cell 2
     have hxl4:=hX4.lt
     simp at x0 x1 x2
     have HX4:=Lib.hid hX4
     have HS4:=Lib.hid (HS3.out.trans hs4 (fun _ _ h=>h))
     clear hX4 hs4 HX HS3
     go_upto_region 9 with fail
     refine wp_world fun w5 hw5=>?_
     have hY:=Blk.new w4 147 #[.int .u32 r,.int .i64 nd.v,.int .u32 nd.lo,.int .u32 nd.hi,.int .u32 0,.int .u32 0,.int .u32 0,.int .u32 0]
     have hs5:Same wr w5:=by rw [hw5];exact HS4.out.alloc _
     have hX5:Blk w5 w2.heap.size 37 #[.int .i64 nd.v,.int .u32 nd.lo,.int .u32 nd.hi]:=by rw [hw5];exact HX4.out.alloc _
     rw [← hw5] at hY
     have hwz:=HX4.out.lt
     clear hw5
     have x0:=hX5.cell 0
     have x1:=hX5.cell 1
     have x2:=hX5.cell 2
     have hxl5:=hX5.lt
     simp at x0 x1 x2
     have HX5:=Lib.hid hX5
     have HY5:=Lib.hid hY
     have HS5:=Lib.hid hs5
     clear hX5 hY hs5 HX4 HS4
     go_wp2_with (fail)
     refine (HP1.out _ HS5.out).mono ?_
     rintro e w6 ⟨rfl,hs6⟩
     have hY6:=HY5.out.frm hs6 id
     have hX6:=HX5.out.frm hs6 id
     have y4:=hY6.cell 4
     have y5:=hY6.cell 5
     have hyl6:=hY6.lt
     have yf:=fun i=>hY6.free i
     simp at y4 y5
     have HX6:=Lib.hid hX6
     have HY6:=Lib.hid hY6
     have HS6:=Lib.hid (HS5.out.trans hs6 (fun _ _ h=>h))
     clear hX6 hY6 hs6 HX5 HY5 HS5
     go_upto_region 10 with fail
     refine wp_world fun w7 hw7=>?_
     have hYX:w2.heap.size≠w4.heap.size:=by omega
     have hY7:Blk w7 w4.heap.size 147 #[.int .u32 r,.int .i64 nd.v,.int .u32 nd.lo,.int .u32 nd.hi,.int .u32 q1.1,.int .u32 q1.2,.int .u32 0,.int .u32 0]:=by
      rw [hw7]
      have:=(HY6.out.set 4 (.int .u32 q1.1)).set 5 (.int .u32 q1.2)
      simpa using this
     have hX7:Blk w7 w2.heap.size 37 #[.int .i64 nd.v,.int .u32 nd.lo,.int .u32 nd.hi]:=by
      rw [hw7]
      exact (HX6.out.far (p:=⟨w4.heap.size,4,none⟩) hYX _).far (p:=⟨w4.heap.size,5,none⟩) hYX _
     have hwr:wr.heap.size≤w4.heap.size:=by have:=HWZ.out;omega
     have hs7:Same wr w7:=by
      rw [hw7]
      exact (HS6.out.setNew _ _ hwr).setNew _ _ hwr
     clear hw7 y4 y5 yf
     have x0:=hX7.cell 0
     have x1:=hX7.cell 1
     have x2:=hX7.cell 2
     have hxl7:=hX7.lt
     simp at x0 x1 x2
     have HX7:=Lib.hid hX7
     have HY7:=Lib.hid hY7
     have HS7:=Lib.hid hs7
     clear hX7 hY7 hs7 HX6 HY6 HS6
     go_wp2_with (fail)
     refine (HP2.out _ HS7.out).mono ?_
     rintro e w8 ⟨rfl,hs8⟩
     have hY8:=HY7.out.frm hs8 id
     have y6:=hY8.cell 6
     have y7:=hY8.cell 7
     have hyl8:=hY8.lt
     have yf:=fun i=>hY8.free i
     simp at y6 y7
     have HY8:=Lib.hid hY8
     have HS8:=Lib.hid (HS7.out.trans hs8 (fun _ _ h=>h))
     clear hY8 hs8 HX7 HY7 HS7
     go_upto_region 11 with fail
     refine wp_world fun w9 hw9=>?_
     have hY9:Blk w9 w4.heap.size 147 #[.int .u32 r,.int .i64 nd.v,.int .u32 nd.lo,.int .u32 nd.hi,.int .u32 q1.1,.int .u32 q1.2,.int .u32 q2.1,.int .u32 q2.2]:=by
      rw [hw9]
      have:=(HY8.out.set 6 (.int .u32 q2.1)).set 7 (.int .u32 q2.2)
      simpa using this
     have hs9:Same wr w9:=by
      rw [hw9]
      exact (HS8.out.setNew _ _ hwr).setNew _ _ hwr
     clear hw9 y6 y7 yf
     have y0:=hY9.cell 0
     have y1:=hY9.cell 1
     have y2:=hY9.cell 2
     have y3:=hY9.cell 3
     have y4:=hY9.cell 4
     have y5:=hY9.cell 5
     have y6:=hY9.cell 6
     have y7:=hY9.cell 7
     have hyl9:=hY9.lt
     simp at y0 y1 y2 y3 y4 y5 y6 y7
     have HY9:=Lib.hid hY9
     have HS9:=Lib.hid hs9
     clear hY9 hs9 HY8 HS8
     refine wp_read 2 ?_
     simp only [List.take_succ_cons,List.take_zero,List.drop_succ_cons,List.drop_zero]
     repeat (any_goals (first | go_big_quiet_step (fail) | quiet_step (fail)))
     refine wpQuiet_nil ?_
     refine wpList_plain rfl fun K hK=>?_
     go_simp
     refine hK _ _ ?_
     clear hK K
     refine list_world fun wa hwa=>?_
     have hM:=Blk.new w9 147 #[.int .u32 r,.int .i64 nd.v,.int .u32 nd.lo,.int .u32 nd.hi,.int .u32 q1.1,.int .u32 q1.2,.int .u32 q2.1,.int .u32 q2.2]
     have hsa:Same wr wa:=by rw [hwa];exact HS9.out.alloc _
     rw [← hwa] at hM
     have hw9a:w9.heap.size < wa.heap.size:=hM.lt
     clear hwa
     have hil:(crsIn k y (rs.take n)).length≤4000000:=by
      have h1:(crsIn k y (rs.take n)).length≤(rs.take n).length:=by unfold crsIn;rw [List.length_map];exact List.length_filter_le _ _
      rw [List.length_take] at h1
      omega
     refine Own.append_list rfl (.tmp 78) (.tmp 80) _ rfl Tryz.underlying143 info_crs rfl (by omega) rfl (HO.out.frm hsa (fun _ _=>id)) Crs.cells_len ⟨r,nd,q1.1,q1.2,q2.1,q2.2⟩ w9.heap.size 1 rfl hM (by simp [Value.oneCell',Crs.cells]) (by unfold maxLen;omega) (by omega) ?_
     intro gg cap wb hOb hgb hat
     have hSb:Same w1 wb:=by
      refine (HS.out.trans hsa (fun _ _ h=>h)).grown hgb (fun g hg=>.inr ?_)
      exact HF.out g (ownBlock_row.1 hg)
     have hFb:Fresh w1.heap.size (some ⟨gg,0,none⟩):=by
      refine fresh_some ?_
      rcases hat with h | h
      ·exact HF.out gg (ownBlock_row.1 h)
      ·have:=HS.out.size;have:=hsa.size;omega
     have HOB:=Lib.hid hOb
     have HSB:=Lib.hid hSb
     have HFB:=Lib.hid hFb
     clear hOb hSb hFb hgb hat hM hsa
     go_wp2
     go_roundw
     case rel =>
      have hcc:crsIn k y (rs.take (n+1))=crsIn k y (rs.take n) ++ [⟨r,nd,q1.1,q1.2,q2.1,q2.2⟩]:=by
       rw [HCR.out,HIC.out,if_pos (by simp),HCI.out]
      refine ⟨n+1,some ⟨gg,0,none⟩,cap,by omega,by go_num,?_,?_,HFB.out,HSB.out⟩
      ·rw [hcc,List.length_append];rfl
      ·rw [hcc,List.length_append];exact HOB.out
     case measure=>simp [intOf] <;> omega
    | false =>
     have e2':(m2.v != y)=true:=by simpa using e2
     clear e2
     repeat (any_goals (first | go_big_quiet_step ((first | (go_at_call_of 62 (Value.int IntKind.u32 nd.lo);exact quiet_call (HN1.out _ (HS3.out.trans (more_same _ _) (fun _ _ h=>h)))) | (go_at_call 62;exact quiet_call (HN2.out _ (HS3.out.trans (more_same _ _) (fun _ _ h=>h)))))) | quiet_step ((first | (go_at_call_of 62 (Value.int IntKind.u32 nd.lo);exact quiet_call (HN1.out _ (HS3.out.trans (more_same _ _) (fun _ _ h=>h)))) | (go_at_call 62;exact quiet_call (HN2.out _ (HS3.out.trans (more_same _ _) (fun _ _ h=>h))))))))
     refine wpQuiet_nil ?_
     rintro _ ⟨qq,rfl⟩
     go_wp2
     go_roundw
     case rel =>
      have hcc:crsIn k y (rs.take (n+1))=crsIn k y (rs.take n):=by
       rw [HCR.out,HIC.out,if_neg (by simp)]
      have hsq:Same wr (more w3 qq):=HS3.out.trans (more_same _ _) (fun _ _ h=>h)
      refine ⟨n+1,A',C',by omega,by go_num,by rw [hcc],?_,HF.out,HS.out.trans hsq (fun _ _ h=>h)⟩
      rw [hcc]
      exact HO.out.frm hsq (fun _ _=>id)
     case measure=>simp [intOf] <;> omega
  ·obtain rfl:n=rs.length:=by omega
   have hI:¬ ((rs.length:Nat):Int) < (rs.length:Int):=by omega
   go_wp2
   go_ret
   have ht:rs.take rs.length=rs:=List.take_length
   rw [ht] at HO
   refine ⟨A',C',rfl,HO.out,?_,HS1.out.trans HS.out (fun _ _ h=>h)⟩
   intro b hb
   exact Nat.le_trans HS1.out.size (HF.out b hb)
end
end Go.Proofs.YtiomgckodmecbaaGreat
namespace Go.Proofs.YtiomgckodmecbaaGreat
open Go.RowKit Go.Tk Go.Maps Go.ChangeMaps Go.WideElems Go.MapKept
def putE (L:List Ent) (n:Nd) (r:Int):List Ent:=if n∈keys L then L.map (fun p=>if p.1=n then (n,r) else p) else L ++ [(n,r)]
theorem keys_putE (L:List Ent) (n:Nd) (r:Int):keys (putE L n r)=if n∈keys L then keys L else keys L ++ [n]:=by
 unfold putE
 split
 ·unfold keys
  rw [List.map_map]
  apply List.map_congr_left
  intro p _
  simp only [Function.comp]
  split
  ·rename_i h;exact h.symm
  ·rfl
 ·simp [keys]
section
variable {e:TypeId} {q:IntKind} {w:World} {b:Nat} {L:List Ent}
theorem KNL:WideMaps.KeyLaw Tryz.prog 37:=deep_law_laid nd_laid (m:=2) (by omega) nd_row (by kernel_rfl) nd_wide
theorem NM.of_heap {w':World} (h:NM e q w b L) (hh:w'.heap[b]?=w.heap[b]?):NM e q w' b L:=by
 obtain ⟨D,⟨es,clock,h1,h2,h3,h4⟩,h5⟩:=h
 exact ⟨D,⟨es,clock,hh.trans h1,h2,h3,h4⟩,h5⟩
theorem NM.upd (h:NM e q w b L) {t:TypeId} (ht:Tryz.prog.underlying t=some (.map 37 e)) (he:Tryz.prog.underlying e=some (.int q)) (hlen:L.length < maxLen) {n:Nd} (hn:n.ok) {r:Int} (hr:(Lit.int q r).wf=true) :
  ∃ w',(Instr.mapUpdate t (.map (some b)) n.val (.int q r)).run Tryz.prog w=.ok () w'∧NM e q w' b (putE L n r):=by
 obtain ⟨D,h1,h2,h3,h4⟩:=h.tidy
 obtain ⟨w',hrun,r1,r2⟩:=h1.store KN ht hlen (nd_key hn) (plainElem_int (H:=Unit) he hr)
 refine ⟨w',hrun,?_⟩
 unfold putE
 split
 ·rename_i hold
  have h5:=h2.set h3 h4 hn hr hold rfl
  exact ⟨_,by rw [← h5.size];exact ownsMap_tight r1,h5⟩
 ·rename_i hnew
  exact ⟨_,by rw [List.length_append];exact r1,h2.put h3 h4 hn hr hnew⟩
theorem look_put {n:Nd} {r d:Int} (hn:(keys L).Nodup):(look (putE L n r) n).getD d=r:=by
 have hk:(keys (putE L n r)).Nodup:=by
  rw [keys_putE]
  split
  ·exact hn
  ·rename_i h
   rw [List.nodup_append]
   exact ⟨hn,by simp,by rintro a ha c hc rfl;simp at hc;subst hc;exact h ha⟩
 have hm:(n,r)∈putE L n r:=by
  unfold putE
  split
  ·rename_i h
   obtain ⟨s,hs⟩:=mem_keys.1 h
   exact List.mem_map.2 ⟨(n,s),hs,by simp⟩
  ·simp
 rw [look_some hk hm]
 rfl
theorem NM.look1 (h:NM e q w b L) {t:TypeId} (ht:Tryz.prog.underlying t=some (.map 37 e)) (he:Tryz.prog.underlying e=some (.int q)) (hz:(zeroValue e).run Tryz.prog w=.ok (.int q 0) w) {n:Nd} (hn:n.ok) :
  (Instr.lookup t (.map (some b)) n.val false).run Tryz.prog w=.ok (.int q ((look L n).getD 0)) w:=by
 obtain ⟨D,h1,h2⟩:=h
 obtain ⟨c,hrun,hc1,_⟩:=h1.lookup_int KN ht he hz (nd_key hn)
 have hc:c=(look L n).getD 0:=by
  rcases hl:look L n with _ | r
  ·have hno:Maps.has D n.key=false:=by
    rcases hh:Maps.has D n.key with _ | _
    ·rfl
    ·exact absurd ((h2.dom n hn).1 hh) (look_none.1 hl)
   rw [atKey_of_not_has hno] at hc1
   exact (dlit_inj hc1).symm
  ·rw [h2.val _ (look_mem hl)] at hc1
   exact (dlit_inj hc1).symm
 rw [← hc]
 exact hrun
theorem NM.entry (h:NM e q w b L) {t:TypeId} (ht:Tryz.prog.underlying t=some (.map 37 e)) (he:Tryz.prog.underlying e=some (.int q)) (hz:∀ u:World,(zeroValue e).run Tryz.prog u=.ok (.int q 0) u) (hlen:L.length < maxLen) {n:Nd} (hn:n.ok) :
  ∃ (v0:Value) (st:Nat) (w1:World),(Instr.mapEntry t (.map (some b)) n.val).run Tryz.prog w=.ok (.tuple #[v0,goInt st]) w1∧Frm (fun x=>x=b) w w1 ∧
   (∀ w2,w2.heap[b]?=w1.heap[b]? → (Instr.lookup t (.map (some b)) n.val false).run Tryz.prog w2=.ok (.int q ((look L n).getD 0)) w2) ∧
   ∀ (w2:World) (r:Int),(Lit.int q r).wf=true→w2.heap[b]?=w1.heap[b]? → ∃ w3,(Instr.entryStore t (.map (some b)) (goInt st) (.int q r)).run Tryz.prog w2=.ok () w3∧NM e q w3 b (putE L n r)∧Frm (fun x=>x=b) w2 w3:=by
 have hfr:∀ (u:World) (es:Array MapEntry) (clock:Nat) (o:Obj),u.heap[b]?=some (.map es clock)→Frm (fun x=>x=b) u (setBlock u b o):=by
  intro u es clock o hu
  refine ⟨rfl,rfl,rfl,?_,fun i _ hi=>heap_setBlock_other hu o hi⟩
  simp [setBlock]
 obtain ⟨D,hown,hrel⟩:=id h
 obtain ⟨es,clock,hb,F,hs,hD⟩:=hown
 obtain ⟨v0,st,es1,clock1,hrun,_,hst⟩:=entry_then_store KNL ht hz hb F (nd_key hn)
 have hb1:(setBlock w b (.map es1 clock1)).heap[b]?=some (.map es1 clock1):=heap_setBlock_same hb _
 refine ⟨v0,st,_,hrun,hfr w es clock _ hb,?_,?_⟩
 ·-- the look-up behind it
  have hN:∃ L',NM e q (setBlock w b (.map es1 clock1)) b L'∧(look L' n).getD 0=(look L n).getD 0:=by
   rcases KNL.find w (nd_key hn) es.toList F.keys with ⟨f1,_⟩ | ⟨j,e0,f1,f2,f3⟩
   ·have hr2:(Instr.mapEntry t (.map (some b)) n.val).run Tryz.prog w=.ok (.tuple #[.int q 0,goInt clock]) (setBlock w b (.map (es.push ⟨n.val,.int q 0,clock⟩) (clock+1))):=by
     simp [Instr.mapEntry,run_underlying ht,MapKept.run_getObj_map hb,KNL.check w false (nd_key hn),f1,hz,run_setObj_map _ hb,Result.andThen,setBlock]
    have hu2:(Instr.mapUpdate t (.map (some b)) n.val (.int q 0)).run Tryz.prog w=.ok () (setBlock w b (.map (es.push ⟨n.val,.int q 0,clock⟩) (clock+1))):=by
     simp [Instr.mapUpdate,run_underlying ht,MapKept.run_getObj_map hb,KNL.check w false (nd_key hn),f1,run_setObj_map _ hb,Result.andThen,setBlock]
    rw [hr2] at hrun
    injection hrun with _ hw
    obtain ⟨w',hu,hN⟩:=h.upd ht he hlen hn (r:=0) (wf0 q)
    rw [hu2] at hu
    injection hu with _ hu
    rw [← hw,hu]
    refine ⟨_,hN,?_⟩
    have hl1:(Instr.lookup t (.map (some b)) n.val false).run Tryz.prog w=.ok (.int q 0) w:=by
     simp [Instr.lookup,run_underlying ht,MapKept.run_getObj_map hb,KNL.check w es.isEmpty (nd_key hn),f1,hz,Result.andThen]
    rw [h.look1 ht he (hz w) hn] at hl1
    injection hl1 with hl1
    injection hl1 with _ hl1
    rw [look_put hrel.nd,hl1]
   ·have hj:es[j]?=some e0:=by simpa using f2
    have hsame:es.modify j (fun e=>{ e with key:=n.val })=es:=by
     apply Array.ext'
     rw [Array.toList_modify,modify_eq_set _ _ _ _ f2]
     have:({ e0 with key:=n.val }:MapEntry)=e0:=by rw [← f3]
     rw [this]
     exact WideElems.set_self _ _ _ f2
    have hr2:(Instr.mapEntry t (.map (some b)) n.val).run Tryz.prog w=.ok (.tuple #[e0.val,goInt e0.born]) (setBlock w b (.map es clock)):=by
     simp [Instr.mapEntry,run_underlying ht,MapKept.run_getObj_map hb,KNL.check w false (nd_key hn),f1,hj,f3,KNL.stays w (nd_key hn),hsame,run_setObj_map _ hb,Result.andThen,setBlock]
    rw [hr2] at hrun
    injection hrun with _ hw
    rw [← hw]
    exact ⟨L,h.of_heap ((heap_setBlock_same hb _).trans hb.symm),rfl⟩
  obtain ⟨L',hN,hl⟩:=hN
  intro w2 hw2
  rw [← hl]
  exact (hN.of_heap hw2).look1 ht he (hz w2) hn
 ·intro w2 r hr hw2
  rw [hb1] at hw2
  obtain ⟨es',clock',hs1,hs2⟩:=hst w2 (.int q r) hw2
  obtain ⟨w',hu,hN⟩:=h.upd ht he hlen hn hr
  rw [hs2] at hu
  injection hu with _ hu
  refine ⟨_,hs1,?_,hfr w2 es1 clock1 _ hw2⟩
  exact hN.of_heap ((heap_setBlock_same hw2 _).trans (by rw [← hu];exact (heap_setBlock_same hb _).symm))
end
def freshStep (k:KS) (l:List Nd) (n:Nd):List Nd:=if look k.L n=none∧n.lo≠n.hi then (if n∈l then l else l ++ [n]) else l
def candL (x:Int) (c:Crs):List Nd:=[⟨x,c.a00,c.a10⟩,⟨x,c.a01,c.a11⟩]
def freshL (k:KS) (x:Int) (cs:List Crs):List Nd:=(cs.flatMap (candL x)).foldl (freshStep k) []
theorem freshF_len (k:KS):∀ (l:List Nd) (s:List Nd),(l.foldl (freshStep k) s).length≤s.length+l.length:=by
 intro l
 induction l with
 | nil=>intro s;simp
 | cons q l ih =>
  intro s
  rw [List.foldl_cons]
  have:=ih (freshStep k s q)
  have h4:(freshStep k s q).length≤s.length+1:=by
   unfold freshStep
   split
   ·split <;> simp
   ·omega
  simp only [List.length_cons]
  omega
theorem freshL_len (k:KS) (x:Int) (cs:List Crs):(freshL k x cs).length≤2 * cs.length:=by
 have h6:=freshF_len k (cs.flatMap (candL x)) []
 have h7:(cs.flatMap (candL x)).length=2 * cs.length:=by
  clear h6
  induction cs with
  | nil=>rfl
  | cons q l ih=>rw [List.flatMap_cons,List.length_append,ih];simp [candL] <;> omega
 simp only [List.length_nil] at h6
 unfold freshL
 omega
structure CrsOk (c:Crs):Prop where
 p0:0≤c.a00∧c.a00 < 4294967296
 p1:0≤c.a01∧c.a01 < 4294967296
 p2:0≤c.a10∧c.a10 < 4294967296
 p3:0≤c.a11∧c.a11 < 4294967296
theorem zero_int (w:World):(zeroValue 3).run Tryz.prog w=.ok (.int .i64 0) w:=by kernel_rfl
structure Cnt (M:List Ent) (l:List Nd) (b:Nat):Prop where
 keys:keys M=l
 lo:∀ p∈M,0≤p.2∧p.2≤(b:Int)
theorem Cnt.look {M:List Ent} {l:List Nd} {b:Nat} (h:Cnt M l b) (n:Nd):0≤(look M n).getD 0∧(look M n).getD 0≤(b:Int):=by
 cases hl:Proofs.YtiomgckodmecbaaGreat.look M n with
 | none=>simp
 | some r=>exact h.lo _ (look_mem hl)
theorem Cnt.put {M:List Ent} {l:List Nd} {b:Nat} (h:Cnt M l b) (n:Nd):Cnt (putE M n ((Proofs.YtiomgckodmecbaaGreat.look M n).getD 0+1)) (if n∈l then l else l ++ [n]) (b+1):=by
 have hb:=h.look n
 refine ⟨by rw [keys_putE,h.keys],fun p hp=>?_⟩
 unfold putE at hp
 split at hp
 ·obtain ⟨q,hq,rfl⟩:=List.mem_map.1 hp
  have:=h.lo q hq
  split
  ·simp only;omega
  ·omega
 ·rcases List.mem_append.1 hp with hp | hp
  ·have:=h.lo p hp;omega
  ·simp at hp;subst hp;simp only;omega
section
variable {w:World} {kp:Nat} {k:KS} {a:KA}
theorem kfresh_any (h:KW w kp k a) (x:Nat) (hx:x < 64) (A:Option Addr) (C:Nat) (cs:List Crs) (hO:Go.Tk.Own w 147 8 Crs.cells A cs.length C cs) (hcs:∀ c∈cs,CrsOk c) (hlen:cs.length≤4000000) :
  Calls Tryz.prog 98 #[.pointer (some ⟨kp,0,none⟩),.int .i64 x,.slice A cs.length C] w fun e w'=>e=.returned (.int .i64 (freshL k x cs).length)∧Same w w':=by
 have hkl:=h.blk.lt
 have hfind:=fun (n:Nd) (hn:n.ok) w' (hw:Same w w')=>uqfind_any a.U k.n k.L n hn w' (h.same hw).ut
 have HF:=Lib.hid hfind
 have H:=Lib.hid h
 have HO:=Lib.hid hO
 have HCS:=Lib.hid hcs
 have hmm:=@run_makeMap Tryz.prog
 clear h hfind hO hcs
 go_enter Tryz.func98,Tryz.ntmps98
 go_wp2_with (fail)
 go_loopw [17] (fun i wr=>∃ n M,n≤cs.length∧i=.int .i64 n∧NM 3 .i64 wr w.heap.size M∧Cnt M (freshL k x (cs.take n)) (2 * n)∧Same w wr) (fun i _=>cs.length - (intOf i).toNat)
 case atStart=>exact ⟨0,[],by omega,rfl,NM.made _ _ _,⟨rfl,fun p hp=>by cases hp⟩,(Frm.refl _ _).alloc _⟩
 case round =>
  rename World=>wo
  obtain ⟨n,M,hn,rfl,hM,hC,hS⟩:=hrel
  have HM:=Lib.hid hM
  have HC:=Lib.hid hC
  have HS:=Lib.hid hS
  have hkk:=H.out.same hS
  have hkl':=hkk.blk.lt
  have c1:=hkk.c1
  clear hM hC hS hkk
  by_cases hlt:n < cs.length
  ·obtain ⟨c,hc⟩:∃ c,cs[n]?=some c:=⟨_,List.getElem?_eq_getElem hlt⟩
   have hrow:=HO.out.frm HS.out (fun _ _=>id)
   obtain ⟨sb,rfl,hsb,hcell⟩:=hrow.get Crs.cells_len hc
   have hcok:=HCS.out c (List.mem_of_getElem? hc)
   have hft:freshL k x (cs.take (n+1))=(candL x c).foldl (freshStep k) (freshL k x (cs.take n)):=by
    rw [List.take_add_one,hc]
    unfold freshL
    simp
   have HFT:=Lib.hid hft
   have HCOK:=Lib.hid hcok
   have s0:wo.cell? ⟨sb,n * 8,none⟩=some (.int .u32 c.r):=hcell 0 (by omega)
   have s1:wo.cell? ⟨sb,n * 8+1,none⟩=some (.int .i64 c.n.v):=hcell 1 (by omega)
   have s2:wo.cell? ⟨sb,n * 8+2,none⟩=some (.int .u32 c.n.lo):=hcell 2 (by omega)
   have s3:wo.cell? ⟨sb,n * 8+3,none⟩=some (.int .u32 c.n.hi):=hcell 3 (by omega)
   have s4:wo.cell? ⟨sb,n * 8+4,none⟩=some (.int .u32 c.a00):=hcell 4 (by omega)
   have s5:wo.cell? ⟨sb,n * 8+5,none⟩=some (.int .u32 c.a01):=hcell 5 (by omega)
   have s6:wo.cell? ⟨sb,n * 8+6,none⟩=some (.int .u32 c.a10):=hcell 6 (by omega)
   have s7:wo.cell? ⟨sb,n * 8+7,none⟩=some (.int .u32 c.a11):=hcell 7 (by omega)
   have hI:(n:Int) < (cs.length:Int):=by omega
   clear hc hrow hcell hcok hft
   go_wp2_with (fail)
   refine wp_world fun w2 hw2=>?_
   have hrow:=Go.Tk.Own.lit (wo.alloc (.cells #[.int .u32 c.r,.int .i64 c.n.v,.int .u32 c.n.lo,.int .u32 c.n.hi,.int .u32 c.a00,.int .u32 c.a01,.int .u32 c.a10,.int .u32 c.a11] 147)) 37 Nd.cells (fun _=>rfl) (m:=3) (candL x c) (by simp [maxLen,candL]) (cs:=#[.int .i64 x,.int .u32 c.a00,.int .u32 c.a10,.int .i64 x,.int .u32 c.a01,.int .u32 c.a11]) (by simp [candL,Nd.cells])
   have hsz:(wo.alloc (.cells #[.int .u32 c.r,.int .i64 c.n.v,.int .u32 c.n.lo,.int .u32 c.n.hi,.int .u32 c.a00,.int .u32 c.a01,.int .u32 c.a10,.int .u32 c.a11] 147)).heap.size=wo.heap.size+1:=by simp
   rw [hsz,← hw2] at hrow
   have hs2:Same wo w2:=by rw [hw2];exact ((Frm.refl _ _).alloc _).alloc _
   have hml:=HM.out.lt
   have HROW:=Lib.hid hrow
   have HS2:=Lib.hid hs2
   have HL:Hid ((candL (x:Int) c).length=2):=Lib.hid rfl
   have hnok:∀ nd∈candL (x:Int) c,nd.ok:=by
    intro nd hnd
    obtain ⟨p0,p1,p2,p3⟩:=HCOK.out
    simp only [candL,List.mem_cons,List.not_mem_nil,or_false] at hnd
    rcases hnd with rfl | rfl
    ·exact Nd.ok_of (by simp) (by simp <;> omega) p0.1 p0.2 p2.1 p2.2
    ·exact Nd.ok_of (by simp) (by simp <;> omega) p1.1 p1.2 p3.1 p3.2
   have HNOK:=Lib.hid hnok
   obtain ⟨nds,hnds⟩:∃ nds,candL (x:Int) c=nds:=⟨_,rfl⟩
   rw [hnds] at HROW HL HNOK HFT
   clear hw2 hrow hsz hs2 hnds hnok s0 s1 s2 s3 s4 s5 s6 s7 HCOK c1 hkl'
   go_loopw [35] (fun j wq=>∃ (m:Nat) (M':List Ent),m≤2∧j=.int .i64 m∧NM 3 .i64 wq w.heap.size M'∧Cnt M' ((nds.take m).foldl (freshStep k) (freshL k x (cs.take n))) (2 * n+m)∧Same w wq∧Go.Tk.Own wq 37 3 Nd.cells (some ⟨wo.heap.size+1,0,none⟩) nds.length nds.length nds∧wo.heap.size+1 < wq.heap.size) (fun j _=>2 - (intOf j).toNat)
   case atStart =>
    refine ⟨0,M,by omega,rfl,HM.out.frm HS2.out id,HC.out,HS.out.trans HS2.out (fun _ _ h=>h),HROW.out,?_⟩
    have:=HROW.out.form (by have:=HL.out;omega)
    obtain ⟨_,h1,h2⟩:=this
    injection h1 with h1
    injection h1 with h1
    omega
   case round =>
    rename World=>wq
    obtain ⟨m,M',hm,rfl,hM',hC',hS',hrow',hgt⟩:=hrel
    have HM':=Lib.hid hM'
    have HC':=Lib.hid hC'
    have HS':=Lib.hid hS'
    have hkk:=H.out.same hS'
    have hkl':=hkk.blk.lt
    have c1:=hkk.c1
    have HR':=Lib.hid hrow'
    clear hM' hC' hS' hkk hrow'
    by_cases hm2:m < 2
    ·obtain ⟨nd,hnd⟩:∃ nd,nds[m]?=some nd:=⟨_,List.getElem?_eq_getElem (by have:=HL.out;omega)⟩
     have hok:=HNOK.out nd (List.mem_of_getElem? hnd)
     have hstep:(nds.take (m+1)).foldl (freshStep k) (freshL k x (cs.take n))=freshStep k ((nds.take m).foldl (freshStep k) (freshL k x (cs.take n))) nd:=by
      rw [List.take_add_one,hnd]
      simp
     obtain ⟨sb2,he,_,hcell⟩:=HR'.out.get (m:=3) (f:=Nd.cells) (fun _=>rfl) hnd
     injection he with he
     injection he with he
     subst he
     have s0:wq.cell? ⟨wo.heap.size+1,m * 3,none⟩=some (.int .i64 nd.v):=hcell 0 (by omega)
     have s1:wq.cell? ⟨wo.heap.size+1,m * 3+1,none⟩=some (.int .u32 nd.lo):=hcell 1 (by omega)
     have s2:wq.cell? ⟨wo.heap.size+1,m * 3+2,none⟩=some (.int .u32 nd.hi):=hcell 2 (by omega)
     have HST:=Lib.hid hstep
     have HOK:=Lib.hid hok
     have hmI:(m:Int) < 2:=by omega
     clear hnd hstep hok hcell
     go_upto_region 8 with fail
     refine wp_world fun w3 hw3=>?_
     have hX:=Blk.new wq 37 #[.int .i64 nd.v,.int .u32 nd.lo,.int .u32 nd.hi]
     have hs3:Same wq w3:=by rw [hw3];exact (Frm.refl _ _).alloc _
     rw [← hw3] at hX
     clear hw3 s0 s1 s2
     have hk3:=H.out.same (HS'.out.trans hs3 (fun _ _ h=>h))
     have c1:=hk3.c1
     have hkl3:=hk3.blk.lt
     have x0:=hX.cell 0
     have x1:=hX.cell 1
     have x2:=hX.cell 2
     have hxl:=hX.lt
     simp at x0 x1 x2
     have HX:=Lib.hid hX
     have HS3:=Lib.hid hs3
     clear hX hs3 hk3
     refine wp_phS (fun _=>False) [([0,1,2,3,4,5],6),([7,8,9,10],11)] (by kernel_rfl) (by kernel_rfl) ?_
     simp only [wpPh,pick,List.map_cons,List.map_nil,List.getD_cons_zero,List.getD_cons_succ]
     repeat (any_goals (first | go_big_quiet_step (fail) | quiet_step (fail)))
     refine wpQuiet_nil ?_
     refine effStep_plain rfl fun K hK=>?_
     go_simp
     have hsd:Same w w3.drew:=(HS'.out.trans HS3.out (fun _ _ h=>h)).drew
     refine (HF.out nd HOK.out _ hsd).mono ?_
     rintro e w4 ⟨rfl,hs4⟩
     have hs4':Same w3 w4:=(Frm.refl _ _).drew.trans hs4 (fun _ _ h=>h)
     refine hK _ _ (Lat.mk_ hs4') ?_
     clear hK K hs4 hsd
     repeat (any_goals (first | go_big_quiet_step (fail) | quiet_step (fail)))
     refine wpQuiet_nil ?_
     have hX4:=HX.out.frm hs4' id
     have x0:=hX4.cell 0
     have x1:=hX4.cell 1
     have x2:=hX4.cell 2
     have hxl4:=hX4.lt
     simp at x0 x1 x2
     have HX4:=Lib.hid hX4
     have HS4:=Lib.hid (HS3.out.trans hs4' (fun _ _ h=>h))
     clear hX4 hs4' HX HS3
     obtain ⟨l,hl⟩:∃ l,look k.L nd=l:=⟨_,rfl⟩
     rw [hl]
     have HLK:=Lib.hid hl
     clear hl
     cases l with
     | some r =>
      go_wp2
      go_roundw
      case rel =>
       have hC2:=HC'.out
       have he:(nds.take (m+1)).foldl (freshStep k) (freshL k x (cs.take n))=(nds.take m).foldl (freshStep k) (freshL k x (cs.take n)):=by
        rw [HST.out]
        unfold freshStep
        rw [if_neg (by rw [HLK.out];simp)]
       refine ⟨m+1,M',by omega,by go_num,HM'.out.frm HS4.out id,⟨by rw [he];exact hC2.keys,fun p hp=>by have:=hC2.lo p hp;omega⟩,HS'.out.trans HS4.out (fun _ _ h=>h),HR'.out.frm HS4.out (fun _ _=>id),Nat.lt_of_lt_of_le hgt HS4.out.size⟩
      case measure=>simp [intOf] <;> omega
     | none =>
      by_cases hee:nd.lo=nd.hi
      ·have heB:(nd.lo != nd.hi)=false:=by simpa using hee
       have HEE:=Lib.hid hee
       clear hee
       go_wp2
       go_roundw
       case rel =>
        have hC2:=HC'.out
        have he:(nds.take (m+1)).foldl (freshStep k) (freshL k x (cs.take n))=(nds.take m).foldl (freshStep k) (freshL k x (cs.take n)):=by
         rw [HST.out]
         unfold freshStep
         rw [if_neg (by rw [HLK.out];simp;exact HEE.out)]
        refine ⟨m+1,M',by omega,by go_num,HM'.out.frm HS4.out id,⟨by rw [he];exact hC2.keys,fun p hp=>by have:=hC2.lo p hp;omega⟩,HS'.out.trans HS4.out (fun _ _ h=>h),HR'.out.frm HS4.out (fun _ _=>id),Nat.lt_of_lt_of_le hgt HS4.out.size⟩
       case measure=>simp [intOf] <;> omega
      ·have heB:(nd.lo != nd.hi)=true:=by simpa using hee
       have HEE:=Lib.hid hee
       clear hee
       go_upto_region 10 with fail
       have hz:=zero_int
       have hMw:NM 3 .i64 w4.drew w.heap.size M':=(HM'.out.frm HS4.out id).of_heap rfl
       have hMl:M'.length < maxLen:=by
        have h1:=HC'.out.keys
        have h2:(keys M').length=M'.length:=by simp [keys]
        have h3:∀ (l:List Nd) (s:List Nd),(l.foldl (freshStep k) s).length≤s.length+l.length:=by
         intro l
         induction l with
         | nil=>intro s;simp
         | cons q l ih =>
          intro s
          rw [List.foldl_cons]
          have:=ih (freshStep k s q)
          have h4:(freshStep k s q).length≤s.length+1:=by
           unfold freshStep
           split
           ·split <;> simp
           ·omega
          simp only [List.length_cons]
          omega
        have h5:=h3 (nds.take m) (freshL k x (cs.take n))
        have h6:=h3 ((cs.take n).flatMap (candL x)) []
        have h7:((cs.take n).flatMap (candL (x:Int))).length=(cs.take n).length * 2:=by
         clear h1 h2 h3 h5 h6
         induction cs.take n with
         | nil=>rfl
         | cons q l ih=>rw [List.flatMap_cons,List.length_append,ih];simp [candL] <;> omega
        rw [← h1,h2,List.length_take] at h5
        rw [List.length_take] at h7
        have h8:freshL k x (cs.take n)=((cs.take n).flatMap (candL x)).foldl (freshStep k) []:=rfl
        rw [← h8] at h6
        simp only [List.length_nil] at h6
        unfold maxLen
        omega
       obtain ⟨v0,st,w5,hent,hf5,hlook,hst⟩:=hMw.entry Tryz.underlying171 Tryz.underlying3 zero_int hMl HOK.out
       have hlk:=HC'.out.look nd
       obtain ⟨cv,hcv⟩:∃ cv,(look M' nd).getD 0=cv:=⟨_,rfl⟩
       have hlk0:=hMw.look1 Tryz.underlying171 Tryz.underlying3 (zero_int _) HOK.out
       rw [hcv] at hlk0 hlook hlk
       have hwf:(Lit.int .i64 (cv+1)).wf=true:=by simp [Lit.wf,IntKind.min,IntKind.max,IntKind.signed,IntKind.bits] <;> omega
       have hlk1:=hlook w5 rfl
       have HST6:=Lib.hid hst
       have HF5:=Lib.hid hf5
       have HCV:=Lib.hid hcv
       obtain ⟨cv0,cv1⟩:=hlk
       unfold Nd.val at hlk0 hlk1 hent
       clear hst hf5 hcv hlook hMw hMl
       have hXm:¬ (wq.heap.size=w.heap.size):=by have:=HM'.out.lt;omega
       refine wp_tS (fun b=>b=w.heap.size) (.q [0,1] (.fork 2 (.q [3] (.step 4 (.q [5] (.last 6)))) 4 (.q [5] (.step 2 (.q [3] (.last 6)))))) (by kernel_rfl) (by kernel_rfl) ?_
       simp only [wpT,pick,List.map_cons,List.map_nil,List.getD_cons_zero,List.getD_cons_succ]
       repeat (any_goals (first | go_big_quiet_step (fail) | quiet_step (fail)))
       refine wpQuiet_nil ?_
       refine ⟨?_,?_⟩
       ·refine effStep_plain rfl fun K hK=>?_
        go_simp
        refine hK _ _ (Lat.mk_ ((Frm.refl _ _).drew)) ?_
        clear hK K
        repeat (any_goals (first | go_big_quiet_step (fail) | quiet_step (fail)))
        refine wpQuiet_nil ?_
        refine effStep_plain rfl fun K hK=>?_
        go_simp
        refine hK _ _ (Lat.mk_ ((Frm.refl _ _).drew.trans HF5.out (fun _ _ h=>h))) ?_
        clear hK K
        repeat (any_goals (first | go_big_quiet_step (fail) | quiet_step (fail)))
        refine wpQuiet_nil ?_
        obtain ⟨w6,hst6,hN6,hf6⟩:=HST6.out w5 (cv+1) hwf rfl
        unfold goInt at hst6
        refine wpList_plain rfl fun K hK=>?_
        go_simp
        refine hK _ _ ?_
        clear hK K
        have HN6:=Lib.hid hN6
        have HF6:=Lib.hid (HF5.out.trans hf6 (fun _ _ h=>h))
        clear hN6 hf6 hst6
        go_wp2
        go_roundw
        case rel =>
         have hC2:=HC'.out
         have he:(nds.take (m+1)).foldl (freshStep k) (freshL k x (cs.take n))=(if nd∈((nds.take m).foldl (freshStep k) (freshL k x (cs.take n))) then ((nds.take m).foldl (freshStep k) (freshL k x (cs.take n))) else ((nds.take m).foldl (freshStep k) (freshL k x (cs.take n))) ++ [nd]):=by
          rw [HST.out]
          unfold freshStep
          rw [if_pos ⟨HLK.out,HEE.out⟩]
         have hC3:=hC2.put nd
         rw [HCV.out,← he] at hC3
         have hwx:Same w w4.drew:=(HS'.out.trans HS4.out (fun _ _ h=>h)).drew
         have hfS:Same w w6:=hwx.trans HF6.out (fun i hi h=>by omega)
         refine ⟨m+1,_,by omega,by go_num,HN6.out,hC3,hfS,?_,?_⟩
         ·have h1:=HR'.out.frm HS4.out (fun _ _=>id)
          refine Go.Tk.Own.frm (w:=w4.drew) (S:=fun x=>x=w.heap.size) (h1.frm ((Frm.refl (fun _=>False) _).drew) (fun _ _=>id)) HF6.out ?_
          intro ad had
          injection had with had
          subst had
          have:=HM.out.lt
          simp only
          omega
         ·have h1:=HS4.out.size
          have h2:=HF6.out.size
          have h3:w4.drew.heap.size=w4.heap.size:=rfl
          omega
        case measure=>simp [intOf] <;> omega
       ·refine effStep_plain rfl fun K hK=>?_
        go_simp
        refine hK _ _ (Lat.mk_ ((Frm.refl _ _).drew.trans HF5.out (fun _ _ h=>h))) ?_
        clear hK K
        repeat (any_goals (first | go_big_quiet_step (fail) | quiet_step (fail)))
        refine wpQuiet_nil ?_
        refine effStep_plain rfl fun K hK=>?_
        go_simp
        refine hK _ _ (Lat.mk_ ((Frm.refl _ _).drew.trans HF5.out (fun _ _ h=>h))) ?_
        clear hK K
        repeat (any_goals (first | go_big_quiet_step (fail) | quiet_step (fail)))
        refine wpQuiet_nil ?_
        obtain ⟨w6,hst6,hN6,hf6⟩:=HST6.out w5 (cv+1) hwf rfl
        unfold goInt at hst6
        refine wpList_plain rfl fun K hK=>?_
        go_simp
        refine hK _ _ ?_
        clear hK K
        have HN6:=Lib.hid hN6
        have HF6:=Lib.hid (HF5.out.trans hf6 (fun _ _ h=>h))
        clear hN6 hf6 hst6
        go_wp2
        go_roundw
        case rel =>
         have hC2:=HC'.out
         have he:(nds.take (m+1)).foldl (freshStep k) (freshL k x (cs.take n))=(if nd∈((nds.take m).foldl (freshStep k) (freshL k x (cs.take n))) then ((nds.take m).foldl (freshStep k) (freshL k x (cs.take n))) else ((nds.take m).foldl (freshStep k) (freshL k x (cs.take n))) ++ [nd]):=by
          rw [HST.out]
          unfold freshStep
          rw [if_pos ⟨HLK.out,HEE.out⟩]
         have hC3:=hC2.put nd
         rw [HCV.out,← he] at hC3
         have hwx:Same w w4.drew:=(HS'.out.trans HS4.out (fun _ _ h=>h)).drew
         have hfS:Same w w6:=hwx.trans HF6.out (fun i hi h=>by omega)
         refine ⟨m+1,_,by omega,by go_num,HN6.out,hC3,hfS,?_,?_⟩
         ·have h1:=HR'.out.frm HS4.out (fun _ _=>id)
          refine Go.Tk.Own.frm (w:=w4.drew) (S:=fun x=>x=w.heap.size) (h1.frm ((Frm.refl (fun _=>False) _).drew) (fun _ _=>id)) HF6.out ?_
          intro ad had
          injection had with had
          subst had
          have:=HM.out.lt
          simp only
          omega
         ·have h1:=HS4.out.size
          have h2:=HF6.out.size
          have h3:w4.drew.heap.size=w4.heap.size:=rfl
          omega
        case measure=>simp [intOf] <;> omega
    ·obtain rfl:m=2:=by omega
     have hmI:¬ (2:Int) < 2:=by omega
     go_wp2
     go_roundw
     case rel =>
      have hC2:=HC'.out
      rw [show nds.take 2=nds from List.take_of_length_le (by have:=HL.out;omega),← HFT.out] at hC2
      exact ⟨n+1,M',by omega,by go_num,HM'.out,hC2,HS'.out⟩
     case measure=>simp [intOf] <;> omega
  ·obtain rfl:n=cs.length:=by omega
   have hI:¬ ((cs.length:Nat):Int) < (cs.length:Int):=by omega
   have hM:=HM.out
   go_upto_region 13 with fail
   refine wp_read 1 ?_
   simp only [List.take_succ_cons,List.take_zero,List.drop_succ_cons,List.drop_zero]
   repeat (any_goals (first | go_big_quiet_step (fail) | quiet_step (fail)))
   refine wpQuiet_nil ?_
   refine wpList_plain rfl fun K hK=>?_
   refine Own.nmLen (.tmp 66) _ rfl Tryz.underlying171 rfl hM ?_
   refine hK _ _ ?_
   clear hK K hM
   go_wp2
   go_ret
   have hC2:=HC.out.keys
   rw [List.take_length] at hC2
   refine ⟨?_,HS.out⟩
   rw [← hC2]
   simp [keys]
end
def crsT (k:KS) (x y:Int):List Crs:=crsIn k y (rising (ofv k.L x.toNat))
def turn1 (k:KS) (cs:List Crs):KS:=cs.foldl (fun k c=>remK k c.n) k
def turnA (k:KS) (x:Int) (c:Crs):KS:=useK (getK k ⟨x,c.a00,c.a10⟩).2 (getK k ⟨x,c.a00,c.a10⟩).1
def turnB (k:KS) (x:Int) (c:Crs):KS:=useK (getK (turnA k x c) ⟨x,c.a01,c.a11⟩).2 (getK (turnA k x c) ⟨x,c.a01,c.a11⟩).1
def turnN (k:KS) (x y:Int) (c:Crs):Nd:=⟨y,(getK k ⟨x,c.a00,c.a10⟩).1,(getK (turnA k x c) ⟨x,c.a01,c.a11⟩).1⟩
def turnC (x y:Int) (k:KS) (c:Crs):KS:=addK (setK (turnB k x c) c.r (turnN k x y c)) (turnN k x y c) c.r
def turn2 (k:KS) (x y:Int) (cs:List Crs):KS:=cs.foldl (turnC x y) k
def turn3 (k:KS) (cs:List Crs):KS:=cs.foldl (fun k c=>relK (relK k c.n.lo) c.n.hi) k
def swapK (k:KS) (l:Nat) (x y:Int):KS:={ k with ord:=(k.ord.set l y).set (l+1) x,lev:=(k.lev.set x.toNat (l+1)).set y.toNat l }
def turnR (k:KS) (x y:Int):Bool:=decide (k.ac+(freshL k x (crsT k x y)).length≤k.c)
def turnT (k:KS) (l:Nat) (x y:Int):KS:=swapK (turn3 (turn2 (turn1 k (crsT k x y)) x y (crsT k x y)) (crsT k x y)) l x y
def turnK (k:KS) (l:Nat):Bool × KS :=
 if turnR k (k.ord.getD l 0) (k.ord.getD (l+1) 0) then (true,turnT k l (k.ord.getD l 0) (k.ord.getD (l+1) 0)) else (false,k)
def UseOk (k:KS) (r:Int):Prop:=0≤r∧r < 4294967296∧(1 < r→∃ u:Int,k.us[r.toNat]?=some u∧0≤u∧u < 100000000)
structure StepOk (k:KS) (x y:Int) (c:Crs):Prop where
 b1:∃ ext X,Bk k ext X
 n1:NdOk k ⟨x,c.a00,c.a10⟩
 r1:c.a00≠c.a10→look k.L ⟨x,c.a00,c.a10⟩=none→k.ac < k.c
 u1:UseOk (getK k ⟨x,c.a00,c.a10⟩).2 (getK k ⟨x,c.a00,c.a10⟩).1
 b2:∃ ext X,Bk (turnA k x c) ext X
 n2:NdOk (turnA k x c) ⟨x,c.a01,c.a11⟩
 r2:c.a01≠c.a11→look (turnA k x c).L ⟨x,c.a01,c.a11⟩=none→(turnA k x c).ac < (turnA k x c).c
 u2:UseOk (getK (turnA k x c) ⟨x,c.a01,c.a11⟩).2 (getK (turnA k x c) ⟨x,c.a01,c.a11⟩).1
 b3:∃ ext X,Bk (turnB k x c) ext X
 n3:NdOk (turnB k x c) (turnN k x y c)
 m3:∃ (m:Nat) (n0:Nd),c.r=m∧2≤m∧(turnB k x c).ls[m]?=some ⟨n0,true,0⟩
structure TurnOk (k:KS) (l x y:Nat):Prop where
 hx:k.ord[l]?=some (x:Int)
 hy:k.ord[l+1]?=some (y:Int)
 xn:x < k.n
 yn:y < k.n
 xy:x≠y
 n64:k.n≤64
 LL:k.L.length≤2000000
 c1:k.c≤4000000
 rin:∀ r∈rising (ofv k.L x),RefIn k r
 cok:∀ c∈crsT k x y,CrsOk c∧c.n.ok∧0≤c.n.lo∧c.n.lo < 4294967296∧0≤c.n.hi∧c.n.hi < 4294967296
 s2:turnR k x y=true→∀ i c,(crsT k x y)[i]?=some c→StepOk (turn2 (turn1 k (crsT k x y)) x y ((crsT k x y).take i)) x y c
 s3:turnR k x y=true→∀ i c,(crsT k x y)[i]?=some c→(∃ ext,Bk (turn3 (turn2 (turn1 k (crsT k x y)) x y (crsT k x y)) ((crsT k x y).take i)) (c.n.lo :: ext) []) ∧
  ∃ ext,Bk (relK (turn3 (turn2 (turn1 k (crsT k x y)) x y (crsT k x y)) ((crsT k x y).take i)) c.n.lo) (c.n.hi :: ext) []
 lx:x < k.lev.length
 ly:y < k.lev.length
section
variable {w:World} {kp:Nat} {k:KS} {a:KA} {ext:List Int} {X:List Ent} {n:Nd}
theorem useK_n (k:KS) (r:Int):(useK k r).n=k.n:=(useK_rest (k:=k) (r:=r)).1
theorem takeK_n (k:KS) (n:Nd):(takeK k n).n=k.n:=by rw [takeK_eq];rfl
theorem getK_n (k:KS) (n:Nd):(getK k n).2.n=k.n:=by
 unfold getK
 split
 ·rfl
 ·cases look k.L n with
  | none=>exact takeK_n k n
  | some r=>rfl
theorem turnA_n (k:KS) (x:Int) (c:Crs):(turnA k x c).n=k.n:=by unfold turnA;rw [useK_n,getK_n]
theorem turnB_n (k:KS) (x:Int) (c:Crs):(turnB k x c).n=k.n:=by unfold turnB;rw [useK_n,getK_n,turnA_n]
theorem turnC_n (x y:Int) (k:KS) (c:Crs):(turnC x y k c).n=k.n:=turnB_n k x c
theorem turn1_n (cs:List Crs):∀ (k:KS),(turn1 k cs).n=k.n:=by
 induction cs with
 | nil=>intro k;rfl
 | cons c cs ih=>intro k;exact ih (remK k c.n)
theorem turn2_n (x y:Int) (cs:List Crs):∀ (k:KS),(turn2 k x y cs).n=k.n:=by
 induction cs with
 | nil=>intro k;rfl
 | cons c cs ih=>intro k;exact (ih (turnC x y k c)).trans (turnC_n x y k c)
theorem relF_n:∀ (f:Nat) (k:KS) (st:List Int),(relF f k st).n=k.n
 | 0,_,_=>rfl
 | _+1,_,[]=>rfl
 | f+1,k,r :: st=>by
  unfold relF
  split
  ·exact relF_n f k st
  ·split
   ·exact relF_n f _ st
   ·exact relF_n f _ _
theorem turn3_n (cs:List Crs):∀ (k:KS),(turn3 k cs).n=k.n:=by
 induction cs with
 | nil=>intro k;rfl
 | cons c cs ih=>intro k;exact (ih _).trans ((relF_n _ _ _).trans (relF_n _ _ _))
def kst (k:KS):Nat × Nat × List Int × List Int × List Int:=(k.n,k.c,k.ord,k.lev,k.tr)
theorem useK_kst (k:KS) (r:Int):kst (useK k r)=kst k:=by unfold useK;split <;> rfl
theorem takeK_kst (k:KS) (n:Nd):kst (takeK k n)=kst k:=by rw [takeK_eq];rfl
theorem getK_kst (k:KS) (n:Nd):kst (getK k n).2=kst k:=by
 unfold getK
 split
 ·rfl
 ·cases look k.L n with
  | none=>exact takeK_kst k n
  | some r=>rfl
theorem turnC_kst (x y:Int) (k:KS) (c:Crs):kst (turnC x y k c)=kst k:=by
 show kst (turnB k x c)=kst k
 unfold turnB
 rw [useK_kst,getK_kst]
 unfold turnA
 rw [useK_kst,getK_kst]
theorem relF_kst:∀ (f:Nat) (k:KS) (st:List Int),kst (relF f k st)=kst k
 | 0,_,_=>rfl
 | _+1,_,[]=>rfl
 | f+1,k,r :: st=>by
  unfold relF
  split
  ·exact relF_kst f k st
  ·split
   ·exact relF_kst f _ st
   ·exact relF_kst f _ _
theorem fold_kst {α:Type} (f:KS→α→KS) (h:∀ k c,kst (f k c)=kst k):∀ (cs:List α) (k:KS),kst (cs.foldl f k)=kst k
 | [],_=>rfl
 | c :: cs,k=>(fold_kst f h cs (f k c)).trans (h k c)
theorem turn1_kst (k:KS) (cs:List Crs):kst (turn1 k cs)=kst k:=fold_kst (fun k (c:Crs)=>remK k c.n) (fun _ _=>rfl) cs k
theorem turn2_kst (k:KS) (x y:Int) (cs:List Crs):kst (turn2 k x y cs)=kst k:=fold_kst _ (turnC_kst x y) cs k
theorem turn3_kst (k:KS) (cs:List Crs):kst (turn3 k cs)=kst k:=fold_kst (fun k (c:Crs)=>relK (relK k c.n.lo) c.n.hi) (fun _ _=>(relF_kst _ _ _).trans (relF_kst _ _ _)) cs k
theorem foldl_take {α β:Type} (f:β→α→β) (s:β) {l:List α} {i:Nat} {c:α} (h:l[i]?=some c):(l.take (i+1)).foldl f s=f ((l.take i).foldl f s) c:=by
 rw [List.take_add_one,h]
 simp
theorem kturn_any (h:KW w kp k a) (l x y:Nat) (hl:l < 4000000) (ok:TurnOk k l x y) :
  Calls Tryz.prog 63 #[.pointer (some ⟨kp,0,none⟩),.int .i64 l] w fun e w'=>e=.returned (.bool (turnK k l).1)∧∃ a',KW w' kp (turnK k l).2 a'∧KGo k.n kp w a w' a':=by
 have heK:turnK k l=if turnR k x y then (true,turnT k l x y) else (false,k):=by
  unfold turnK
  have h1:k.ord.getD l 0=x:=by rw [List.getD_eq_getElem?_getD,ok.hx];rfl
  have h2:k.ord.getD (l+1) 0=y:=by rw [List.getD_eq_getElem?_getD,ok.hy];rfl
  rw [h1,h2]
 obtain ⟨b,hb⟩:∃ b,turnR k x y=b:=⟨_,rfl⟩
 rw [heK,hb]
 clear heK
 have hkl:=h.blk.lt
 have c5:=h.c5
 have HOK:=Lib.hid ok
 have hx64:x < 64:=by have:=ok.xn;have:=ok.n64;omega
 have hy64:y < 64:=by have:=ok.yn;have:=ok.n64;omega
 have hol:l+1 < k.ord.length:=lt_of_get ok.hy
 obtain ⟨ob,ho1,hobl,ho2⟩:=h.ord.at1 ok.hx
 obtain ⟨ob2,ho3,_,ho4⟩:=h.ord.at1 ok.hy
 rw [ho1] at ho3
 injection ho3 with ho3
 injection ho3 with ho3
 subst ho3
 rw [ho1] at c5
 have hoI:(l:Int) < k.ord.length:=by omega
 have hoI2:(l:Int)+1 < k.ord.length:=by omega
 have hlw:IntKind.i64.wrap ((l:Int)+1)=l+1:=IntWalk.i64_in _ (by omega)
 have hl0:(0:Int)≤(l:Int)+1:=by omega
 have hlt:((l:Int)+1).toNat=l+1:=by omega
 have hcr:=fun w' (hw:Same w w')=>kcrossings_any (h.same hw) x y ok.xn ok.rin (by have:=ok.LL;omega)
 have hfr:=fun w' (hw:Same w w') A C (hO:Go.Tk.Own w' 147 8 Crs.cells A (crsT k x y).length C (crsT k x y)) (hlen:(crsT k x y).length≤4000000)=>kfresh_any (h.same hw) x hx64 A C (crsT k x y) hO (fun c hc=>(ok.cok c hc).1) hlen
 have hrm:=fun w' (hw:Same w w') (m:Nat) (hm:m≤4000000)=>kroom_any (h.same hw) m hm
 have hct:crsIn k y (rising (ofv k.L x))=crsT k x y:=by unfold crsT;rw [Int.toNat_natCast]
 rw [hct] at hcr
 have hcl:(crsT k x y).length≤2000000:=by
  rw [← hct]
  have h1:(crsIn k y (rising (ofv k.L x))).length≤(rising (ofv k.L x)).length:=by unfold crsIn;rw [List.length_map];exact List.length_filter_le _ _
  have h2:(ofv k.L x).length≤k.L.length:=List.length_filter_le _ _
  have h3:=rising_len (ofv k.L x)
  have h4:=ok.LL
  omega
 have hRm:b=decide (k.ac+(freshL k x (crsT k x y)).length≤k.c):=hb.symm
 have HBB:=Lib.hid hb
 clear hb
 have hfl:(freshL k x (crsT k x y)).length≤2 * (crsT k x y).length:=freshL_len _ _ _
 generalize hcs:crsT k x y=cs at *
 have HC:=Lib.hid hcr
 have HFR:=Lib.hid hfr
 have HRM:=Lib.hid hrm
 have HRR:=Lib.hid hRm
 have HCS:=Lib.hid hcs
 have H:=Lib.hid h
 have HX:=Lib.hid ok.hx
 clear h hcr hfr hrm hRm hct hcs ok
 replace ho2:w.cell? ⟨ob,l,none⟩=some (.int .i64 x):=ho2
 replace ho4:w.cell? ⟨ob,l+1,none⟩=some (.int .i64 y):=ho4
 have HO1:=Lib.hid ho1
 clear ho1
 go_enter Tryz.func63,Tryz.ntmps63
 go_wp2_with (fail)
 refine wp_quiet (by kernel_rfl) (by kernel_rfl) ?_
 repeat (any_goals (first | go_big_quiet_step (fail) | quiet_step (fail)))
 refine wpQuiet_nil ?_
 rintro _ ⟨qq,rfl⟩
 have hs1:Same w (more w qq):=more_same _ _
 generalize more w qq=w1 at *
 have HS1:=Lib.hid hs1
 clear hs1 c5 ho2 ho4 hoI hoI2 hobl hlw hl0 hlt hkl
 go_wp2_with (fail)
 refine (HC.out _ HS1.out).mono ?_
 rintro e w2 ⟨A,C,rfl,hO,hFr,hs2⟩
 have HS2:=Lib.hid (HS1.out.trans hs2 (fun _ _ h=>h))
 have HO:=Lib.hid hO
 have HFA:Hid (∀ b,rowOf A b→¬ KFp k.n kp a b∧w.heap.size≤b):=Lib.hid (by
  intro b hb
  have h1:=hFr b hb
  have h2:=HS1.out.size
  exact ⟨fun hk=>by have:=H.out.lt hk;omega,by omega⟩)
 clear hs2 hO hFr HC HS1
 go_wp2_with (fail)
 have hf2:∀ w',Same w2 w'→Calls Tryz.prog 98 #[.pointer (some ⟨kp,0,none⟩),.int .i64 x,.slice A cs.length C] w' fun e w''=>e=.returned (.int .i64 (freshL k x cs).length)∧Same w' w'' :=
  fun w' hw=>HFR.out w' (HS2.out.trans hw (fun _ _ h=>h)) A C (HO.out.frm hw (fun _ _=>id)) (by omega)
 have hr2:∀ w',Same w2 w'→Calls Tryz.prog 57 #[.pointer (some ⟨kp,0,none⟩),.int .i64 (freshL k x cs).length] w' fun e w''=>e=.returned (.bool (decide (k.ac+(freshL k x cs).length≤k.c)))∧Same w' w'' :=
  fun w' hw=>HRM.out w' (HS2.out.trans hw (fun _ _ h=>h)) _ (by omega)
 rw [← HRR.out] at hr2
 have HF2:=Lib.hid hf2
 have HR2:=Lib.hid hr2
 clear hf2 hr2 HFR HRM
 have hkl:kp < w2.heap.size:=(H.out.same HS2.out).blk.lt
 refine wp_quiet (by kernel_rfl) (by kernel_rfl) ?_
 repeat (any_goals (first | go_big_quiet_step ((first | (go_at_call 98;exact quiet_call (HF2.out _ (more_same _ _))) | (go_at_call 57;exact quiet_call (HR2.out _ (more_same _ _))))) | quiet_step ((first | (go_at_call 98;exact quiet_call (HF2.out _ (more_same _ _))) | (go_at_call 57;exact quiet_call (HR2.out _ (more_same _ _)))))))
 refine wpQuiet_nil ?_
 rintro _ ⟨qq,rfl⟩
 have hs3:Same w2 (more w2 qq):=more_same _ _
 generalize more w2 qq=w3 at *
 have hk3:=H.out.same (HS2.out.trans hs3 (fun _ _ h=>h))
 have HO3:=Lib.hid (HO.out.frm hs3 (fun _ _=>id))
 have HK3:=Lib.hid hk3
 have HS3:=Lib.hid (HS2.out.trans hs3 (fun _ _ h=>h))
 clear hs3 hk3 HO HS2 HF2 HR2 hkl
 cases b with
 | false =>
  go_wp2
  go_ret
  exact ⟨rfl,a,HK3.out,KGo.same HS3.out⟩
 | true =>
  go_wp2_with (fail)
  simp only [Bool.not_true]
  go_loopw [47] (fun t wr=>∃ i:Nat,i≤cs.length∧t=.int .i64 i∧KW wr kp (turn1 k (cs.take i)) a∧KGo k.n kp w3 a wr a) (fun t _=>cs.length - (intOf t).toNat)
  case atStart=>exact ⟨0,by omega,rfl,HK3.out,KGo.refl _ _ _ _⟩
  case round =>
   obtain ⟨i,hi,rfl,hk1,hg1⟩:=hrel
   obtain ⟨a1,ha1⟩:∃ a1,a=a1:=⟨_,rfl⟩
   rw [ha1] at hk1
   have HA1:=Lib.hid ha1
   clear ha1
   have HN1:Hid ((turn1 k (cs.take i)).n=k.n):=Lib.hid (turn1_n _ _)
   have hkl:=hk1.blk.lt
   have c1:=hk1.c1
   by_cases hlt:i < cs.length
   ·obtain ⟨c,hc⟩:∃ c,cs[i]?=some c:=⟨_,List.getElem?_eq_getElem hlt⟩
    have hrow:=HO3.out.frm hg1.frm (fun ad had=>(HFA.out _ ⟨ad,had,rfl⟩).1)
    obtain ⟨sb,rfl,hsb,hcell⟩:=hrow.get Crs.cells_len hc
    have s0:wr.cell? ⟨sb,i * 8,none⟩=some (.int .u32 c.r):=hcell 0 (by omega)
    have s1:wr.cell? ⟨sb,i * 8+1,none⟩=some (.int .i64 c.n.v):=hcell 1 (by omega)
    have s2:wr.cell? ⟨sb,i * 8+2,none⟩=some (.int .u32 c.n.lo):=hcell 2 (by omega)
    have s3:wr.cell? ⟨sb,i * 8+3,none⟩=some (.int .u32 c.n.hi):=hcell 3 (by omega)
    have s4:wr.cell? ⟨sb,i * 8+4,none⟩=some (.int .u32 c.a00):=hcell 4 (by omega)
    have s5:wr.cell? ⟨sb,i * 8+5,none⟩=some (.int .u32 c.a01):=hcell 5 (by omega)
    have s6:wr.cell? ⟨sb,i * 8+6,none⟩=some (.int .u32 c.a10):=hcell 6 (by omega)
    have s7:wr.cell? ⟨sb,i * 8+7,none⟩=some (.int .u32 c.a11):=hcell 7 (by omega)
    have hI:(i:Int) < (cs.length:Int):=by omega
    have HCE:=Lib.hid hc
    clear hc hrow hcell
    have HK1:=Lib.hid hk1
    have HG1:=Lib.hid hg1
    clear hk1 hg1
    go_upto_region 8 with fail
    refine wp_world fun wb hwb=>?_
    have hBx:=Blk.new wr 147 #[.int .u32 c.r,.int .i64 c.n.v,.int .u32 c.n.lo,.int .u32 c.n.hi,.int .u32 c.a00,.int .u32 c.a01,.int .u32 c.a10,.int .u32 c.a11]
    have hsb1:Same wr wb:=by rw [hwb];exact (Frm.refl _ _).alloc _
    rw [← hwb] at hBx
    clear hwb s0 s1 s2 s3 s4 s5 s6 s7
    have hBF:¬ KFp k.n kp a1 wr.heap.size:=fun hx=>by
     have:=HK1.out.lt (by rw [HN1.out];exact hx)
     omega
    have HBF:=Lib.hid hBF
    have HSB:=Lib.hid hsb1
    have hkb:=HK1.out.same hsb1
    have hkbl:=hkb.blk.lt
    have x0:=hBx.cell 0
    have x1:=hBx.cell 1
    have x2:=hBx.cell 2
    have x3:=hBx.cell 3
    have x4:=hBx.cell 4
    have x5:=hBx.cell 5
    have x6:=hBx.cell 6
    have x7:=hBx.cell 7
    have xl:=hBx.lt
    simp at x0 x1 x2 x3 x4 x5 x6 x7
    have HBX:=Lib.hid hBx
    have HKB:=Lib.hid hkb
    clear hBx hkb hsb1 hBF
    have hUk:¬ UB a1.U k.n kp:=fun hx=>HKB.out.dj 6 0 kp (by omega) (by rw [HN1.out];exact hx) rfl
    have hUX:¬ UB a1.U k.n wr.heap.size:=fun hx=>HBF.out ⟨6,hx⟩
    have c1:=HKB.out.c1
    have hnk:c.n.ok:=(HOK.out.cok c (by rw [HCS.out];exact List.mem_of_getElem? HCE.out)).2.1
    have hrm:=fun w' (hw:KW w' kp (turn1 k (cs.take i)) a1)=>kremove_any hw hnk
    rw [HN1.out] at hrm
    have HRM:=Lib.hid hrm
    clear hrm hnk
    refine wp_phS (UB a1.U k.n) [([0,1,2,3,4,5,6],7)] (by kernel_rfl) (by kernel_rfl) ?_
    simp only [wpPh,pick,List.map_cons,List.map_nil,List.getD_cons_zero,List.getD_cons_succ]
    repeat (any_goals (first | go_big_quiet_step (fail) | quiet_step (fail)))
    refine wpQuiet_nil ?_
    refine wpList_plain rfl fun K hK=>?_
    go_simp
    refine (HRM.out _ (HKB.out.same ((Frm.refl _ _).drew))).mono ?_
    rintro e wc ⟨rfl,hkc,hgc,_⟩
    refine hK _ _ ?_
    clear hK K
    have HKC:=Lib.hid hkc
    have HGC:=Lib.hid ((KGo.same (a:=a1) (kp:=kp) (n:=k.n) HSB.out).trans ((KGo.same ((Frm.refl _ _).drew)).trans hgc))
    clear hkc hgc
    go_wp2
    go_roundw
    case rel =>
     have hst:turn1 k (cs.take (i+1))=remK (turn1 k (cs.take i)) c.n:=foldl_take _ _ HCE.out
     refine ⟨i+1,by omega,by go_num,?_,?_⟩
     ·rw [hst,HA1.out];exact HKC.out
     ·have:=HG1.out.trans (HA1.out ▸ HGC.out)
      exact this
    case measure=>simp [intOf] <;> omega
   ·obtain rfl:i=cs.length:=by omega
    have hI:¬ ((cs.length:Nat):Int) < (cs.length:Int):=by omega
    rw [List.take_length] at hk1
    have HK1:=Lib.hid hk1
    have HG1:=Lib.hid hg1
    clear hk1 hg1 c1
    rename World=>w4
    go_wp2_with (fail)
    go_loopw [62] (fun t wr=>∃ (i:Nat) (a1:KA),i≤cs.length∧t=.int .i64 i∧KW wr kp (turn2 (turn1 k cs) x y (cs.take i)) a1∧KGo k.n kp w3 a wr a1) (fun t _=>cs.length - (intOf t).toNat)
    case atStart=>exact ⟨0,a,by omega,rfl,by rw [HA1.out];exact HK1.out,HG1.out⟩
    case round =>
     clear HK1 HG1 HA1 a1 HN1
     obtain ⟨i,a1,hi,rfl,hk1,hg1⟩:=hrel
     have hkl:=hk1.blk.lt
     by_cases hlt:i < cs.length
     ·obtain ⟨c,hc⟩:∃ c,cs[i]?=some c:=⟨_,List.getElem?_eq_getElem hlt⟩
      have hrow:=HO3.out.frm hg1.frm (fun ad had=>(HFA.out _ ⟨ad,had,rfl⟩).1)
      obtain ⟨sb,rfl,hsb,hcell⟩:=hrow.get Crs.cells_len hc
      have s0:wr.cell? ⟨sb,i * 8,none⟩=some (.int .u32 c.r):=hcell 0 (by omega)
      have s1:wr.cell? ⟨sb,i * 8+1,none⟩=some (.int .i64 c.n.v):=hcell 1 (by omega)
      have s2:wr.cell? ⟨sb,i * 8+2,none⟩=some (.int .u32 c.n.lo):=hcell 2 (by omega)
      have s3:wr.cell? ⟨sb,i * 8+3,none⟩=some (.int .u32 c.n.hi):=hcell 3 (by omega)
      have s4:wr.cell? ⟨sb,i * 8+4,none⟩=some (.int .u32 c.a00):=hcell 4 (by omega)
      have s5:wr.cell? ⟨sb,i * 8+5,none⟩=some (.int .u32 c.a01):=hcell 5 (by omega)
      have s6:wr.cell? ⟨sb,i * 8+6,none⟩=some (.int .u32 c.a10):=hcell 6 (by omega)
      have s7:wr.cell? ⟨sb,i * 8+7,none⟩=some (.int .u32 c.a11):=hcell 7 (by omega)
      have hI:(i:Int) < (cs.length:Int):=by omega
      have HCE:=Lib.hid hc
      have hso:=(HOK.out.s2 HBB.out i c (by rw [HCS.out];exact hc))
      rw [HCS.out] at hso
      obtain ⟨k2,hk2⟩:∃ k2,turn2 (turn1 k cs) x y (cs.take i)=k2:=⟨_,rfl⟩
      have hn2:k2.n=k.n:=by rw [← hk2,turn2_n,turn1_n]
      have hst:turn2 (turn1 k cs) x y (cs.take (i+1))=turnC x y k2 c:=by
       rw [← hk2]
       exact foldl_take _ _ hc
      have hcok:=(HOK.out.cok c (by rw [HCS.out];exact List.mem_of_getElem? hc))
      rw [hk2] at hk1 hso
      rw [← hn2] at hg1
      have HK1:=Lib.hid hk1
      have HG1:=Lib.hid hg1
      have HN2:=Lib.hid hn2
      have HST:=Lib.hid hst
      have HSO:=Lib.hid hso
      clear hc hrow hcell hk1 hg1 hn2 hst hso hk2
      go_upto_region 13 with fail
      refine wp_world fun wb hwb=>?_
      have hBx:=Blk.new wr 147 #[.int .u32 c.r,.int .i64 c.n.v,.int .u32 c.n.lo,.int .u32 c.n.hi,.int .u32 c.a00,.int .u32 c.a01,.int .u32 c.a10,.int .u32 c.a11]
      have hsb1:Same wr wb:=by rw [hwb];exact (Frm.refl _ _).alloc _
      rw [← hwb] at hBx
      clear hwb s0 s1 s2 s3 s4 s5 s6 s7
      have hBF:¬ KFp k2.n kp a1 wr.heap.size:=fun hx=>by
       have:=HK1.out.lt hx
       omega
      have hkb:=HK1.out.same hsb1
      have x0:=hBx.cell 0
      have x1:=hBx.cell 1
      have x2:=hBx.cell 2
      have x3:=hBx.cell 3
      have x4:=hBx.cell 4
      have x5:=hBx.cell 5
      have x6:=hBx.cell 6
      have x7:=hBx.cell 7
      have xl:=hBx.lt
      simp at x0 x1 x2 x3 x4 x5 x6 x7
      have HBX:=Lib.hid hBx
      have HKB:=Lib.hid hkb
      have HSB:=Lib.hid hsb1
      obtain ⟨⟨e1,X1,hb1⟩,n1,r1,u1,⟨e2,X2,hb2⟩,n2,r2,u2,⟨e3,X3,hb3⟩,n3,⟨m,n0,hcr,hm2,hm3⟩⟩:=HSO.out
      have hg1c:=fun w' (hw:KW w' kp k2 a1)=>kget_any hw hb1 n1 r1
      have hgn1:(getK k2 ⟨x,c.a00,c.a10⟩).2.n=k2.n:=getK_n _ _
      have hu1c:=fun w' aq (hw:KW w' kp (getK k2 ⟨x,c.a00,c.a10⟩).2 aq)=>kuse_any hw _ u1.1 u1.2.1 u1.2.2
      have htA:turnA k2 x c=useK (getK k2 ⟨x,c.a00,c.a10⟩).2 (getK k2 ⟨x,c.a00,c.a10⟩).1:=rfl
      rw [← htA] at hu1c
      have htAn:(turnA k2 x c).n=k2.n:=turnA_n _ _ _
      have hg2c:=fun w' aq (hw:KW w' kp (turnA k2 x c) aq)=>kget_any hw hb2 n2 r2
      have hgn2:(getK (turnA k2 x c) ⟨x,c.a01,c.a11⟩).2.n=k2.n:=(getK_n _ _).trans htAn
      have hu2c:=fun w' aq (hw:KW w' kp (getK (turnA k2 x c) ⟨x,c.a01,c.a11⟩).2 aq)=>kuse_any hw _ u2.1 u2.2.1 u2.2.2
      have htB:turnB k2 x c=useK (getK (turnA k2 x c) ⟨x,c.a01,c.a11⟩).2 (getK (turnA k2 x c) ⟨x,c.a01,c.a11⟩).1:=rfl
      rw [← htB] at hu2c
      have htBn:(turnB k2 x c).n=k2.n:=turnB_n _ _ _
      have htN:turnN k2 x y c=⟨y,(getK k2 ⟨x,c.a00,c.a10⟩).1,(getK (turnA k2 x c) ⟨x,c.a01,c.a11⟩).1⟩:=rfl
      have htC:turnC x y k2 c=addK (setK (turnB k2 x c) c.r (turnN k2 x y c)) (turnN k2 x y c) c.r:=rfl
      have hsetc:=fun w' aq (hw:KW w' kp (turnB k2 x c) aq)=>kset_any hw hb3 n3 hm2 hm3
      rw [← hcr] at hsetc
      have hlmx:(setK (turnB k2 x c) c.r (turnN k2 x y c)).L.length < maxLen:=by
       have h1:=hb3.cnt
       have h2:=hb3.cntl
       have h3:=hb3.lim
       have h4:=hb3.cM
       simp only [List.length_append] at h1
       show (turnB k2 x c).L.length < _
       unfold maxLen
       omega
      have hcr4:c.r < 4294967296:=by
       have h1:=lt_of_get hm3
       have h3:=hb3.lim
       have h4:=hb3.cM
       omega
      have hcr0:0≤c.r:=by omega
      have haddc:=fun w' aq (hw:KW w' kp (setK (turnB k2 x c) c.r (turnN k2 x y c)) aq)=>kadd_any hw (n3.ok hb3) c.r hcr0 hcr4 hlmx
      rw [← htC] at haddc
      obtain ⟨lo,hlo⟩:∃ lo,(getK k2 ⟨x,c.a00,c.a10⟩).1=lo:=⟨_,rfl⟩
      obtain ⟨hi',hhi⟩:∃ h,(getK (turnA k2 x c) ⟨x,c.a01,c.a11⟩).1=h:=⟨_,rfl⟩
      rw [hlo] at hg1c hu1c u1 htN
      rw [hhi] at hg2c hu2c u2 htN
      rw [htN] at hsetc haddc
      have HG1C:=Lib.hid hg1c
      have HU1C:=Lib.hid hu1c
      have HG2C:=Lib.hid hg2c
      have HU2C:=Lib.hid hu2c
      have HSETC:=Lib.hid hsetc
      have HADDC:=Lib.hid haddc
      have HTAN:=Lib.hid htAn
      have HTBN:=Lib.hid htBn
      have HGN1:=Lib.hid hgn1
      have HGN2:=Lib.hid hgn2
      clear hb1 hb2 hb3 n1 n2 n3 r1 r2 u1 u2 hcr hm2 hm3 hg1c hu1c hg2c hu2c hsetc haddc htA htB htN htC hlo hhi hlmx hBx hkb hsb1 htAn htBn hgn1 hgn2
      refine wp_phS (KFp k2.n kp a1) [([0,1,2,3,4,5,6,7],8),([],9)] (by kernel_rfl) (by kernel_rfl) ?_
      simp only [wpPh,pick,List.map_cons,List.map_nil,List.getD_cons_zero,List.getD_cons_succ]
      repeat (any_goals (first | go_big_quiet_step (fail) | quiet_step (fail)))
      refine wpQuiet_nil ?_
      refine effStep_plain rfl fun K hK=>?_
      go_simp
      refine (HG1C.out _ (HKB.out.same ((Frm.refl _ _).drew))).mono ?_
      rintro e wc ⟨rfl,a2,hkc,hgc⟩
      have hgc':KGo k2.n kp wb a1 wc a2:=(KGo.same ((Frm.refl _ _).drew)).trans hgc
      refine hK _ _ (Lat.mk_ hgc'.frm) ?_
      clear hK K
      refine wpQuiet_nil ?_
      have hBx:=HBX.out.frm hgc'.frm hBF
      have hBF2:=hgc'.apart (T:=fun b=>b=wr.heap.size) (by rintro b rfl;exact hBF) (by rintro b rfl;exact HBX.out.lt) _ rfl
      have x0:=hBx.cell 0
      have x1:=hBx.cell 1
      have x2:=hBx.cell 2
      have x3:=hBx.cell 3
      have x4:=hBx.cell 4
      have x5:=hBx.cell 5
      have x6:=hBx.cell 6
      have x7:=hBx.cell 7
      have xl:=hBx.lt
      simp at x0 x1 x2 x3 x4 x5 x6 x7
      have HBX2:=Lib.hid hBx
      have HKC:=Lib.hid hkc
      have HGC:=Lib.hid ((KGo.same (a:=a1) (kp:=kp) (n:=k2.n) HSB.out).trans hgc')
      clear hBx hkc hgc hgc' HBX HKB hBF HG1C
      go_wp2_with (fail)
      refine (HU1C.out _ _ HKC.out).mono ?_
      rintro e wd ⟨rfl,hkd,hgd⟩
      rw [HGN1.out] at hgd
      have hBx:=HBX2.out.frm hgd.frm hBF2
      have x0:=hBx.cell 0
      have x1:=hBx.cell 1
      have x2:=hBx.cell 2
      have x3:=hBx.cell 3
      have x4:=hBx.cell 4
      have x5:=hBx.cell 5
      have x6:=hBx.cell 6
      have x7:=hBx.cell 7
      have xl:=hBx.lt
      simp at x0 x1 x2 x3 x4 x5 x6 x7
      have HBX3:=Lib.hid hBx
      have HKD:=Lib.hid hkd
      have HGD:=Lib.hid (HGC.out.trans hgd)
      clear hBx hkd hgd HBX2 HKC HU1C
      go_upto_region 15 with fail
      refine wp_phS (KFp k2.n kp a2) [([0,1,2,3,4,5,6,7],8),([],9)] (by kernel_rfl) (by kernel_rfl) ?_
      simp only [wpPh,pick,List.map_cons,List.map_nil,List.getD_cons_zero,List.getD_cons_succ]
      repeat (any_goals (first | go_big_quiet_step (fail) | quiet_step (fail)))
      refine wpQuiet_nil ?_
      refine effStep_plain rfl fun K hK=>?_
      go_simp
      refine (HG2C.out _ _ (HKD.out.same ((Frm.refl _ _).drew))).mono ?_
      rintro e we ⟨rfl,a3,hke,hge⟩
      rw [HTAN.out] at hge
      have hge':KGo k2.n kp wd a2 we a3:=(KGo.same ((Frm.refl _ _).drew)).trans hge
      refine hK _ _ (Lat.mk_ hge'.frm) ?_
      clear hK K
      refine wpQuiet_nil ?_
      have hBx:=HBX3.out.frm hge'.frm hBF2
      have hBF3:=hge'.apart (T:=fun b=>b=wr.heap.size) (by rintro b rfl;exact hBF2) (by rintro b rfl;exact HBX3.out.lt) _ rfl
      have x0:=hBx.cell 0
      have x1:=hBx.cell 1
      have x2:=hBx.cell 2
      have x3:=hBx.cell 3
      have x4:=hBx.cell 4
      have x5:=hBx.cell 5
      have x6:=hBx.cell 6
      have x7:=hBx.cell 7
      have xl:=hBx.lt
      simp at x0 x1 x2 x3 x4 x5 x6 x7
      have HBX4:=Lib.hid hBx
      have HKE:=Lib.hid hke
      have HGE:=Lib.hid (HGD.out.trans hge')
      clear hBx hke hge hge' HBX3 HKD hBF2 HG2C
      go_wp2_with (fail)
      refine (HU2C.out _ _ HKE.out).mono ?_
      rintro e wf ⟨rfl,hkf,hgf⟩
      rw [HGN2.out] at hgf
      have hBx:=HBX4.out.frm hgf.frm hBF3
      have x0:=hBx.cell 0
      have x1:=hBx.cell 1
      have x2:=hBx.cell 2
      have x3:=hBx.cell 3
      have x4:=hBx.cell 4
      have x5:=hBx.cell 5
      have x6:=hBx.cell 6
      have x7:=hBx.cell 7
      have xl:=hBx.lt
      simp at x0 x1 x2 x3 x4 x5 x6 x7
      have HBX5:=Lib.hid hBx
      have HKF:=Lib.hid hkf
      have HGF:=Lib.hid (HGE.out.trans hgf)
      have hkfl:=hkf.blk.lt
      clear hBx hkf hgf HBX4 HKE HU2C
      go_upto_region 18 with fail
      refine wp_world fun wg hwg=>?_
      have hNb:=Blk.new wf 37 #[.int .i64 y,.int .u32 lo,.int .u32 hi']
      have hsg:Same wf wg:=by rw [hwg];exact (Frm.refl _ _).alloc _
      rw [← hwg] at hNb
      clear hwg
      have hkg:=HKF.out.same hsg
      have hBx:=HBX5.out.frm hsg id
      have hNF:¬ KFp k2.n kp a3 wf.heap.size:=fun hx=>by
       have:=HKF.out.lt (by rw [HTBN.out];exact hx)
       omega
      have c0:=hkg.c0
      have hkgl:=hkg.blk.lt
      have hS0:¬ AFp a3.g a3.A a3.A' kp:=by
       rintro (hx | hx | hx)
       ·exact hkg.dj 0 1 kp (by omega) rfl hx
       ·exact hkg.dj 0 2 kp (by omega) rfl hx
       ·exact hkg.dj 0 3 kp (by omega) rfl hx
      have hSA:∀ b,AFp a3.g a3.A a3.A' b→KFp k2.n kp a3 b:=by
       rintro b (hx | hx | hx)
       ·exact ⟨1,hx⟩
       ·exact ⟨2,hx⟩
       ·exact ⟨3,hx⟩
      have hS1:¬ AFp a3.g a3.A a3.A' wr.heap.size:=fun hx=>hBF3 (hSA _ hx)
      have hS2:¬ AFp a3.g a3.A a3.A' wf.heap.size:=fun hx=>hNF (hSA _ hx)
      have y0:=hNb.cell 0
      have y1:=hNb.cell 1
      have y2:=hNb.cell 2
      have yl:=hNb.lt
      simp at y0 y1 y2
      have x0:=hBx.cell 0
      have x1:=hBx.cell 1
      have x2:=hBx.cell 2
      have x3:=hBx.cell 3
      have x4:=hBx.cell 4
      have x5:=hBx.cell 5
      have x6:=hBx.cell 6
      have x7:=hBx.cell 7
      have xl:=hBx.lt
      simp at x0 x1 x2 x3 x4 x5 x6 x7
      have HNB:=Lib.hid hNb
      have HBX6:=Lib.hid hBx
      have HKG:=Lib.hid hkg
      have HGG:=Lib.hid (HGF.out.trans (KGo.same hsg))
      clear hNb hBx hkg hsg hSA HBX5
      refine wp_phS (AFp a3.g a3.A a3.A') [([0,1,2,3,4,5,6,7],8)] (by kernel_rfl) (by kernel_rfl) ?_
      simp only [wpPh,pick,List.map_cons,List.map_nil,List.getD_cons_zero,List.getD_cons_succ]
      repeat (any_goals (first | go_big_quiet_step (fail) | quiet_step (fail)))
      refine wpQuiet_nil ?_
      refine wpList_plain rfl fun K hK=>?_
      go_simp
      refine (HSETC.out _ _ (HKG.out.same ((Frm.refl _ _).drew))).mono ?_
      rintro e wh ⟨rfl,hkh,hgh,_⟩
      rw [HTBN.out] at hgh
      have hgh':KGo k2.n kp wg a3 wh a3:=(KGo.same ((Frm.refl _ _).drew)).trans hgh
      refine hK _ _ ?_
      clear hK K
      have hNb:=HNB.out.frm hgh'.frm hNF
      have hBx:=HBX6.out.frm hgh'.frm hBF3
      have c1:=hkh.c1
      have hkhl:=hkh.blk.lt
      have hU0:¬ UB a3.U k2.n kp:=fun hx=>hkh.dj 6 0 kp (by omega) (by show UB a3.U (setK _ _ _).n kp;show UB a3.U (turnB k2 x c).n kp;rw [HTBN.out];exact hx) rfl
      have hU1:¬ UB a3.U k2.n wr.heap.size:=fun hx=>hBF3 ⟨6,hx⟩
      have hU2:¬ UB a3.U k2.n wf.heap.size:=fun hx=>hNF ⟨6,hx⟩
      have y0:=hNb.cell 0
      have y1:=hNb.cell 1
      have y2:=hNb.cell 2
      have yl:=hNb.lt
      simp at y0 y1 y2
      have x0:=hBx.cell 0
      have x1:=hBx.cell 1
      have x2:=hBx.cell 2
      have x3:=hBx.cell 3
      have x4:=hBx.cell 4
      have x5:=hBx.cell 5
      have x6:=hBx.cell 6
      have x7:=hBx.cell 7
      have xl:=hBx.lt
      simp at x0 x1 x2 x3 x4 x5 x6 x7
      have HKH:=Lib.hid hkh
      have HGH:=Lib.hid (HGG.out.trans hgh')
      clear hNb hBx hkh hgh hgh' HNB HBX6 HSETC hS0 hS1 hS2 c0
      go_upto_region 19 with fail
      refine wp_phS (UB a3.U k2.n) [([0,1,2,3,4,5,6,7],8)] (by kernel_rfl) (by kernel_rfl) ?_
      simp only [wpPh,pick,List.map_cons,List.map_nil,List.getD_cons_zero,List.getD_cons_succ]
      repeat (any_goals (first | go_big_quiet_step (fail) | quiet_step (fail)))
      refine wpQuiet_nil ?_
      refine wpList_plain rfl fun K hK=>?_
      go_simp
      refine (HADDC.out _ _ (HKH.out.same ((Frm.refl _ _).drew))).mono ?_
      rintro e wi ⟨rfl,hki,hgi,_⟩
      have hsn:(setK (turnB k2 x c) c.r ⟨y,lo,hi'⟩).n=k2.n:=HTBN.out
      rw [hsn] at hgi
      refine hK _ _ ?_
      clear hK K
      have HKI:=Lib.hid hki
      have HGI:=Lib.hid (HGH.out.trans ((KGo.same ((Frm.refl _ _).drew)).trans hgi))
      clear hki hgi hsn
      go_wp2
      go_roundw
      case rel =>
       refine ⟨i+1,a3,by omega,by go_num,?_,?_⟩
       ·rw [HST.out];exact HKI.out
       ·rw [← HN2.out];exact HG1.out.trans HGI.out
      case measure=>simp [intOf] <;> omega
     ·obtain rfl:i=cs.length:=by omega
      have hI:¬ ((cs.length:Nat):Int) < (cs.length:Int):=by omega
      rw [List.take_length] at hk1
      have HK1:=Lib.hid hk1
      have HG1:=Lib.hid hg1
      clear hk1 hg1
      rename World=>w5
      obtain ⟨k2,hk2⟩:∃ k2,turn2 (turn1 k cs) x y cs=k2:=⟨_,rfl⟩
      rw [hk2] at HK1
      have HK2N:Hid (k2.n=k.n):=Lib.hid (by rw [← hk2,turn2_n,turn1_n])
      have HK2E:=Lib.hid hk2
      clear hk2
      go_wp2_with (fail)
      go_loopw [119] (fun t wr=>∃ (i:Nat) (a1:KA),i≤cs.length∧t=.int .i64 i∧KW wr kp (turn3 k2 (cs.take i)) a1∧KGo k.n kp w3 a wr a1) (fun t _=>cs.length - (intOf t).toNat)
      case atStart=>exact ⟨0,a1,by omega,rfl,HK1.out,HG1.out⟩
      case round =>
       clear HK1 HG1 hkl hi a1
       obtain ⟨i,a1,hi,rfl,hk1,hg1⟩:=hrel
       have hkl:=hk1.blk.lt
       by_cases hlt:i < cs.length
       ·obtain ⟨c,hc⟩:∃ c,cs[i]?=some c:=⟨_,List.getElem?_eq_getElem hlt⟩
        have hrow:=HO3.out.frm hg1.frm (fun ad had=>(HFA.out _ ⟨ad,had,rfl⟩).1)
        obtain ⟨sb,rfl,hsb,hcell⟩:=hrow.get Crs.cells_len hc
        have s0:wr.cell? ⟨sb,i * 8,none⟩=some (.int .u32 c.r):=hcell 0 (by omega)
        have s1:wr.cell? ⟨sb,i * 8+1,none⟩=some (.int .i64 c.n.v):=hcell 1 (by omega)
        have s2:wr.cell? ⟨sb,i * 8+2,none⟩=some (.int .u32 c.n.lo):=hcell 2 (by omega)
        have s3:wr.cell? ⟨sb,i * 8+3,none⟩=some (.int .u32 c.n.hi):=hcell 3 (by omega)
        have s4:wr.cell? ⟨sb,i * 8+4,none⟩=some (.int .u32 c.a00):=hcell 4 (by omega)
        have s5:wr.cell? ⟨sb,i * 8+5,none⟩=some (.int .u32 c.a01):=hcell 5 (by omega)
        have s6:wr.cell? ⟨sb,i * 8+6,none⟩=some (.int .u32 c.a10):=hcell 6 (by omega)
        have s7:wr.cell? ⟨sb,i * 8+7,none⟩=some (.int .u32 c.a11):=hcell 7 (by omega)
        have hI:(i:Int) < (cs.length:Int):=by omega
        have hs3o:=(HOK.out.s3 HBB.out i c (by rw [HCS.out];exact hc))
        rw [HCS.out,HK2E.out] at hs3o
        obtain ⟨k3,hk3⟩:∃ k3,turn3 k2 (cs.take i)=k3:=⟨_,rfl⟩
        have hn3:k3.n=k.n:=by rw [← hk3,turn3_n];exact HK2N.out
        have hst:turn3 k2 (cs.take (i+1))=relK (relK k3 c.n.lo) c.n.hi:=by
         rw [← hk3]
         exact foldl_take _ _ hc
        obtain ⟨_,_,l0,l1,h0,h1⟩:=(HOK.out.cok c (by rw [HCS.out];exact List.mem_of_getElem? hc))
        rw [hk3] at hk1 hs3o
        rw [← hn3] at hg1
        obtain ⟨⟨e1,hb1⟩,⟨e2,hb2⟩⟩:=hs3o
        have hr1:=fun w' (hw:KW w' kp k3 a1)=>krelease_any hw hb1
        have hr2:=fun w' aq (hw:KW w' kp (relK k3 c.n.lo) aq)=>krelease_any hw hb2
        have hrn:(relK k3 c.n.lo).n=k3.n:=relF_n _ _ _
        have HK1:=Lib.hid hk1
        have HG1:=Lib.hid hg1
        have HN3:=Lib.hid hn3
        have HST:=Lib.hid hst
        have HR1:=Lib.hid hr1
        have HR2:=Lib.hid hr2
        have HRN:=Lib.hid hrn
        have HCE:=Lib.hid hc
        clear hc hrow hcell hk1 hg1 hn3 hst hk3 hr1 hr2 hrn hb1 hb2
        go_upto_region 24 with fail
        refine wp_world fun wb hwb=>?_
        have hBx:=Blk.new wr 147 #[.int .u32 c.r,.int .i64 c.n.v,.int .u32 c.n.lo,.int .u32 c.n.hi,.int .u32 c.a00,.int .u32 c.a01,.int .u32 c.a10,.int .u32 c.a11]
        have hsb1:Same wr wb:=by rw [hwb];exact (Frm.refl _ _).alloc _
        rw [← hwb] at hBx
        clear hwb s0 s1 s2 s3 s4 s5 s6 s7
        have hBF:¬ KFp k3.n kp a1 wr.heap.size:=fun hx=>by
         have:=HK1.out.lt hx
         omega
        have hkb:=HK1.out.same hsb1
        have x0:=hBx.cell 0
        have x1:=hBx.cell 1
        have x2:=hBx.cell 2
        have x3:=hBx.cell 3
        have x4:=hBx.cell 4
        have x5:=hBx.cell 5
        have x6:=hBx.cell 6
        have x7:=hBx.cell 7
        have xl:=hBx.lt
        simp at x0 x1 x2 x3 x4 x5 x6 x7
        have HBX:=Lib.hid hBx
        have HKB:=Lib.hid hkb
        have HSB:=Lib.hid hsb1
        clear hBx hkb hsb1
        refine wp_phS (KFp k3.n kp a1) [([0,1,2,3,4,5],6)] (by kernel_rfl) (by kernel_rfl) ?_
        simp only [wpPh,pick,List.map_cons,List.map_nil,List.getD_cons_zero,List.getD_cons_succ]
        repeat (any_goals (first | go_big_quiet_step (fail) | quiet_step (fail)))
        refine wpQuiet_nil ?_
        refine wpList_plain rfl fun K hK=>?_
        go_simp
        refine (HR1.out _ (HKB.out.same ((Frm.refl _ _).drew))).mono ?_
        rintro e wc ⟨rfl,a2,hkc,hgc⟩
        have hgc':KGo k3.n kp wb a1 wc a2:=(KGo.same ((Frm.refl _ _).drew)).trans hgc
        refine hK _ _ ?_
        clear hK K
        have hBx:=HBX.out.frm hgc'.frm hBF
        have hBF2:=hgc'.apart (T:=fun b=>b=wr.heap.size) (by rintro b rfl;exact hBF) (by rintro b rfl;exact HBX.out.lt) _ rfl
        have x0:=hBx.cell 0
        have x1:=hBx.cell 1
        have x2:=hBx.cell 2
        have x3:=hBx.cell 3
        have x4:=hBx.cell 4
        have x5:=hBx.cell 5
        have x6:=hBx.cell 6
        have x7:=hBx.cell 7
        have xl:=hBx.lt
        simp at x0 x1 x2 x3 x4 x5 x6 x7
        have HBX2:=Lib.hid hBx
        have HKC:=Lib.hid hkc
        have HGC:=Lib.hid ((KGo.same (a:=a1) (kp:=kp) (n:=k3.n) HSB.out).trans hgc')
        clear hBx hkc hgc hgc' HBX HKB hBF HR1
        go_upto_region 25 with fail
        refine wp_phS (KFp k3.n kp a2) [([0,1,2,3,4,5],6)] (by kernel_rfl) (by kernel_rfl) ?_
        simp only [wpPh,pick,List.map_cons,List.map_nil,List.getD_cons_zero,List.getD_cons_succ]
        repeat (any_goals (first | go_big_quiet_step (fail) | quiet_step (fail)))
        refine wpQuiet_nil ?_
        refine wpList_plain rfl fun K hK=>?_
        go_simp
        refine (HR2.out _ _ (HKC.out.same ((Frm.refl _ _).drew))).mono ?_
        rintro e wd ⟨rfl,a3,hkd,hgd⟩
        rw [HRN.out] at hgd
        refine hK _ _ ?_
        clear hK K
        have HKD:=Lib.hid hkd
        have HGD:=Lib.hid (HGC.out.trans ((KGo.same ((Frm.refl _ _).drew)).trans hgd))
        clear hkd hgd
        go_wp2
        go_roundw
        case rel =>
         refine ⟨i+1,a3,by omega,by go_num,?_,?_⟩
         ·rw [HST.out];exact HKD.out
         ·rw [← HN3.out];exact HG1.out.trans HGD.out
        case measure=>simp [intOf] <;> omega
       ·obtain rfl:i=cs.length:=by omega
        have hI:¬ ((cs.length:Nat):Int) < (cs.length:Int):=by omega
        rw [List.take_length] at hk1
        obtain ⟨k3,hk3⟩:∃ k3,turn3 k2 cs=k3:=⟨_,rfl⟩
        have hkk:kst k3=kst k:=by rw [← hk3,turn3_kst,← HK2E.out,turn2_kst,turn1_kst]
        have ho3:k3.ord=k.ord:=congrArg (fun t=>t.2.2.1) hkk
        have hl3:k3.lev=k.lev:=congrArg (fun t=>t.2.2.2.1) hkk
        have hn3:k3.n=k.n:=congrArg (fun t=>t.1) hkk
        rw [hk3] at hk1
        have hordx:k3.ord[l]?=some (x:Int):=by rw [ho3];exact HOK.out.hx
        have hordy:k3.ord[l+1]?=some (y:Int):=by rw [ho3];exact HOK.out.hy
        have hlx:x < k3.lev.length:=by rw [hl3];exact HOK.out.lx
        have hly:y < k3.lev.length:=by rw [hl3];exact HOK.out.ly
        obtain ⟨oq,hoq,hoql,hoc⟩:=hk1.ord.at1 hordx
        obtain ⟨oq2,hoq2,_,hoc2⟩:=hk1.ord.at1 hordy
        rw [hoq] at hoq2
        injection hoq2 with hoq2
        injection hoq2 with hoq2
        subst hoq2
        obtain ⟨lq,hlq,hlql,hlc⟩:=hk1.lev.at1 (List.getElem?_eq_getElem hlx)
        obtain ⟨lq2,hlq2,_,hlc2⟩:=hk1.lev.at1 (List.getElem?_eq_getElem hly)
        rw [hlq] at hlq2
        injection hlq2 with hlq2
        injection hlq2 with hlq2
        subst hlq2
        have hkoq:¬ (kp=oq):=fun h=>hk1.dj 0 9 kp (by omega) rfl ⟨_,hoq,h.symm⟩
        have hklq:¬ (kp=lq):=fun h=>hk1.dj 0 10 kp (by omega) rfl ⟨_,hlq,h.symm⟩
        have hol3:l+1 < k3.ord.length:=lt_of_get hordy
        have hz1:=hk1.set_ord hoq (i:=l) (by omega) y
        have hz2:=hz1.1.set_ord (sb:=oq) hoq (i:=l+1) (by show l+1 < (k3.ord.set l y).length;rw [List.length_set];omega) x
        have hf0:wr.frozen? ⟨oq,l,none⟩=false:=by have:=hk1.ord;rw [hoq] at this;exact this.free _
        have hf1:wr.frozen? ⟨oq,l+1,none⟩=false:=by have:=hk1.ord;rw [hoq] at this;exact this.free _
        have c5:=hk1.c5
        rw [hoq] at c5
        have hkl1:=hk1.blk.lt
        have hoI:(l:Int) < k3.ord.length:=by omega
        have hoI2:(l:Int)+1 < k3.ord.length:=by omega
        have hlw:IntKind.i64.wrap ((l:Int)+1)=l+1:=IntWalk.i64_in _ (by omega)
        have hl0:(0:Int)≤(l:Int)+1:=by omega
        have hlt:((l:Int)+1).toNat=l+1:=by omega
        replace hoc:wr.cell? ⟨oq,l,none⟩=some (.int .i64 x):=hoc
        replace hoc2:wr.cell? ⟨oq,l+1,none⟩=some (.int .i64 y):=hoc2
        have HZ:=Lib.hid hz2.1
        have HZG:=Lib.hid (hg1.trans (by have:=hz1.2.trans hz2.2;rw [hn3] at this;exact this))
        have HLQ:=Lib.hid hlq
        have HK3E:=Lib.hid hk3
        have HN3:=Lib.hid hn3
        have HLX:=Lib.hid hlx
        have HLY:=Lib.hid hly
        clear hz1 hz2 hk1 hg1 hlc hlc2 ho3 hl3 hn3 hkk hk3 hordx hordy hoq hlq hlx hly
        go_upto_region 27 with fail
        refine wp_phS (fun b=>b=oq) [([0,1,2,3,4,5,6,7,8,9,10,11,12,13],14),([15],16)] (by kernel_rfl) (by kernel_rfl) ?_
        simp only [wpPh,pick,List.map_cons,List.map_nil,List.getD_cons_zero,List.getD_cons_succ]
        repeat (any_goals (first | go_big_quiet_step (fail) | quiet_step (fail)))
        refine wpQuiet_nil ?_
        refine effStep_plain rfl fun K hK=>?_
        go_simp
        refine hK _ _ (Lat.mk_ ((Frm.refl _ _).drew.set l _ rfl)) ?_
        clear hK K
        repeat (any_goals (first | go_big_quiet_step (fail) | quiet_step (fail)))
        refine wpQuiet_nil ?_
        go_upto_region 28 with fail
        refine wp_world fun w6 hw6=>?_
        have hk6:KW w6 kp { k3 with ord:=(k3.ord.set l y).set (l+1) x } a1:=by
         rw [hw6]
         exact HZ.out.same ((Frm.refl _ _).drew)
        have hg6:KGo k.n kp w3 a w6 a1:=by
         rw [hw6]
         exact HZG.out.trans (KGo.same ((Frm.refl _ _).drew))
        clear hw6 HZ HZG hoc hoc2 hf0 hf1 c5 hoI hoI2
        have hlq:=HLQ.out
        have hxy1:¬ (x=y):=HOK.out.xy
        have hxy2:¬ (y=x):=fun h=>HOK.out.xy h.symm
        obtain ⟨lx1,elx1,hlql1,hlc1⟩:=hk6.lev.at1 (i:=x) (List.getElem?_eq_getElem HLX.out)
        rw [hlq] at elx1
        injection elx1 with elx1
        injection elx1 with elx1
        subst elx1
        obtain ⟨lx2,elx2,_,hlc2⟩:=hk6.lev.at1 (i:=y) (List.getElem?_eq_getElem HLY.out)
        rw [hlq] at elx2
        injection elx2 with elx2
        injection elx2 with elx2
        subst elx2
        have hz1:=hk6.set_lev hlq (i:=x) HLX.out ((l:Int)+1)
        have hz2:=hz1.1.set_lev (sb:=lq) hlq (i:=y) (by show y < (k3.lev.set x _).length;rw [List.length_set];exact HLY.out) l
        have hf0:w6.frozen? ⟨lq,x,none⟩=false:=by have:=hk6.lev;rw [hlq] at this;exact this.free _
        have hf1:w6.frozen? ⟨lq,y,none⟩=false:=by have:=hk6.lev;rw [hlq] at this;exact this.free _
        have c6:=hk6.c6
        rw [hlq] at c6
        have hkl6:=hk6.blk.lt
        have hxI:(x:Int) < k3.lev.length:=by have:=HLX.out;omega
        have hyI:(y:Int) < k3.lev.length:=by have:=HLY.out;omega
        have HZ:=Lib.hid hz2.1
        have HZG:=Lib.hid (hg6.trans (by have:=hz1.2.trans hz2.2;rw [show ({ k3 with ord:=(k3.ord.set l y).set (l+1) x }:KS).n=k.n from HN3.out] at this;exact this))
        have hlc1:∃ v,w6.cell? ⟨lq,x,none⟩=some v:=⟨_,hlc1⟩
        have hlc2:∃ v,w6.cell? ⟨lq,y,none⟩=some v:=⟨_,hlc2⟩
        obtain ⟨v1,hlc1⟩:=hlc1
        obtain ⟨v2,hlc2⟩:=hlc2
        clear hz1 hz2 hk6 hg6 hlq
        refine wp_phS (fun b=>b=lq) [([0,1,2,3,4,5,6,7,8,9,10,11,12,13],14),([15],16)] (by kernel_rfl) (by kernel_rfl) ?_
        simp only [wpPh,pick,List.map_cons,List.map_nil,List.getD_cons_zero,List.getD_cons_succ]
        repeat (any_goals (first | go_big_quiet_step (fail) | quiet_step (fail)))
        refine wpQuiet_nil ?_
        refine effStep_plain rfl fun K hK=>?_
        go_simp
        refine hK _ _ (Lat.mk_ ((Frm.refl _ _).drew.set x _ rfl)) ?_
        clear hK K
        repeat (any_goals (first | go_big_quiet_step (fail) | quiet_step (fail)))
        refine wpQuiet_nil ?_
        go_wp2_with (fail)
        refine wp_post fun w7 hw7=>?_
        have hT:turnT k l x y={ k3 with ord:=(k3.ord.set l y).set (l+1) x,lev:=(k3.lev.set x (l+1)).set y l }:=by
         unfold turnT
         rw [HCS.out,HK2E.out,HK3E.out]
         rfl
        go_ret
        refine ⟨rfl,a1,?_,?_⟩
        ·show KW w7 kp (turnT k l x y) a1
         rw [hT,hw7]
         exact HZ.out.same ((Frm.refl _ _).drew)
        ·rw [hw7]
         exact (KGo.same HS3.out).trans (HZG.out.trans (KGo.same ((Frm.refl _ _).drew)))
end
structure Lv (k:KS):Prop where
 ol:k.ord.length=k.n
 ll:k.lev.length=k.n
 o2:∀ (l:Nat) v,k.ord[l]?=some v→∃ m:Nat,v=m∧m < k.n∧k.lev[m]?=some (l:Int)
 l2:∀ (m:Nat) l,k.lev[m]?=some l→∃ i:Nat,l=i∧i < k.n∧k.ord[i]?=some (m:Int)
def depthK (k:KS) (r:Int):Int:=if 0≤(getN k.ls r).v then k.lev.getD (getN k.ls r).v.toNat 0 else k.n
def levK (k:KS) (v:Int):Int:=k.lev.getD v.toNat 0
def fitsK (k:KS) (n:Nd):Int:=if ¬ (0≤n.v∧n.v < k.n) then 2 else if tk k.ls n.lo=false∨tk k.ls n.hi=false then 3 else if n.lo≠n.hi∧min (depthK k n.lo) (depthK k n.hi)≤levK k n.v then 4 else 0
def seekK (k:KS) (n:Nd):Option Int:=if n.lo=n.hi then some n.lo else look k.L n
section
variable {w:World} {kp:Nat} {k:KS} {a:KA} {ext:List Int} {X:List Ent} {n:Nd}
theorem Bk.nodeV (h:Bk k ext X) (r:Int) (hX:X=[]):-1≤(getN k.ls r).v∧(getN k.ls r).v < k.n∧0≤(getN k.ls r).lo∧0≤(getN k.ls r).hi∧(getN k.ls r).lo < 1048576∧(getN k.ls r).hi < 1048576:=by
 subst hX
 have hn1:=h.n1
 unfold getN
 cases hp:k.ls[r.toNat]? with
 | none=>simp [zNd] <;> omega
 | some p =>
  simp only
  split
  ·rename_i ht
   by_cases h2:2≤r.toNat
   ·have hm:=h.conv _ p h2 hp ht
    rw [List.append_nil] at hm
    obtain ⟨a,b,c,d,e,f,_⟩:=h.chl _ _ hm
    exact ⟨by omega,b,c,d,h.lt c e,h.lt d f⟩
   ·rcases Nat.lt_or_ge r.toNat 1 with h1 | h1
    ·have:r.toNat=0:=by omega
     rw [this,h.l0] at hp
     injection hp with hp
     subst hp
     simp [cpl] <;> omega
    ·have:r.toNat=1:=by omega
     rw [this,h.l1] at hp
     injection hp with hp
     subst hp
     simp [cpl] <;> omega
  ·simp [zNd] <;> omega
theorem kvariable_any (h:KW w kp k a) (v:Int) :
  Calls Tryz.prog 81 #[.pointer (some ⟨kp,0,none⟩),.int .i64 v] w fun e w'=>e=.returned (.bool (decide (0≤v∧v < k.n)))∧w=w':=by
 have c4:=h.c4
 have hkl:=h.blk.lt
 clear h
 by_cases h0:0≤v
 ·by_cases h1:v < k.n
  ·go_enter Tryz.func81,Tryz.ntmps81
   go_wp2
   go_ret
   exact ⟨ret_bool (by simp <;> omega),rfl⟩
  ·go_enter Tryz.func81,Tryz.ntmps81
   go_wp2
   go_ret
   exact ⟨ret_bool (by simp <;> omega),rfl⟩
 ·go_enter Tryz.func81,Tryz.ntmps81
  go_wp2
  go_ret
  exact ⟨ret_bool (by simp <;> omega),rfl⟩
theorem kdepth_any (h:KW w kp k a) (hb:Bk k ext []) (hl:Lv k) (r:Int) (h0:0≤r) (h1:r < 4294967296) :
  Calls Tryz.prog 89 #[.pointer (some ⟨kp,0,none⟩),.int .u32 r] w fun e w'=>e=.returned (.int .i64 (depthK k r))∧Same w w':=by
 have hkl:=h.blk.lt
 have hnode:=knode_any h r h0 h1
 unfold depthK
 obtain ⟨v0,v1,_⟩:=hb.nodeV r rfl
 have hL:∀ v:Nat,v < k.n→∃ l,k.lev[v]?=some l:=fun v hv=>⟨_,List.getElem?_eq_getElem (by rw [hl.ll];exact hv)⟩
 have hll:=hl.ll
 generalize getN k.ls r=n at *
 have HN:=Lib.hid hnode
 have H:=Lib.hid h
 have HLL:=Lib.hid hll
 by_cases hv:0≤n.v
 ·obtain ⟨m,hm⟩:=Int.eq_ofNat_of_zero_le hv
  obtain ⟨l,hlv⟩:=hL m (by omega)
  have hvI:n.v ≥ 0:=hv
  have hres:(if 0≤n.v then k.lev.getD n.v.toNat 0 else (k.n:Int))=l:=by
   rw [if_pos hv,hm,Int.toNat_natCast,List.getD_eq_getElem?_getD,hlv]
   rfl
  rw [hres]
  have HM:=Lib.hid hm
  have HLV:=Lib.hid hlv
  have hmn:m < k.n:=by omega
  clear hnode h hL hll hm hlv hres hl hb v0 v1
  go_enter Tryz.func89,Tryz.ntmps89
  go_wp2_with (fail)
  refine HN.out.mono ?_
  rintro e w1 ⟨rfl,hs1⟩
  unfold Nd.val
  rw [HM.out]
  have hm0:((m:Nat):Int) ≥ 0:=by omega
  go_upto_region 3 with fail
  refine wp_world fun w2 hw2=>?_
  have hX:=Blk.new w1 37 #[.int .i64 m,.int .u32 n.lo,.int .u32 n.hi]
  have hs2:Same w w2:=by rw [hw2];exact hs1.alloc _
  rw [← hw2] at hX
  clear hw2
  have hk2:=H.out.same hs2
  have c6:=hk2.c6
  obtain ⟨lb,elb,hlb,hlc⟩:=hk2.lev.at1 HLV.out
  rw [elb] at c6
  replace hlc:w2.cell? ⟨lb,m,none⟩=some (.int .i64 l):=hlc
  have hkl2:=hk2.blk.lt
  have x0:=hX.cell 0
  have hxl:=hX.lt
  simp at x0
  have hmI:(m:Int) < (k.lev.length:Int):=by have:=HLL.out;omega
  have HS2:=Lib.hid hs2
  clear hX hk2 hs2 hs1 hv hvI
  refine wp_quiet (by kernel_rfl) (by kernel_rfl) ?_
  repeat (any_goals (first | go_big_quiet_step (fail) | quiet_step (fail)))
  refine wpQuiet_nil ?_
  rintro _ ⟨q,rfl⟩
  go_wp2
  go_ret
  exact ⟨rfl,HS2.out.trans (more_same _ _) (fun _ _ h=>h)⟩
 ·have hvI:¬ n.v ≥ 0:=hv
  rw [if_neg hv]
  clear hnode h hL hll hl hb v0 v1
  go_enter Tryz.func89,Tryz.ntmps89
  go_wp2_with (fail)
  refine HN.out.mono ?_
  rintro e w1 ⟨rfl,hs1⟩
  unfold Nd.val
  have hk2:=H.out.same (hs1.alloc (.cells #[.int .i64 n.v,.int .u32 n.lo,.int .u32 n.hi] 37))
  have c4:=hk2.c4
  have hkl2:=hk2.blk.lt
  simp at hkl2
  have HS1:=Lib.hid hs1
  clear hk2 hs1
  go_wp2
  go_ret
  exact ⟨rfl,HS1.out.alloc _⟩
theorem depthK_bd (hb:Bk k ext []) (hl:Lv k) (r:Int):0≤depthK k r∧depthK k r≤k.n:=by
 unfold depthK
 obtain ⟨_,v1,_⟩:=hb.nodeV r rfl
 split
 ·rename_i h
  have hlt:(getN k.ls r).v.toNat < k.lev.length:=by rw [hl.ll];omega
  obtain ⟨i,hi,hin,_⟩:=hl.l2 _ _ (List.getElem?_eq_getElem hlt)
  rw [List.getD_eq_getElem?_getD,List.getElem?_eq_getElem hlt,Option.getD_some,hi]
  omega
 ·omega
theorem kfits_any (h:KW w kp k a) (hb:Bk k ext []) (hl:Lv k) (n:Nd) (l0:0≤n.lo) (l1:n.lo < 4294967296) (h0:0≤n.hi) (h1:n.hi < 4294967296) :
  Calls Tryz.prog 55 #[.pointer (some ⟨kp,0,none⟩),.int .i64 n.v,.int .u32 n.lo,.int .u32 n.hi] w fun e w'=>e=.returned (.int .i64 (fitsK k n))∧Same w w':=by
 have hkl:=h.blk.lt
 have hvr:=fun w' (hw:Same w w')=>kvariable_any (h.same hw) n.v
 have hlo:=fun w' (hw:Same w w')=>klive_any (h.same hw) n.lo l0 l1
 have hhi:=fun w' (hw:Same w w')=>klive_any (h.same hw) n.hi h0 h1
 have hdl:=fun w' (hw:Same w w')=>kdepth_any (h.same hw) hb hl n.lo l0 l1
 have hdh:=fun w' (hw:Same w w')=>kdepth_any (h.same hw) hb hl n.hi h0 h1
 unfold fitsK levK
 obtain ⟨dl0,dl1⟩:=depthK_bd hb hl n.lo
 obtain ⟨dh0,dh1⟩:=depthK_bd hb hl n.hi
 have hn64:=hb.n64
 have hLL:=hl.ll
 have hLV:0≤n.v→n.v < k.n→∃ lv:Nat,k.lev[n.v.toNat]?=some (lv:Int)∧lv < k.n:=fun a b=>by
  obtain ⟨i,hi,hin,_⟩:=hl.l2 n.v.toNat _ (List.getElem?_eq_getElem (by rw [hl.ll];omega))
  exact ⟨i,by rw [List.getElem?_eq_getElem (by rw [hl.ll];omega),hi],hin⟩
 generalize depthK k n.lo=dl at *
 generalize depthK k n.hi=dh at *
 have HV:=Lib.hid hvr
 have HLO:=Lib.hid hlo
 have HHI:=Lib.hid hhi
 have HDL:=Lib.hid hdl
 have HDH:=Lib.hid hdh
 have H:=Lib.hid h
 have HLL:=Lib.hid hLL
 clear hvr hlo hhi hdl hdh h hb hl hLL
 by_cases hv:0≤n.v∧n.v < k.n
 ·obtain ⟨lv,hlv,hlvn⟩:=hLV hv.1 hv.2
  have HLVV:=Lib.hid hlv
  rw [if_neg (by simpa using hv)]
  have hvb:decide (0≤n.v∧n.v < k.n)=true:=by simpa using hv
  have HVV:=Lib.hid hv
  clear hLV hlv
  obtain ⟨b1,hb1⟩:∃ b,tk k.ls n.lo=b:=⟨_,rfl⟩
  obtain ⟨b2,hb2⟩:∃ b,tk k.ls n.hi=b:=⟨_,rfl⟩
  rw [hb1] at HLO ⊢
  rw [hb2] at HHI ⊢
  rw [hvb] at HV
  clear hb1 hb2 hvb hv
  cases b1 with
  | false =>
   rw [if_pos (.inl rfl)]
   go_enter Tryz.func55,Tryz.ntmps55
   go_wp2_with (fail)
   refine (HV.out _ (Frm.refl _ _)).mono ?_
   rintro e w1 ⟨rfl,rfl⟩
   go_wp2_with (fail)
   refine (HLO.out _ (Frm.refl _ _)).mono ?_
   rintro e w1 ⟨rfl,hs1⟩
   go_wp2
   go_ret
   exact ⟨rfl,hs1⟩
  | true =>
   cases b2 with
   | false =>
    rw [if_pos (.inr rfl)]
    go_enter Tryz.func55,Tryz.ntmps55
    go_wp2_with (fail)
    refine (HV.out _ (Frm.refl _ _)).mono ?_
    rintro e w1 ⟨rfl,rfl⟩
    go_wp2_with (fail)
    refine (HLO.out _ (Frm.refl _ _)).mono ?_
    rintro e w1 ⟨rfl,hs1⟩
    have HS1:=Lib.hid hs1
    clear hs1
    go_wp2_with (fail)
    refine (HHI.out _ HS1.out).mono ?_
    rintro e w2 ⟨rfl,hs2⟩
    have HS2:=Lib.hid (HS1.out.trans hs2 (fun _ _ h=>h))
    clear hs2
    go_wp2
    go_ret
    exact ⟨rfl,HS2.out⟩
   | true =>
    rw [if_neg (by simp)]
    have hlvd:k.lev.getD n.v.toNat 0=(lv:Int):=by rw [List.getD_eq_getElem?_getD,HLVV.out];rfl
    rw [hlvd]
    clear hlvd
    by_cases hee:n.lo=n.hi
    ·rw [if_neg (by simp [hee])]
     have heB:(n.lo != n.hi)=false:=by simpa using hee
     clear hee
     go_enter Tryz.func55,Tryz.ntmps55
     go_wp2_with (fail)
     refine (HV.out _ (Frm.refl _ _)).mono ?_
     rintro e w1 ⟨rfl,rfl⟩
     go_wp2_with (fail)
     refine (HLO.out _ (Frm.refl _ _)).mono ?_
     rintro e w1 ⟨rfl,hs1⟩
     have HS1:=Lib.hid hs1
     clear hs1
     go_wp2_with (fail)
     refine (HHI.out _ HS1.out).mono ?_
     rintro e w2 ⟨rfl,hs2⟩
     have HS2:=Lib.hid (HS1.out.trans hs2 (fun _ _ h=>h))
     clear hs2
     go_upto_region 5 with fail
     refine wp_quiet (by kernel_rfl) (by kernel_rfl) ?_
     repeat (any_goals (first | go_big_quiet_step (fail) | quiet_step (fail)))
     refine wpQuiet_nil ?_
     rintro _ ⟨q,rfl⟩
     go_wp2
     go_ret
     exact ⟨rfl,HS2.out.trans (more_same _ _) (fun _ _ h=>h)⟩
    ·have heB:(n.lo != n.hi)=true:=by simpa using hee
     obtain ⟨m,hm⟩:=Int.eq_ofNat_of_zero_le HVV.out.1
     have hmn:m < k.n:=by have:=HVV.out.2;omega
     have hlvm:k.lev[m]?=some (lv:Int):=by have:=HLVV.out;rwa [hm,Int.toNat_natCast] at this
     have hmI:(m:Int) < (k.lev.length:Int):=by have:=HLL.out;omega
     have HLM:=Lib.hid hlvm
     have hfin:(if n.lo≠n.hi∧min dl dh≤(lv:Int) then 4 else 0:Int)=if min dl dh≤(lv:Int) then 4 else 0:=by
      by_cases hc:min dl dh≤(lv:Int)
      ·rw [if_pos ⟨hee,hc⟩,if_pos hc]
      ·rw [if_neg (fun h=>hc h.2),if_neg hc]
     rw [hfin]
     generalize n.v=nv at *
     subst hm
     clear hee hlvm hfin HLVV HVV
     go_enter Tryz.func55,Tryz.ntmps55
     go_wp2_with (fail)
     refine (HV.out _ (Frm.refl _ _)).mono ?_
     rintro e w1 ⟨rfl,rfl⟩
     go_wp2_with (fail)
     refine (HLO.out _ (Frm.refl _ _)).mono ?_
     rintro e w1 ⟨rfl,hs1⟩
     have HS1:=Lib.hid hs1
     clear hs1
     go_wp2_with (fail)
     refine (HHI.out _ HS1.out).mono ?_
     rintro e w2 ⟨rfl,hs2⟩
     have hs2':=HS1.out.trans hs2 (fun _ _ h=>h)
     have hk2:=H.out.same hs2'
     have c6:=hk2.c6
     obtain ⟨lb,elb,hlb,hlc⟩:=hk2.lev.at1 HLM.out
     rw [elb] at c6
     replace hlc:w2.cell? ⟨lb,m,none⟩=some (.int .i64 lv):=hlc
     have hkl2:=hk2.blk.lt
     have HS2:=Lib.hid hs2'
     clear hs2 hs2' hk2
     go_upto_region 5 with fail
     refine wp_quiet (by kernel_rfl) (by kernel_rfl) ?_
     repeat (any_goals (first | go_big_quiet_step ((first | (go_at_call_of 89 (Value.int IntKind.u32 n.lo);exact quiet_call (HDL.out _ (HS2.out.trans (more_same _ _) (fun _ _ h=>h)))) | (go_at_call 89;exact quiet_call (HDH.out _ (HS2.out.trans (more_same _ _) (fun _ _ h=>h)))))) | quiet_step ((first | (go_at_call_of 89 (Value.int IntKind.u32 n.lo);exact quiet_call (HDL.out _ (HS2.out.trans (more_same _ _) (fun _ _ h=>h)))) | (go_at_call 89;exact quiet_call (HDH.out _ (HS2.out.trans (more_same _ _) (fun _ _ h=>h))))))))
     refine wpQuiet_nil ?_
     rintro _ ⟨q,rfl⟩
     by_cases hc:min dl dh≤(lv:Int)
     ·have HC:=Lib.hid hc
      go_wp2
      go_ret
      exact ⟨rfl,HS2.out.trans (more_same _ _) (fun _ _ h=>h)⟩
     ·have HC:=Lib.hid hc
      go_wp2
      go_ret
      exact ⟨rfl,HS2.out.trans (more_same _ _) (fun _ _ h=>h)⟩
 ·rw [if_pos hv]
  have hvb:decide (0≤n.v∧n.v < k.n)=false:=by simpa using hv
  rw [hvb] at HV
  clear hvb hv hLV
  go_enter Tryz.func55,Tryz.ntmps55
  go_wp2_with (fail)
  refine (HV.out _ (Frm.refl _ _)).mono ?_
  rintro e w1 ⟨rfl,rfl⟩
  go_wp2
  go_ret
  exact ⟨rfl,Frm.refl _ _⟩
theorem kseek_any (h:KW w kp k a) (n:Nd) (hn:n.ok) :
  Calls Tryz.prog 56 #[.pointer (some ⟨kp,0,none⟩),.int .i64 n.v,.int .u32 n.lo,.int .u32 n.hi] w fun e w'=>e=.returned (.tuple #[.int .u32 ((seekK k n).getD 0),.bool (seekK k n).isSome])∧Same w w':=by
 have hkl:=h.blk.lt
 have c1:=h.c1
 have hf:=uqfind_any a.U k.n k.L n hn w h.ut
 unfold seekK
 have HF:=Lib.hid hf
 clear h hf hn
 by_cases hee:n.lo=n.hi
 ·rw [if_pos hee]
  have heB:(n.lo == n.hi)=true:=by simpa using hee
  clear hee
  go_enter Tryz.func56,Tryz.ntmps56
  go_wp2
  go_ret2
  exact ⟨rfl,Frm.refl _ _⟩
 ·rw [if_neg hee]
  have heB:(n.lo == n.hi)=false:=by simpa using hee
  clear hee
  go_enter Tryz.func56,Tryz.ntmps56
  go_wp2_with (fail)
  refine HF.out.mono ?_
  rintro e w1 ⟨rfl,hs1⟩
  go_wp2
  go_ret2
  exact ⟨rfl,hs1⟩
theorem kheld_any (h:KW w kp k a) (r:Int) (h0:0≤r) (h1:r < 4294967296) (hv:∀ x,k.hs[r.toNat]?=some x→0≤x∧x≤65535) :
  Calls Tryz.prog 17 #[.pointer (some ⟨kp,0,none⟩),.int .u32 r] w fun e w'=>e=.returned (.int .i64 (k.hs.getD r.toNat 0))∧w=w':=by
 obtain ⟨m,rfl⟩:=Int.eq_ofNat_of_zero_le h0
 rw [Int.toNat_natCast] at hv ⊢
 have hkl:=h.blk.lt
 have c3:=h.c3
 by_cases hlt:m < k.hs.length
 ·have hx:=List.getElem?_eq_getElem hlt
  obtain ⟨sb,hA,hsb,_,hc,_⟩:=h.atHs hx
  rw [hA] at c3
  obtain ⟨v0,v1⟩:=hv _ hx
  have hd:k.hs.getD m 0=k.hs[m]:=by rw [List.getD_eq_getElem?_getD,hx];rfl
  rw [hd]
  generalize k.hs[m]=x at *
  have hI:¬ (m:Int) ≥ (k.hs.length:Int):=by omega
  have hI2:(m:Int) < (k.hs.length:Int):=by omega
  clear h hx hd hv hA
  go_enter Tryz.func17,Tryz.ntmps17
  go_wp2
  go_ret
  exact ⟨rfl,rfl⟩
 ·have hd:k.hs.getD m 0=0:=by rw [List.getD_eq_getElem?_getD,List.getElem?_eq_none (by omega)];rfl
  rw [hd]
  have hI:(m:Int) ≥ (k.hs.length:Int):=by omega
  clear h hv hd
  go_enter Tryz.func17,Tryz.ntmps17
  go_wp2
  go_ret
  exact ⟨rfl,rfl⟩
theorem knodeq_any (h:KW w kp k a) (r:Int) (h0:0≤r) (h1:r < 4294967296) :
  Calls Tryz.prog 20 #[.pointer (some ⟨kp,0,none⟩),.int .u32 r] w fun e w'=>e=.returned (.tuple #[(getN k.ls r).val,.int .i64 (getE k.ls r)])∧Same w w':=by
 have hkl:=h.blk.lt
 have hlv:=fun w' (hw:Same w w')=>klive_any (h.same hw) r h0 h1
 have hnd:=fun w' (hw:Same w w')=>knode_any (h.same hw) r h0 h1
 have HL:=Lib.hid hlv
 have HN:=Lib.hid hnd
 obtain ⟨b,hb⟩:∃ b,tk k.ls r=b:=⟨_,rfl⟩
 rw [hb] at HL
 have hgE:getE k.ls r=if b then 0 else 3:=by unfold getE;rw [hb]
 have hgN:b=false→getN k.ls r=zNd:=by
  intro h
  rw [h] at hb
  unfold tk at hb
  unfold getN
  cases hp:k.ls[r.toNat]? with
  | none=>rfl
  | some p=>rw [hp] at hb;simp only at hb ⊢;rw [hb];rfl
 rw [hgE]
 have HGN:=Lib.hid hgN
 clear h hlv hnd hb hgE hgN
 have hle:w.heap.size≤w.heap.size:=Nat.le_refl _
 cases b with
 | false =>
  rw [HGN.out rfl]
  clear HN
  go_enter Tryz.func20,Tryz.ntmps20
  go_wp2_with (fail)
  refine call_world fun w1 hw1=>?_
  have hs1:Same w w1:=by rw [hw1];exact (Frm.refl _ _).alloc _
  have hX:=Blk.new w 37 #[.int .i64 0,.int .u32 0,.int .u32 0]
  rw [← hw1] at hX
  clear hw1
  refine (HL.out _ hs1).mono ?_
  rintro e w2 ⟨rfl,hs2⟩
  have hX2:=hX.frm hs2 id
  have x0:=hX2.cell 0
  have x1:=hX2.cell 1
  have x2:=hX2.cell 2
  have f0:=hX2.free 0
  have f1:=hX2.free 1
  have f2:=hX2.free 2
  have hxl:=hX2.lt
  simp at x0 x1 x2
  have HX:=Lib.hid hX2
  have HS:=Lib.hid (hs1.trans hs2 (fun _ _ h=>h))
  clear hX hX2 hs1 hs2
  go_wp2
  refine bodyPost_ret (v:=.tuple #[zNd.val,.int .i64 3]) ?_ rfl ⟨rfl,?_⟩
  ·have hY:=((HX.out.set 0 (.int .i64 0)).set 1 (.int .u32 0)).set 2 (.int .u32 0)
   generalize ((w2.setCell ⟨w.heap.size,0,none⟩ (.int .i64 0)).setCell ⟨w.heap.size,1,none⟩ (.int .u32 0)).setCell ⟨w.heap.size,2,none⟩ (.int .u32 0)=W at hY ⊢
   have y0:=hY.cell 0
   have y1:=hY.cell 1
   have y2:=hY.cell 2
   simp at y0 y1 y2
   simp [results,Tryz.results20,go_sem,Nd.val,zNd,y0,y1,y2]
  ·exact ((HS.out.setNew _ _ hle).setNew _ _ hle).setNew _ _ hle
 | true =>
  clear HGN
  generalize getN k.ls r=n at *
  go_enter Tryz.func20,Tryz.ntmps20
  go_wp2_with (fail)
  refine call_world fun w1 hw1=>?_
  have hs1:Same w w1:=by rw [hw1];exact (Frm.refl _ _).alloc _
  have hX:=Blk.new w 37 #[.int .i64 0,.int .u32 0,.int .u32 0]
  rw [← hw1] at hX
  clear hw1
  refine (HL.out _ hs1).mono ?_
  rintro e w2 ⟨rfl,hs2⟩
  have hX2:=hX.frm hs2 id
  have HX:=Lib.hid hX2
  have HS:=Lib.hid (hs1.trans hs2 (fun _ _ h=>h))
  clear hX hX2 hs1 hs2
  go_wp2_with (fail)
  refine (HN.out _ HS.out).mono ?_
  rintro e w3 ⟨rfl,hs3⟩
  unfold Nd.val
  have hX2:=HX.out.frm hs3 id
  have x0:=hX2.cell 0
  have x1:=hX2.cell 1
  have x2:=hX2.cell 2
  have f0:=hX2.free 0
  have f1:=hX2.free 1
  have f2:=hX2.free 2
  have hxl:=hX2.lt
  simp at x0 x1 x2
  have HX3:=Lib.hid hX2
  have HS3:=Lib.hid (HS.out.trans hs3 (fun _ _ h=>h))
  clear hX2 hs3 HX HS
  go_wp2
  refine bodyPost_ret (v:=.tuple #[n.val,.int .i64 0]) ?_ rfl ⟨rfl,?_⟩
  ·have hY:=((HX3.out.set 0 (.int .i64 n.v)).set 1 (.int .u32 n.lo)).set 2 (.int .u32 n.hi)
   generalize ((w3.setCell ⟨w.heap.size,0,none⟩ (.int .i64 n.v)).setCell ⟨w.heap.size,1,none⟩ (.int .u32 n.lo)).setCell ⟨w.heap.size,2,none⟩ (.int .u32 n.hi)=W at hY ⊢
   have y0:=hY.cell 0
   have y1:=hY.cell 1
   have y2:=hY.cell 2
   simp at y0 y1 y2
   simp [results,Tryz.results20,go_sem,Nd.val,y0,y1,y2]
  ·exact ((HS3.out.setNew _ _ hle).setNew _ _ hle).setNew _ _ hle
end
section
variable {k:KS} {ext ext':List Int} {X:List Ent}
theorem bk_hs (h:Bk k ext X) {n:Nd} {r h':Int} (hm:(n,r)∈k.L ++ X) (h0:0≤h') (h1:h'≤65535)
  (hc:(if h'=0 then 0 else 1)+ext'.count r=(if k.hs.getD r.toNat 0=0 then 0 else 1)+ext.count r) (ho:∀ q,q≠r→ext'.count q=ext.count q)
  (he:∀ q∈ext',q=r∨q∈ext) (hb:ext'.length+k.L.length≤8000000):Bk { k with hs:=k.hs.set r.toNat h' } ext' X:=by
 obtain ⟨m,rfl,m2,mu,ml⟩:=h.mem _ _ hm
 have hlt:m < k.hs.length:=by rw [← h.ul];exact mu
 rw [Int.toNat_natCast] at hc ⊢
 refine ⟨h.n1,h.n64,h.c2,h.cM,h.l0,h.l1,h.mem,h.conv,h.kn,h.rn,h.fre,h.fn,h.cnt,h.cntl,h.lim,by show k.us.length=(k.hs.set m h').length;rw [List.length_set];exact h.ul,h.ulm,h.chl,?_,?_,?_,hb⟩
 ·intro n' q hq
  obtain ⟨i,rfl,i2,iu,il⟩:=h.mem _ _ hq
  rw [h.use n' i hq]
  show _=some ((par k.L (i:Int)+(if (k.hs.set m h').getD (i:Int).toNat 0=0 then 0 else 1)+ext'.count (i:Int):Nat):Int)
  rw [Int.toNat_natCast,getD_set hlt]
  by_cases hmi:m=i
  ·subst hmi
   rw [if_pos rfl]
   congr 2
   omega
  ·rw [if_neg hmi,ho _ (by omega)]
 ·intro i x hx
  replace hx:(k.hs.set m h')[i]?=some x:=hx
  rw [List.getElem?_set] at hx
  by_cases hmi:m=i
  ·subst hmi
   rw [if_pos rfl,if_pos hlt] at hx
   injection hx with hx
   subst hx
   exact ⟨h0,h1,fun _=>⟨n,hm⟩⟩
  ·rw [if_neg hmi] at hx
   exact h.hol i x hx
 ·intro q hq
  rcases he q hq with rfl | hq
  ·exact ⟨by omega,(h.memL hm).2.2⟩
  ·exact h.exl q hq
theorem bk_hold {r:Int} (h:Bk k (r :: ext) X) {n:Nd} (hm:(n,r)∈k.L ++ X) (h0:k.hs.getD r.toNat 0=0):Bk { k with hs:=k.hs.set r.toNat 1 } ext X:=by
 have hbd:=h.bd
 simp only [List.length_cons] at hbd
 refine bk_hs (ext':=ext) h hm (by omega) (by omega) ?_ ?_ (fun q hq=>.inr (List.mem_cons_of_mem _ hq)) (by omega)
 ·rw [h0,List.count_cons_self];simp <;> omega
 ·intro q hq
  rw [List.count_cons_of_ne (fun h=>hq h.symm)]
theorem bk_unhold {r:Int} (h:Bk k ext X) {n:Nd} (hm:(n,r)∈k.L ++ X) (h0:k.hs.getD r.toNat 0≠0) (hb:ext.length+1+k.L.length≤8000000):Bk { k with hs:=k.hs.set r.toNat 0 } (r :: ext) X:=by
 refine bk_hs (ext':=r :: ext) h hm (by omega) (by omega) ?_ ?_ (fun q hq=>(List.mem_cons.1 hq).elim .inl .inr) (by simp only [List.length_cons];omega)
 ·rw [if_neg h0,List.count_cons_self];simp <;> omega
 ·intro q hq
  rw [List.count_cons_of_ne (fun h=>hq h.symm)]
theorem bk_more {r h':Int} (h:Bk k ext X) {n:Nd} (hm:(n,r)∈k.L ++ X) (h0:k.hs.getD r.toNat 0≠0) (h1:0 < h') (h2:h'≤65535):Bk { k with hs:=k.hs.set r.toNat h' } ext X:=by
 refine bk_hs (ext':=ext) h hm (by omega) (by omega) ?_ (fun _ _=>rfl) (fun q hq=>.inr hq) h.bd
 rw [if_neg h0,if_neg (by omega)]
theorem Bk.tr (h:Bk k ext X) (t:List Int):Bk { k with tr:=t } ext X:=⟨h.n1,h.n64,h.c2,h.cM,h.l0,h.l1,h.mem,h.conv,h.kn,h.rn,h.fre,h.fn,h.cnt,h.cntl,h.lim,h.ul,h.ulm,h.chl,h.use,h.hol,h.exl,h.bd⟩
end
def holdK (k:KS) (r:Int):KS:={ (if k.hs.getD r.toNat 0=0 then useK k r else k) with hs:=k.hs.set r.toNat (k.hs.getD r.toNat 0+1) }
def keepK (k:KS) (r:Int):Int × KS:=if tk k.ls r=false then (3,k) else if 1 < r then (if k.hs.getD r.toNat 0=65535 then (8,k) else (0,{ holdK k r with tr:=[] })) else (0,{ k with tr:=[] })
def unholdK (k:KS) (r:Int):KS:=if k.hs.getD r.toNat 0=1 then relK { k with hs:=k.hs.set r.toNat 0 } r else { k with hs:=k.hs.set r.toNat (k.hs.getD r.toNat 0 - 1) }
def dropK (k:KS) (r:Int):Int × KS:=if 1 < r then (if k.hs.getD r.toNat 0=0 then (3,k) else (0,{ unholdK k r with tr:=[] })) else (0,{ k with tr:=[] })
theorem held_mem {k:KS} {ext:List Int} {X:List Ent} (h:Bk k ext X) {r:Int} (h0:0≤r) (hh:k.hs.getD r.toNat 0≠0):∃ n,(n,r)∈k.L ++ X:=by
 obtain ⟨m,rfl⟩:=Int.eq_ofNat_of_zero_le h0
 rw [Int.toNat_natCast,List.getD_eq_getElem?_getD] at hh
 cases hx:k.hs[m]? with
 | none=>rw [hx] at hh;exact absurd rfl hh
 | some x =>
  rw [hx] at hh
  exact (h.hol m x hx).2.2 hh
end Go.Proofs.YtiomgckodmecbaaGreat
