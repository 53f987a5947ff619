/- Contracts and plain laws, put together in one file. No condition. -/
import Derived.Test.YtiomgckodmecbaaGreatJKernelRoom4
import Derived.Carry
import Derived.Test.YtiomgckodmecbaaGreatProg
import Derived.Sort.MapsRangeIn
import Derived.Sort.KeysCollected
import Derived.RangeFuncMany
import Derived.WalkKit
import Derived.OwnWalkIn
import Derived.TacticsInMore
import Derived.RegionIn
import Derived.LoopNIn
import Derived.LoopIn
import Derived.Shelf.AbstractIn
import Derived.WideKeyEntry

set_option maxRecDepth 100000
set_option maxHeartbeats 32000000
namespace Go.Proofs.YtiomgckodmecbaaGreat
open Go.RowKit Go.Tk
def FT:Option Value→Nat
 | some (.int _ n)=>n.toNat
 | _=>0
def lenOf (v:Value):Nat:=mI (some v)
section
variable {w:World} {kp:Nat} {k:KS} {a:KA} {ext:List Int} {X:List bN} {n:Nd} {r0:Int}
theorem KW.less (h:KW w kp k a) {sb m:Nat} (hA:a.uA=some ⟨sb,0,none⟩) (hi:m<k.us.length) :
  KW (w.setCell ⟨sb,m,none⟩ (.int .i32 (k.us.getD m 0-1))) kp (dW k m) a∧cZ k.n kp w a (w.setCell ⟨sb,m,none⟩ (.int .i32 (k.us.getD m 0-1))) a:=h.FN hA hi _
theorem lD (h:KW w kp k a) (hb:Bk k (r0::ext) []) :
  Calls Tryz.prog 61 #[.pointer (some ⟨kp,0,none⟩),.int .u32 r0] w fun e w'=>e=.returned (.tuple #[])∧∃ a',KW w' kp (jh k r0) a'∧cZ k.n kp w a w' a':=by
 have hr0:=(hb.Ap r0 (List.mem_cons_self ..)).1;have HB:=Lib.hid hb;have HH:=Lib.hid h;have hkl:=h.blk.lt;clear hb h;go_enter Tryz.func61,Tryz.ntmps61;go_wp2_with (fail)
 refine ai fun w1 hw1=>?_
 have hs1:Same w w1:=by rw[hw1];exact(ah.refl _ _).alloc _
 have hT:=Go.Tk.Own.lit w 28 (fun x=>[rc x]) (fun _=>rfl) [r0] (by simp[maxLen]) (cs:=#[.int .u32 r0]) (by simp[rc]);have hT1:Row1 w1 28 rc (some ⟨w.heap.size,0,none⟩) 1 1 [r0]:=by rw[hw1];exact hT
 have V4:∀ b,rowOf (some ⟨w.heap.size,0,none⟩:Option Addr) b→¬ gX k.n kp a b:=by
  rintro b ⟨ad,hx,rfl⟩ hk;injection hx with hx
  subst hx
  have:=HH.out.lt hk
  simp at this
 have HT1:=Lib.hid hT1;have U1:=Lib.hid V4;have aX:=Lib.hid hs1;clear hw1 hT hT1 V4 hs1;go_loopw [4] (fun t wr=>∃ f k' a' st A C,Bk k' (st++ext) []∧3*k'.L.length+st.length≤f∧fC f k' st=jh k r0∧k'.n=k.n∧a'.g=a.g∧KW wr kp k' a'∧cZ k.n kp w a wr a'∧t=.slice A st.length C∧Row1 wr 28 rc A st.length C st.reverse∧(∀ b,rowOf A b→¬ gX k.n kp a' b)∧(∀ b,rowOf A b→w.heap.size≤b)) (fun t wr=>3*FT (wr.cell? ⟨a.g,3,none⟩)+lenOf t)
 case atStart =>
  refine⟨3*k.ac+1,k,a,[r0],some ⟨w.heap.size,0,none⟩,1,HB.out,?_,rfl,rfl,rfl,HH.out.same aX.out,cZ.same aX.out,rfl,HT1.out,U1.out,bR (Nat.le_refl _)⟩
  have:=HB.out.cnt
  simp at this ⊢;omega
 case round =>
  obtain⟨f,k',a',st,A,C,hb',hf,hrel,hkn,hag,hk',hg',rfl,hT,V4,U2⟩:=hrel
  have HM:Hid (FT (wr.cell? ⟨a.g,3,none⟩)=k'.ac):=Lib.hid (by
   rw[← hag,hk'.ar.blk.cell 3];rfl)
  have u7:=Lib.hid hb';have HF:=Lib.hid hf;have Ef:=Lib.hid hrel;have xD:=Lib.hid hkn;have V5:=Lib.hid hag;have V6:=Lib.hid hk';have V7:=Lib.hid hg';have HT:=Lib.hid hT;have U1:=Lib.hid V4;have K4:=Lib.hid U2;clear U2;have hkl':=hk'.blk.lt;clear hb' hf hrel hkn hag hk' hg' hT V4;cases st with
  | nil =>
   go_wp2;go_end0
   refine⟨rfl,a',?_,V7.out⟩;have e:fC f k' []=k':=by cases f <;> rfl
   rw[← Ef.out,e];exact V6.out
  | cons r st =>
   replace u7:Hid (Bk k' (r::(st++ext)) []):=u7;obtain⟨f,rfl⟩:∃ f',f=f'+1:=⟨f-1,by have:=HF.out;simp only[List.length_cons] at this;omega⟩;obtain⟨tb,rfl,tbl,V8⟩:=HT.out.dQ (i:=st.length) (x:=r) (by simp);have Bl:Row1 wr 28 rc (some ⟨tb,0,none⟩) st.length C st.reverse:=by
    have:=HT.out
    rw[List.reverse_cons] at this
    have:=Go.Tk.Own.pop (f:=fun x=>[rc x]) (fun _=>rfl) this
    rwa [List.length_reverse] at this
   have hsl:st.length+1≤C∧C<9223372036854775808:=by
    have:=HT.out
    simp only[List.length_cons] at this;rcases this.own.2 with⟨h0,_⟩ | ⟨_,cap,_,h1,_,_,h3,h4,_⟩
    ·cases h0
    ·injection h1 with _ _ h1
     subst h1;unfold maxLen at h4;omega
   obtain⟨hs1,hs2⟩:=hsl;replace V8:wr.cell? ⟨tb,st.length,none⟩=some (.int .u32 r):=V8;have hc1:((st.length:Int)+1)>0:=by omega
   have xE:=Lib.hid Bl;clear Bl;simp only[List.length_cons];obtain⟨OH,hrt⟩:=u7.out.Ap r (List.mem_cons_self ..);have hrl:=u7.out.lt OH hrt;have ZF:=Lib.hid hrt;clear hrt;by_cases VV:r≤1
   ·have hrel:fC (f+1) k' (r::st)=fC f k' st:=by simp[fC,VV]
    rw[hrel] at Ef;have hb2:Bk k' (st++ext) []:=Bj u7.out VV;have HB2:=Lib.hid hb2;clear hb2 hrel;go_wp2;go_roundw
    case rel =>
     refine⟨f,k',a',st,_,C,HB2.out,by have:=HF.out;simp only[List.length_cons] at this;omega,Ef.out,xD.out,V5.out,V6.out,V7.out,rfl,xE.out,U1.out,K4.out⟩
    case measure=>simp[lenOf,mI]
   ·obtain⟨n,hm⟩:∃ n,(n,r)∈k'.L:=by
     rcases(u7.out.NT OH).1 ZF.out with h | h | ⟨n,h⟩
     ·omega
     ·omega
     ·exact⟨n,by simpa using h⟩
    obtain⟨m,rfl⟩:=Int.eq_ofNat_of_zero_le OH;obtain⟨hu1,hu2⟩:=u7.out.KY (List.mem_append_left _ hm);rw[Int.toNat_natCast] at hu1 hu2;obtain⟨u,hu⟩:∃ u,k'.us.getD m 0=u:=⟨_,rfl⟩;have hu0:1≤u:=by
     rw[← hu,hu1,List.count_cons_self];omega
    have huM:u≤16000001:=by
     obtain⟨x,_,e2,e3,_⟩:=u7.out.uX (List.mem_append_left _ hm);rw[Int.toNat_natCast,hu] at e2;omega
    have hug:k'.us[m]?=some u:=by
     rw[← hu,List.getD_eq_getElem?_getD,List.getElem?_eq_getElem hu2];rfl
    obtain⟨ub,hub,ubl,ubk,ubc,ubf⟩:=V6.out.OB hug;have hle:=V6.out.less hub hu2;rw[hu] at hle;have g2:=V6.out.c2;rw[hub] at g2;have R7:(m:Int)<k'.us.length:=by omega
    have J5:=Lib.hid hm;have Dm:=Lib.hid hle;have HU:=Lib.hid hu;have HUB:=Lib.hid hub;have hbl:=tY u7.out (by omega);have QN:=Lib.hid hbl;clear hm hle hu hub hu1 hug hbl;by_cases hu1:1<u
    ·have hrel:fC (f+1) k' (m::st)=fC f (dW k' m) st:=by
      have:=HU.out
      simp only[fC];rw[if_neg VV,if_pos (by rw[Int.toNat_natCast,this];exact hu1)]
     rw[hrel] at Ef;clear hrel;have hg1:cZ k'.n kp wr a' _ a':=Dm.out.2;have zm:=Lib.hid hg1;clear hg1;go_wp2;go_roundw
     case rel =>
      have hg:=zm.out;rw[xD.out] at hg;have hTF:∀ b,rowOf (some ⟨tb,0,none⟩:Option Addr) b→¬ gX k.n kp a' b:=U1.out;refine⟨f,dW k' m,a',st,_,C,QN.out,by have:=HF.out;simp only[List.length_cons] at this;show 3*k'.L.length+_≤_;omega,Ef.out,xD.out,V5.out,Dm.out.1,V7.out.trans hg,rfl,?_,U1.out,K4.out⟩;exact xE.out.ag hg.ag (fun ad h=>hTF _ ⟨ad,h,rfl⟩)
     case measure =>
      have h1:=HM.out;have h2:=Dm.out.1.ar.blk.cell 3;rw[V5.out] at h2;rw[h1,h2];simp[lenOf,mI,FT,dW]
    ·have hrel:fC (f+1) k' (m::st)=fC f (iH (iG (dW k' m) n) m) (n.hi::n.lo::st):=by
      have h1:=HU.out;have h2:=(u7.out.jG (List.mem_append_left _ J5.out)).2.1;simp only[fC];rw[if_neg VV,if_neg (by rw[Int.toNat_natCast,h1];exact hu1),h2]
     rw[hrel] at Ef;clear hrel;have mJ:=fun w' (hw:KW w' kp (dW k' m) a')=>ig hw (m:Int) OH (by omega)
     have hn1:aI (dW k' m).ls (m:Int)=n:=(u7.out.jG (List.mem_append_left _ J5.out)).2.1;rw[hn1] at mJ;have QO:=Lib.hid mJ;clear mJ hn1;go_upto_region 8 with fail
     refine ai fun w3 hw3=>?_
     rw[← hw3] at Dm;clear hw3;go_wp2_with (fail)
     refine(QO.out _ Dm.out.1).mono ?_;rintro e w4 ⟨rfl,hs4⟩;unfold Nd.val;have hk4:=Dm.out.1.same hs4;have J3:=Lib.hid hk4;have iB:=Lib.hid hs4;have ab3:=hk4.blk.lt;clear hk4 hs4 QO;go_upto_region 9 with fail
     refine ai fun w5 lu=>?_
     have hX:=ax.new w4 37 #[.int .i64 n.v,.int .u32 n.lo,.int .u32 n.hi];have hs5:Same w4 w5:=by rw[lu];exact(ah.refl _ _).alloc _
     rw[← lu] at hX;clear lu;have hk5:=J3.out.same hs5;have c1:=hk5.c1;have ab4:=hk5.blk.lt;have x0:=hX.cell 0;have x1:=hX.cell 1;have x2:=hX.cell 2;have hxl:=hX.lt;simp at x0 x1 x2;have QL:¬ gX k'.n kp a' w4.heap.size:=fun hx=>by
      have:=J3.out.lt hx
      omega
     have hUk:¬ UB a'.U k'.n kp:=fun hx=>hk5.dj 6 0 kp (by omega) hx rfl
     have hUX:¬ UB a'.U k'.n w4.heap.size:=fun hx=>QL ⟨6,hx⟩
     obtain⟨v0,v1,l0,h0,lt,ht,_⟩:=u7.out.fo n _ J5.out;have V9:=u7.out.n64;have hll:=u7.out.lt l0 lt;have QS:=u7.out.lt h0 ht;have hok:n.ok:=Nd.Bh v0 (by omega) l0 (by omega) h0 (by omega);have hrm:=fun w' (hw:KW w' kp (dW k' m) a')=>yj a'.U _ _ n hok w' hw.ut
     have OI:=Lib.hid hrm;have HX:=Lib.hid hX;have pY:=Lib.hid hs5;have NU:=Lib.hid hk5;have UY:=Lib.hid QL;clear hX hs5 hk5 QL hok hrm lt ht;refine aJ (UB a'.U k'.n) [([0,1,2,3,4],5)] (by kernel_rfl) (by kernel_rfl) ?_;simp only[cK,pick,List.map_cons,List.map_nil,List.getD_cons_zero,List.getD_cons_succ];repeat (any_goals (first | go_big_quiet_step (fail) | quiet_step (fail)))
     refine wpQuiet_nil ?_;refine wpList_plain rfl fun K hK=>?_
     go_simp;refine(OI.out _ (NU.out.same ((ah.refl _ _).drew))).mono ?_;rintro e w6 ⟨rfl,U3,K5⟩;have ht6:=NU.out.table U3 (((ah.refl (UB a'.U k'.n) w5).drew).trans (S':=UB a'.U k'.n) K5 (fun _ _ h=>h));refine hK _ _ ?_;clear hK K;have Dp:KW w6 kp (iG (dW k' m) n) a':=ht6.1;have U4:cZ k'.n kp w5 a' w6 a':=ht6.2;have uY:=HX.out.ag U4.ag UY.out;have c0:=Dp.c0;have ab5:=Dp.blk.lt;have x0:=uY.cell 0;have x1:=uY.cell 1;have x2:=uY.cell 2;have hxl:=uY.lt;simp at x0 x1 x2;have hm1:(1:Int)<m:=by omega
     have hfr:=u7.out.gK;have hlim:=u7.out.lim;have UW:=u7.out.cM;have hcnt:=u7.out.cnt
     have hFR:=fun w' (hw:KW w' kp (iG (dW k' m) n) a')=>Oy (r:=m) hw.ar (by omega) (by
      show qU k'.ls m=0;unfold qU;rw[if_neg];rw[ZF.out]
      simp <;> omega) (by show -4000000<(k'.ac:Int);omega) (by show k'.fr.length≤_;omega)
     have tZ:=Lib.hid hFR;have HK6:=Lib.hid Dp;have HG6:=Lib.hid U4;have zk:=Lib.hid uY;clear hFR Dp U4 uY ht6 U3 K5 HX OI NU c1 hUk hUX;go_wp2_with (fail)
     refine(tZ.out _ HK6.out).mono ?_;rintro e w7 ⟨rfl,A2,C2,hA7,Wd,VY⟩
     have ht7:=HK6.out.RX (ac:=k'.ac-1) (by
      have:(((k'.ac-1:Nat)):Int)=(k'.ac:Int)-1:=by omega
      rw[this]
      exact hA7) Wd VY
     have VW:KW w7 kp (iH (iG (dW k' m) n) m) { a' with A':=A2,C':=C2 }:=ht7.1;have uZ:cZ k'.n kp w6 a' w7 { a' with A':=A2,C':=C2 }:=ht7.2;have qZ:=zk.out.ag uZ.ag UY.out;have x0:=qZ.cell 0;have x1:=qZ.cell 1;have x2:=qZ.cell 2;have hxl:=qZ.lt;simp at x0 x1 x2;have HK7:=Lib.hid VW;have Ik:=Lib.hid uZ;have U0:=Lib.hid qZ;clear VW uZ qZ ht7 hA7 Wd VY c0;go_upto_region 11 with fail
     refine aV 5 ?_;simp only[List.take_succ_cons,List.take_zero,List.drop_succ_cons,List.drop_zero];repeat (any_goals (first | go_big_quiet_step (fail) | quiet_step (fail)))
     refine wpQuiet_nil ?_;refine wpList_plain rfl fun K hK=>?_
     go_simp;refine hK _ _ ?_;clear hK K;refine aQ fun wa dR=>?_
     have hM:=ax.new w7 28 #[.int .u32 n.lo,.int .u32 n.hi];have hsa:Same w7 wa:=by rw[dR];exact(ah.refl _ _).alloc _
     rw[← dR] at hM;clear dR;have hbd:=u7.out.bd;simp only[List.length_cons,List.length_append] at hbd;have hgo:cZ k'.n kp wr a' wa { a' with A':=A2,C':=C2 } :=
      ((((Dm.out.2.trans (cZ.same iB.out)).trans (cZ.same pY.out)).trans HG6.out).trans Ik.out).trans (cZ.same hsa)
     have hTF:∀ b,rowOf (some ⟨tb,0,none⟩:Option Addr) b→¬ gX k.n kp a' b:=U1.out;have We:∀ b,rowOf (some ⟨tb,0,none⟩:Option Addr) b→¬ gX k'.n kp a' b:=by rw[xD.out];exact hTF
     have NW:=xE.out.ag hgo.ag (fun ad h=>We _ ⟨ad,h,rfl⟩);have hka:=HK7.out.same hsa;have HKA:=Lib.hid hka;have Aq:=Lib.hid hgo;clear hka hgo;refine wpList_plain rfl fun K hK=>?_
     refine Own.bT (f:=fun x=>[rc x]) (.tmp 57) (.tmp 62) _ rfl Tryz.underlying40 iE rfl (by omega) rfl NW (fun _=>rfl) [n.lo,n.hi] (some ⟨w7.heap.size,0,none⟩) 2 rfl (fun _=>⟨_,rfl,sH (by simpa [rc] using hM)⟩) (by simp[Value.oneCell',rc]) (by simp[maxLen] <;> omega) (by simp <;> omega) ?_;intro A3 C3 wb OJ hgb hat;refine hK _ _ ?_;clear hK K;have hTA:∀ b,rowOf (some ⟨tb,0,none⟩:Option Addr) b→¬ gX k.n kp { a' with A':=A2,C':=C2 } b:=by
      rw[← xD.out]
      exact Aq.out.apart We (by
       rintro b ⟨ad,hx,rfl⟩;injection hx with hx
       subst hx
       exact tbl)
     have wZ:ah (fun b=>rowOf (some ⟨tb,0,none⟩:Option Addr) b) wa wb:=(ah.refl _ _).grown hgb (fun g hg=>.inl (af.1 hg));have hkb:=HKA.out.ag wZ (fun b hb hr=>hTA b hr (by rw[← xD.out];exact hb));have Wh:cZ k.n kp w a wb { a' with A':=A2,C':=C2 }:=by
      have h1:=Aq.out;rw[xD.out] at h1;have h2:=V7.out.trans h1;exact⟨h2.ag.grown hgb (fun g hg=>.inr (K4.out g (af.1 hg))),h2.fp⟩
     have Wi:∀ b,rowOf A3 b→w.heap.size≤b:=by
      intro b hb;rcases hat b hb with h | h
      ·exact K4.out b h
      ·have h1:=V7.out.ag.size;have h2:=Aq.out.ag.size;omega
     have Wj:∀ b,rowOf A3 b→¬ gX k.n kp { a' with A':=A2,C':=C2 } b:=by
      intro b hb hk;rcases hat b hb with h | h
      ·exact hTA b h hk
      ·rw[← xD.out] at hk
       have:=HKA.out.lt hk
       omega
     have aal:=Lib.hid Wh;have aam:=Lib.hid Wi;have aan:=Lib.hid Wj;clear Wh Wi Wj;have QT:=Lib.hid OJ;have J6:=Lib.hid hkb;clear OJ hgb hTA wZ hkb;go_wp2;go_roundw
     case rel =>
      refine⟨f,_,{ a' with A':=A2,C':=C2 },n.hi::n.lo::st,A3,C3,FR u7.out J5.out (by have:=HU.out;rw[Int.toNat_natCast,this];omega),?_,Ef.out,xD.out,V5.out,J6.out,aal.out,by simp,?_,aan.out,aam.out⟩
      ·have h1:=HF.out;have h2:=(gN u7.out.kn J5.out).length_eq;have h3:=(u6 QN.out (n:=n) J5.out).1;show 3*(iG (dW k' m) n).L.length+_≤_;rw[h3];show 3*(without n k'.L).length+_≤_;simp only[List.length_cons] at h1 h2 ⊢;omega
      ·have:=QT.out
       simpa using this
     case measure =>
      have h1:=HM.out;have h2:=J6.out.ar.blk.cell 3;have e:({ a' with A':=A2,C':=C2 }:KA).g=a.g:=V5.out;rw[e] at h2;have h3:=u7.out.cnt;rw[h1,h2];simp[lenOf,mI,FT,iH,iG,dW];omega
end
def Wl (k:KS) (n:Nd):Option Int→Int×KS
 | some r=>(r,k)
 | none=>((au k:Int),aH k n)
def dw (k:KS) (n:Nd):Int×KS:=if n.lo=n.hi then (n.lo,k) else Wl k n (look k.L n)
section
variable {w:World} {kp:Nat} {k:KS} {a:KA} {ext:List Int} {X:List bN} {n:Nd}
theorem Bn (h:KW w kp k a) (hb:Bk k ext X) (hn:jH k n) (hc:n.lo≠n.hi→look k.L n=none→k.ac<k.c) :
  Calls Tryz.prog 99 #[.pointer (some ⟨kp,0,none⟩),.int .i64 n.v,.int .u32 n.lo,.int .u32 n.hi] w fun e w'=>e=.returned (.int .u32 (dw k n).1)∧∃ a',KW w' kp (dw k n).2 a'∧cZ k.n kp w a w' a':=by
 by_cases he:n.lo=n.hi
 ·have e:dw k n=(n.lo,k):=by unfold dw;rw[if_pos he]
  rw[e];have J7:(n.lo == n.hi)=true:=by simpa using he
  have H:=Lib.hid h;clear e he h hc hb hn;go_enter Tryz.func99,Tryz.ntmps99;go_wp2;go_ret;exact⟨rfl,a,H.out,cZ.refl _ _ _ _⟩
 ·have J7:(n.lo == n.hi)=false:=by simpa using he
  have hok:=hn.ok hb;have hfd:=fun w' (hw:KW w' kp k a)=>oP a.U _ _ n hok w' hw.ut
  have hlen:=hn.lt hb;have htk:=fun (hnone:look k.L n=none) w' (hw:KW w' kp k a)=>yt hw hb hn (hc he hnone) he (bX.1 hnone)
  obtain⟨l,hl⟩:∃ l,look k.L n=l:=⟨_,rfl⟩;have e:dw k n=Wl k n l:=by unfold dw;rw[if_neg he,hl]
  rw[e];rw[hl] at hfd htk;have HFD:=Lib.hid hfd;have HTK:=Lib.hid htk;have H:=Lib.hid h;have hkl:=h.blk.lt;clear e he h hc hb hn hfd htk hl hok hlen;go_enter Tryz.func99,Tryz.ntmps99;go_upto_region 4 with fail
  refine ai fun w1 hw1=>?_
  have hX:=ax.new w 37 #[.int .i64 n.v,.int .u32 n.lo,.int .u32 n.hi];have hs1:Same w w1:=by rw[hw1];exact(ah.refl _ _).alloc _
  rw[← hw1] at hX;clear hw1;have hk1:=H.out.same hs1;have c1:=hk1.c1;have Il:=hk1.blk.lt;have x0:=hX.cell 0;have x1:=hX.cell 1;have x2:=hX.cell 2;have hxl:=hX.lt;simp at x0 x1 x2;have HX:=Lib.hid hX;have pq:=Lib.hid hk1;have aX:=Lib.hid hs1;clear hX hk1 hs1 hkl;refine aJ (fun _=>False) [([0,1,2,3,4],5),([6,7,8,9],10)] (by kernel_rfl) (by kernel_rfl) ?_;simp only[cK,pick,List.map_cons,List.map_nil,List.getD_cons_zero,List.getD_cons_succ];repeat (any_goals (first | go_big_quiet_step (fail) | quiet_step (fail)))
  refine wpQuiet_nil ?_;refine aa rfl fun K hK=>?_
  go_simp;refine(HFD.out _ (pq.out.same (ah.refl _ _).drew)).mono ?_;rintro e w2 ⟨rfl,hs2⟩;have kI:Same w1 w2:=(ah.refl _ _).drew.trans hs2 (fun _ _ h=>h);refine hK _ _ (aZ.bu kI) ?_;clear hK K hs2;have hX2:=HX.out.ag kI id;have hk2:=pq.out.same kI;have ZB:=Lib.hid hk2;have HS2:=Lib.hid kI;have x0:=hX2.cell 0;have x1:=hX2.cell 1;have x2:=hX2.cell 2;have Wm:=hX2.lt;simp at x0 x1 x2;clear hX2 hk2 kI HX pq HFD;have HG:Hid (cZ k.n kp w a w2 a):=Lib.hid ((cZ.same aX.out).trans (cZ.same HS2.out));cases l with
  | some r =>
   repeat (any_goals (first | go_big_quiet_step (fail) | quiet_step (fail)))
   refine wpQuiet_nil ?_;go_wp2;go_ret;exact⟨rfl,a,ZB.out,HG.out⟩
  | none =>
   repeat (any_goals (first | go_big_quiet_step (fail) | quiet_step (fail)))
   refine wpQuiet_nil ?_;go_wp2_with (fail)
   refine(HTK.out trivial _ ZB.out).mono ?_;rintro e w3 ⟨rfl,a3,hk3,hg3⟩;have FO:=Lib.hid hk3;have Bi:=Lib.hid (HG.out.trans hg3);clear hk3 hg3;go_wp2;go_ret;exact⟨rfl,a3,FO.out,Bi.out⟩
end
def nZ (k:KS) (r:Int) (n:Nd):KS:={ k with ls:=k.ls.set r.toNat ⟨n,true,0⟩ }
section
variable {w:World} {kp:Nat} {k:KS} {a:KA} {ext:List Int} {X:List bN} {n:Nd}
theorem Bo (h:KW w kp k a) (hn:n.ok) :
  Calls Tryz.prog 95 #[.pointer (some ⟨a.U.T,0,none⟩),n.val] w fun e w'=>e=.returned (.int .i64 (Ie k.n k.L n))∧KW w' kp (iG k n) a∧cZ k.n kp w a w' a∧ah (UB a.U k.n) w w':=by
 refine(yj a.U _ _ n hn w h.ut).mono ?_;rintro e w' ⟨rfl,hu,hf⟩;obtain⟨g1,g2⟩:=h.table hu hf;exact⟨rfl,g1,g2,hf⟩
theorem K6 (h:KW w kp k a) (hn:n.ok) (r:Int) (h0:0≤r) (h1:r<4294967296) (hl:k.L.length<maxLen) :
  Calls Tryz.prog 93 #[.pointer (some ⟨a.U.T,0,none⟩),n.val,.int .u32 r] w fun e w'=>e=.returned (.int .i64 (OA k.n k.L n))∧KW w' kp (pU k n r) a∧cZ k.n kp w a w' a∧ah (UB a.U k.n) w w':=by
 have hrw:(Lit.int .u32 r).wf=true:=by simp[Lit.wf,IntKind.min,IntKind.max,IntKind.signed,IntKind.bits] <;> omega
 refine(yh a.U _ _ n hn r hrw hl w h.ut).mono ?_;rintro e w' ⟨rfl,hu,hf⟩;obtain⟨g1,g2⟩:=h.table hu hf;exact⟨rfl,g1,g2,hf⟩
theorem K7 (h:KW w kp k a) (hb:Bk k ext X) (hn:jH k n) {m:Nat} (h2:2≤m) {n0:Nd} (hm:k.ls[m]?=some ⟨n0,true,0⟩) :
  Calls Tryz.prog 100 #[.pointer (some ⟨a.g,0,none⟩),.int .u32 m,n.val] w fun e w'=>e=.returned (.int .i64 0)∧KW w' kp (nZ k m n) a∧cZ k.n kp w a w' a∧ah (qH a.g a.A a.A') w w':=by
 have hlt:=hn.lt hb;have hml:=aY hm;have hlim:=hb.lim;have UW:=hb.cM;have hl0:=hn.l0;have hh0:=hn.h0;have htk:tk k.ls (m:Int)=true:=jX.2 ⟨_,hm,rfl⟩;have how:qU k.ls (m:Int)=0:=by
  unfold qU;rw[if_neg (by rw[htk];simp <;> omega)]
 refine(RU h.ar n (by omega) hl0 (by omega) hh0 (by omega) (hn.ck hb) how hm).mono ?_;rintro e w' ⟨rfl,hA,hf⟩;obtain⟨g1,g2⟩:=h.arena (ac:=k.ac) (A2:=a.A) (C2:=a.C) hA hf (fun b hb=>.inl hb);exact⟨rfl,by simpa [nZ] using g1,g2,hf⟩
theorem KW.FU (h:KW w kp k a) {sb i:Nat} (hA:a.oA=some ⟨sb,0,none⟩) (hi:i<k.ord.length) (x:Int) :
  KW (w.setCell ⟨sb,i,none⟩ (.int .i64 x)) kp { k with ord:=k.ord.set i x } a∧cZ k.n kp w a (w.setCell ⟨sb,i,none⟩ (.int .i64 x)) a:=by
 have hne:kp≠sb:=by
  intro he;exact h.dj 0 9 kp (by omega) rfl ⟨_,hA,he.symm⟩
 have hr:=h.ord;rw[hA] at hr;have hp:gq (w.setCell ⟨sb,i,none⟩ (.int .i64 x)) 3 (some ⟨sb,0,none⟩) k.ord.length a.oC (k.ord.set i x):=Go.Tk.Own.l5 (c:=fun x=>Value.int .i64 x) hr hi x;have hb:ax (w.setCell ⟨sb,i,none⟩ (.int .i64 x)) kp 100 (cO k a):=h.blk.far (p:=⟨sb,i,none⟩) hne _
 have:=h.D9 (w':=w.setCell ⟨sb,i,none⟩ (.int .i64 x)) (r:=k.ord.set i x) (A2:=a.oA) (C2:=a.oC) ((ah.refl _ w).setCell (p:=⟨sb,i,none⟩) (.inl (.inr ⟨_,hA,rfl⟩)) _)
  (by simpa [cO] using hb) (by rw[hA,List.length_set];exact hp) (fun b hb=>.inl hb)
 exact this
theorem KW.FV (h:KW w kp k a) {sb i:Nat} (hA:a.lA=some ⟨sb,0,none⟩) (hi:i<k.bH.length) (x:Int) :
  KW (w.setCell ⟨sb,i,none⟩ (.int .i64 x)) kp { k with bH:=k.bH.set i x } a∧cZ k.n kp w a (w.setCell ⟨sb,i,none⟩ (.int .i64 x)) a:=by
 have hne:kp≠sb:=by
  intro he;exact h.dj 0 10 kp (by omega) rfl ⟨_,hA,he.symm⟩
 have hr:=h.bH;rw[hA] at hr;have hp:gq (w.setCell ⟨sb,i,none⟩ (.int .i64 x)) 3 (some ⟨sb,0,none⟩) k.bH.length a.lC (k.bH.set i x):=Go.Tk.Own.l5 (c:=fun x=>Value.int .i64 x) hr hi x;have hb:ax (w.setCell ⟨sb,i,none⟩ (.int .i64 x)) kp 100 (cO k a):=h.blk.far (p:=⟨sb,i,none⟩) hne _
 have:=h.RY (w':=w.setCell ⟨sb,i,none⟩ (.int .i64 x)) (r:=k.bH.set i x) (A2:=a.lA) (C2:=a.lC) ((ah.refl _ w).setCell (p:=⟨sb,i,none⟩) (.inl (.inr ⟨_,hA,rfl⟩)) _)
  (by simpa [cO] using hb) (by rw[hA,List.length_set];exact hp) (fun b hb=>.inl hb)
 exact this
end
end Go.Proofs.YtiomgckodmecbaaGreat
namespace Go.Proofs.YtiomgckodmecbaaGreat
open Go.RowKit Go.Tk Go.Maps
theorem U5 (vars:Int) (h:¬ (1≤vars∧vars≤64)) (w:World):Calls Tryz.prog 52 #[.int .i64 vars] w fun e w'=>e=.returned (.tuple #[.pointer none,.int .i64 1])∧w'=w:=by
 rcases Int.lt_or_le vars 1 with h1 | h1
 ·clear h;go_enter Tryz.func52,Tryz.ntmps52;go_wp2;go_ret2;exact⟨rfl,rfl⟩
 ·have h3:¬ vars<1:=by omega
  have h2:64<vars:=by omega
  clear h;go_enter Tryz.func52,Tryz.ntmps52;go_wp2;go_ret2;exact⟨rfl,rfl⟩
theorem Im:(Tryz.prog.info? 132).map (fun i=>(i.zero,i.size,i.bytes))=some (some (.map none),1,8):=by kernel_rfl
structure ZG (w0 w:World) (U:mG) (n k:Nat):Prop where
 same:Same w0 w
 t:ax w U.T 131 #[.slice (some ⟨U.sb,0,none⟩) n n]
 s:∃ cs,ax w U.sb 132 cs∧cs.size=n∧∀ v,v<k→cs[v]?=some (.map (some (U.mb v)))
 m:∀ v,v<k→NM 28 .u32 w (U.mb v) []
 inj:∀ u v,u<k→v<k→U.mb u=U.mb v→u=v
 fT:w0.heap.size≤U.T
 fs:w0.heap.size≤U.sb
 fm:∀ v,v<k→w0.heap.size≤U.mb v∧U.T<U.mb v∧U.sb<U.mb v
theorem K8 {w w1:World} {T sb n k:Nat} {mb:Nat→Nat} (h:ZG w w1 ⟨T,sb,mb⟩ n k) (hk:k<n):ZG w ((w1.setCell ⟨sb,k,none⟩ (.map (some w1.heap.size))).alloc (.map #[] 0)) ⟨T,sb,fun v=>if v=k then w1.heap.size else mb v⟩ n (k+1):=by
 obtain⟨cs,hB,hcs,hck⟩:=h.s;have ZH:T<w1.heap.size:=h.t.lt;have hSl:sb<w1.heap.size:=hB.lt;have hne:sb≠T:=fun e=>by
  have h1:=h.t;simp only at h1 hB;rw[← e] at h1
  have:=(hB.inj h1).1
  revert this
  decide
 have hf:ah (fun x=>x=sb) w1 ((w1.setCell ⟨sb,k,none⟩ (.map (some w1.heap.size))).alloc (.map #[] 0)):=((ah.refl (fun x=>x=sb) w1).set k _ rfl).alloc _;refine⟨h.same.trans hf (fun i hi (e:i=sb)=>by have:=h.fs;simp only at this;omega),h.t.ag hf (fun e=>hne e.symm),⟨_,(hB.set k (.map (some w1.heap.size))).alloc _,by simp[hcs],fun v hv=>?_⟩,fun v hv=>?_,fun u v hu hv e=>?_,h.fT,h.fs,fun v hv=>?_⟩
 ·by_cases e:v=k
  ·subst e;simp[hcs,hk]
  ·rw[Array.getElem?_setIfInBounds_ne (fun e2=>e e2.symm)];simp only[if_neg e];exact hck v (by omega)
 ·by_cases e:v=k
  ·simp only[if_pos e]
   have:=NM.made 28 .u32 (w1.setCell ⟨sb,k,none⟩ (.map (some w1.heap.size)))
   rwa [size_setCell] at this
  ·simp only[if_neg e];refine(h.m v (by omega)).ag hf (fun e2=>?_)
   have:=(h.fm v (by omega)).2.2
   simp only at this e2;omega
 ·have lv:=fun x (hx:x<k)=>(h.m x hx).lt
  simp only at e lv;by_cases e1:u=k <;> by_cases e2:v=k
  ·rw[e1,e2]
  ·rw[if_pos e1,if_neg e2] at e;have:=lv v (by omega);omega
  ·rw[if_neg e1,if_pos e2] at e;have:=lv u (by omega);omega
  ·rw[if_neg e1,if_neg e2] at e;exact h.inj u v (by omega) (by omega) e
 ·by_cases e:v=k
  ·simp only[if_pos e];exact⟨h.same.size,ZH,hSl⟩
  ·simp only[if_neg e];exact h.fm v (by omega)
theorem Io (n:Nat) (h1:1≤n) (h2:n≤64) (w:World) :
  Calls Tryz.prog 52 #[.int .i64 n] w fun e w'=>∃ U,e=.returned (.tuple #[.pointer (some ⟨U.T,0,none⟩),.int .i64 0])∧Same w w'∧UT w' U n []∧w.heap.size≤U.T∧w.heap.size≤U.sb∧∀ v,v<n→w.heap.size≤U.mb v:=by
 have h3:¬ (n:Int)<1:=by omega
 have h4:¬ (64:Int)<n:=by omega
 have hmk:=fun w=>eZ (P:=Tryz.prog) Tryz.underlying129 Im .i64 .i64 n (by omega) (by omega) w
 have hmm:=@run_makeMap Tryz.prog;go_enter Tryz.func52,Tryz.ntmps52;go_upto_region 4 with fail
 refine ai fun w1 hw1=>?_
 have hs1:Same w w1:=by rw[hw1];exact((ah.refl _ _).alloc _).alloc _
 have hT:ax w1 (w.heap.size+1) 131 #[.slice (some ⟨w.heap.size,0,none⟩) n n]:=by
  rw[hw1]
  have:=ax.new (w.alloc (.cells (madeCells #[.map none] n) 132)) 131 #[.slice (some ⟨w.heap.size,0,none⟩) n n]
  rwa [World.size_alloc] at this
 have hS:ax w1 w.heap.size 132 (madeCells #[.map none] n):=by rw[hw1];exact(ax.new _ _ _).alloc _
 have hsz:(madeCells #[.map none] n).size=n:=by simp[madeCells]
 have h0:=Lib.hid (show ZG w w1 ⟨w.heap.size+1,w.heap.size,fun _=>0⟩ n 0 from⟨hs1,hT,⟨_,hS,hsz,fun v hv=>absurd hv (Nat.not_lt_zero v)⟩,fun v hv=>absurd hv (Nat.not_lt_zero v),fun u v hu=>absurd hu (Nat.not_lt_zero u),Nat.le_succ _,Nat.le_refl _,fun v hv=>absurd hv (Nat.not_lt_zero v)⟩);clear hs1 hT hS hsz hw1 hmk;obtain⟨T,hT⟩:∃ T,T=w.heap.size+1:=⟨_,rfl⟩;obtain⟨sb,hsb⟩:∃ T,T=w.heap.size:=⟨_,rfl⟩;rw[← hT,← hsb] at h0 ⊢;clear hT hsb;go_wp2;go_loopw [17] (fun i wr=>∃ (k:Nat) (mb:Nat→Nat),i=.int .i64 k∧k≤n∧ZG w wr ⟨T,sb,mb⟩ n k) (fun i _=>n-(intOf i).toNat)
 case atStart=>exact⟨0,_,rfl,Nat.zero_le _,h0.out⟩
 case round =>
  clear h0;obtain⟨k,mb,rfl,hk,hp⟩:=hrel;by_cases hlt:k<n
  ·have hk0:(0:Int)≤k:=by omega
   have hk1:(k:Int)<n:=by omega
   have HP:=Lib.hid hp;have cT:wr.cell? ⟨T,0,none⟩=some (.slice (some ⟨sb,0,none⟩) n n):=hp.t.cell 0;have lT:T<wr.heap.size:=hp.t.lt;obtain⟨cs,hB,hcs,hck⟩:=hp.s;simp only at hB;have lS:sb<wr.heap.size:=hB.lt;have fS:wr.frozen? ⟨sb,k,none⟩=false:=hB.free k;obtain⟨u,hu⟩:∃ u,cs[k]?=some u:=⟨_,Array.getElem?_eq_getElem (by rw[hcs];exact hlt)⟩;have cS:wr.cell? ⟨sb,k,none⟩=some u:=(hB.cell k).trans hu;have HB:=Lib.hid hB;have HC:=Lib.hid hck;have K9:=Lib.hid hcs;clear hB hcs hck hu hp;go_wp2;go_roundw
   case rel=>exact⟨k+1,_,by go_num,hlt,K8 HP.out hlt⟩
   case measure=>simp[intOf] <;> omega
  ·obtain rfl:k=n:=by omega
   obtain⟨cs,hB,hcs,hck⟩:=hp.s;have hU:UT wr ⟨T,sb,mb⟩ k []:=⟨⟨h1,h2⟩,hp.t,fun v hv=>(hB.cell v).trans (hck v hv),hB.lt,fun v hv=>hp.m v hv,hp.inj,fun v hv=>⟨Nat.ne_of_gt (hp.fm v hv).2.1,Nat.ne_of_gt (hp.fm v hv).2.2⟩,by simp,List.nodup_nil⟩;have HU:=Lib.hid hU;have HP:=Lib.hid hp;clear hU hp hB hcs hck;go_wp2;go_ret2;exact⟨⟨T,sb,mb⟩,rfl,HP.out.same,HU.out,HP.out.fT,HP.out.fs,fun v hv=>(HP.out.fm v hv).1⟩
end Go.Proofs.YtiomgckodmecbaaGreat
namespace Go.Proofs.YtiomgckodmecbaaGreat
open Go.RowKit Go.Sort Go.Shelf
def Tryz.Ip:Go.Shelf.Ren:=⟨fun | 5=>136 | 8=>141 | 7=>140 | 19=>152 | 20=>153 | 10=>143 | 11=>144 | 12=>145 | 13=>146 | 14=>147 | 15=>148 | 16=>149 | 17=>150 | 18=>151 | 30=>154 | 31=>155 | 32=>156 | 33=>157 | 34=>158 | 35=>159 | 40=>160 | n=>n,fun | 23=>40 | 25=>28 | 3=>3 | 32=>183 | 22=>40 | 0=>0 | 44=>27 | 46=>123 | 4=>4 | 36=>192 | 35=>191 | 41=>197 | 5=>5 | 9=>9 | 53=>201 | 57=>205 | 63=>207 | 64=>118 | n=>n,fun | n=>n⟩
theorem Tryz.QU:Go.Proofs.YtiomgckodmecbaaGreat.bf.n5 Tryz.prog Tryz.Ip:={
 mixed:=by kernel_rfl
 f5:=⟨Tryz.f136.name,by decide,Tryz.func136.trans (congrArg some (by kernel_rfl))⟩
 f7:=⟨Tryz.f140.name,by decide,Tryz.func140.trans (congrArg some (by kernel_rfl))⟩
 f8:=Tryz.func141.trans (congrArg some (by kernel_rfl))
 f10:=⟨Tryz.f143.name,by decide,Tryz.func143.trans (congrArg some (by kernel_rfl))⟩
 f11:=⟨Tryz.f144.name,by decide,Tryz.func144.trans (congrArg some (by kernel_rfl))⟩
 f12:=⟨Tryz.f145.name,by decide,Tryz.func145.trans (congrArg some (by kernel_rfl))⟩
 f13:=⟨Tryz.f146.name,by decide,Tryz.func146.trans (congrArg some (by kernel_rfl))⟩
 f14:=⟨Tryz.f147.name,by decide,Tryz.func147.trans (congrArg some (by kernel_rfl))⟩
 f15:=⟨Tryz.f148.name,by decide,Tryz.func148.trans (congrArg some (by kernel_rfl))⟩
 f16:=⟨Tryz.f149.name,by decide,Tryz.func149.trans (congrArg some (by kernel_rfl))⟩
 f17:=⟨Tryz.f150.name,by decide,Tryz.func150.trans (congrArg some (by kernel_rfl))⟩
 f18:=⟨Tryz.f151.name,by decide,Tryz.func151.trans (congrArg some (by kernel_rfl))⟩
 f19:=Tryz.func152.trans (congrArg some (by kernel_rfl))
 f20:=Tryz.func153.trans (congrArg some (by kernel_rfl))
 f30:=⟨Tryz.f154.name,by decide,Tryz.func154.trans (congrArg some (by kernel_rfl))⟩
 f31:=Tryz.func155.trans (congrArg some (by kernel_rfl))
 f32:=Tryz.func156.trans (congrArg some (by kernel_rfl))
 f33:=⟨Tryz.f157.name,by decide,Tryz.func157.trans (congrArg some (by kernel_rfl))⟩
 f34:=⟨Tryz.f158.name,by decide,Tryz.func158.trans (congrArg some (by kernel_rfl))⟩
 f35:=⟨Tryz.f159.name,by decide,Tryz.func159.trans (congrArg some (by kernel_rfl))⟩
 f40:=⟨Tryz.f160.name,by decide,Tryz.func160.trans (congrArg some (by kernel_rfl))⟩
 t0:=Tryz.underlying0
 a0:=Tryz.isAgg0
 z0:=Tryz.sizeOf0
 v0:=Tryz.zeroValue0
 t3:=Tryz.underlying3
 a3:=Tryz.isAgg3
 z3:=Tryz.sizeOf3
 v3:=Tryz.zeroValue3
 t4:=Tryz.underlying4
 a4:=Tryz.isAgg4
 z4:=Tryz.sizeOf4
 v4:=Tryz.zeroValue4
 t5:=Tryz.underlying5
 a5:=Tryz.isAgg5
 z5:=Tryz.sizeOf5
 v5:=Tryz.zeroValue5
 t9:=Tryz.underlying9
 a9:=Tryz.isAgg9
 z9:=Tryz.sizeOf9
 v9:=Tryz.zeroValue9
 t22:=Tryz.underlying40
 a22:=Tryz.isAgg40
 z22:=Tryz.sizeOf40
 v22:=Tryz.zeroValue40
 t23:=Tryz.underlying40
 a23:=Tryz.isAgg40
 z23:=Tryz.sizeOf40
 v23:=Tryz.zeroValue40
 t25:=Tryz.underlying28
 a25:=Tryz.isAgg28
 z25:=Tryz.sizeOf28
 v25:=Tryz.zeroValue28
 t32:=Tryz.underlying183
 a32:=Tryz.isAgg183
 z32:=Tryz.sizeOf183
 v32:=Tryz.zeroValue183
 t35:=Tryz.underlying191
 a35:=Tryz.isAgg191
 z35:=Tryz.sizeOf191
 v35:=Tryz.zeroValue191
 t36:=Tryz.underlying192
 a36:=Tryz.isAgg192
 z36:=Tryz.sizeOf192
 v36:=Tryz.zeroValue192
 t41:=Tryz.underlying197
 a41:=Tryz.isAgg197
 z41:=Tryz.sizeOf197
 v41:=Tryz.zeroValue197
 t44:=Tryz.underlying27
 a44:=Tryz.isAgg27
 z44:=Tryz.sizeOf27
 v44:=Tryz.zeroValue27
 t46:=Tryz.underlying123
 a46:=Tryz.isAgg123
 z46:=Tryz.sizeOf123
 v46:=Tryz.zeroValue123
 t53:=Tryz.underlying201
 a53:=Tryz.isAgg201
 z53:=Tryz.sizeOf201
 v53:=Tryz.zeroValue201
 t57:=Tryz.underlying205
 a57:=Tryz.isAgg205
 z57:=Tryz.sizeOf205
 v57:=Tryz.zeroValue205
 t63:=Tryz.underlying207
 a63:=Tryz.isAgg207
 z63:=Tryz.sizeOf207
 v63:=Tryz.zeroValue207
 t64:=Tryz.underlying118
 a64:=Tryz.isAgg118
 z64:=Tryz.sizeOf118
 v64:=Tryz.zeroValue118 }
end Go.Proofs.YtiomgckodmecbaaGreat
namespace Go.Proofs.YtiomgckodmecbaaGreat
open Go.RowKit Go.Tk Go.Maps Go.Sort Go.Shelf
structure p8 (D:DataW Unit) (left:Lit→Bool) (ps:List bN):Prop where
 nd:(keys ps).Nodup
 mem:∀ n:Nd,n.ok→(n∈keys ps↔Maps.has D n.key=true∧left n.key=false)
 val:∀ p∈ps,p.1.ok∧∀ zd,D.atKey p.1.key zd=.lit (.int .u32 p.2)
theorem p8.start (D:DataW Unit):p8 D (Maps.has D) []:=⟨List.nodup_nil,fun n _=>by cases Maps.has D n.key <;> simp[keys],by simp⟩
theorem p8.step {D:DataW Unit} {left:Lit→Bool} {ps:List bN} (h:p8 D left ps) {n:Nd} {c:Int} (hn:n.ok) (hlk:left n.key=true) (hat:∀ zd,D.atKey n.key zd=.lit (.int .u32 c)):p8 D (fun z=>left z&&!z.sameKey n.key) (ps++[(n,c)]):=by
 have hhas:Maps.has D n.key=true:=has_true_of_atKey hat;have hnew:n∉keys ps:=fun hx=>by have:=((h.mem n hn).1 hx).2;rw[hlk] at this;cases this
 have hk:keys (ps++[(n,c)])=keys ps++[n]:=by simp[keys]
 refine⟨?_,fun m hm=>?_,fun p hp=>?_⟩
 ·rw[hk,List.nodup_append];exact⟨h.nd,by simp,fun a ha b hb e=>hnew (by simp at hb;rw[← hb,← e];exact ha)⟩
 ·rw[hk,List.mem_append,List.mem_singleton];by_cases e:m=n
  ·subst e;have hsk:m.key.sameKey m.key=true:=by simp[Nd.key,Lit.sameKey]
   rw[hsk,hhas];simp
  ·rw[sameKey_ne (fun e2=>e (kY hm hn e2)),h.mem m hm];simp[e]
 ·rcases List.mem_append.1 hp with hp | hp
  ·exact h.val p hp
  ·obtain rfl:=List.mem_singleton.1 hp;exact⟨hn,hat⟩
theorem oz {L:List bN} (h:(keys L).Nodup):L.Nodup:=by
 induction L with
 | nil=>exact List.nodup_nil
 | cons a L ih =>
  obtain⟨h1,h2⟩:=List.nodup_cons.1 (show(a.1::keys L).Nodup from h);exact List.nodup_cons.2 ⟨fun hm=>h1 (List.mem_map_of_mem hm),ih h2⟩
theorem p8.perm {D:DataW Unit} {left:Lit→Bool} {ps L:List bN} (h:p8 D left ps) (hr:oO .u32 D L) (hl:∀ kl,left kl=false):ps.Perm L:=by
 refine(List.perm_ext_iff_of_nodup (oz h.nd) (oz hr.nd)).2 fun p=>⟨fun hp=>?_,fun hp=>?_⟩
 ·obtain⟨h1,h2⟩:=h.val p hp;have hk:=((h.mem p.1 h1).1 (List.mem_map_of_mem hp)).1;obtain⟨r,hm⟩:=mem_keys.1 ((hr.dom p.1 h1).1 hk);have h3:=hr.val _ hm (.lit (.int .u32 0));rw[h2] at h3
  have:=kG h3
  rw[show p=(p.1,p.2) from rfl,this];exact hm
 ·obtain⟨h1,h2⟩:=hr.ok p hp;have hk:=(hr.dom p.1 h1).2 (List.mem_map_of_mem hp);obtain⟨r,hm⟩:=mem_keys.1 ((h.mem p.1 h1).2 ⟨hk,hl _⟩);have h3:=(h.val _ hm).2 (.lit (.int .u32 0));rw[hr.val p hp] at h3
  have:=kG h3
  rw[show p=(p.1,p.2) from rfl,this];exact hm
theorem Lc (F:Fence) (n:Nat) (h8:F.fn 137) (hro:F.round=none) (hn:1≤n) (l Bm b:Nat) (L:List bN) (J:List Int→World→Prop)
  (hY:∀ pre x W,J pre W→pre.length<L.length→YieldAt F (n-1) Tryz.prog l #[.int .u32 x] W fun e W'=>e=.returned (.bool true)∧J (pre++[x]) W'∧KeepsWalks W W')
  (W:World) (hJ:AbidesFrom W.heap.size J) (hm:W.cell? ⟨Bm,0,none⟩=some (.map (some b))) (hown:NM 28 .u32 W b L) (h0:J [] W) :
  CallsIn F n Tryz.prog 137 #[.func (.yield l) #[] #[],.pointer (some ⟨Bm,0,none⟩)] W fun e W'=>(∃ v,e=.returned v)∧∃ ps:List bN,ps.Perm L∧J (ps.map (·.2)) W':=by
 obtain⟨D0,hown,QV⟩:=hown;have hsz:Maps.size D0=L.length:=QV.size;rw[← hsz] at hY;clear hsz;refine callsIn_of_wp Tryz.func137 rfl h8 ?_ hro;simp only[Tryz.ntmps137,List.size_toArray,List.length_cons,List.length_nil,Nat.reduceAdd,Nat.reduceSub,Array.replicate_succ,Array.replicate_zero,List.push_toArray,List.append_toArray,List.nil_append,List.cons_append]
 gi_wp2_with (first
  | (gi_at_range;refine wpListIn_range_own _ rfl _ 132 rfl 37 28 KN Tryz.underlying132 _ b _ _ rfl hown ?_;intro w0 hrg0 hg0 hs0)
  | gi_in)
 go_frame
 gi_loopw [4] (fun _ wr=>∃ (left:Lit→Bool) (cnt:Nat) (ps:List bN),wr.ranges Tryz.prog 37 (Oz 28) b W.heap.size L.length D0 left cnt∧ps.length+cnt≤Maps.size D0∧p8 D0 left ps∧J (ps.map (·.2)) wr)
  (fun _ wr=>wr.rangeLeft b W.heap.size)
 case atStart =>
  exact⟨_,_,[],hrg0,by simp,p8.start D0,hJ [] W w0 none h0 hg0 (fun r e=>by cases e)⟩
 case round =>
  obtain⟨left,cnt,ps,hrg,hcs,hC,hJs⟩:=hrel
  gi_wp2_with (first
   | (gi_at_next;refine wpListIn_next_ranges _ rfl _ rfl 37 KN (Oz 28) Nd.val (Value.int .u32) (fun key kl hk=>by obtain⟨x,_,hx,_⟩:=uS hk;exact⟨x,hx⟩) (fun v y hv=>by obtain⟨c,rfl,_⟩:=plainElem_int_inv Tryz.underlying28 hv;exact⟨c,rfl⟩) b W.heap.size L.length _ _ _ rfl hrg ?_ ?_)
   | gi_in)
  ·intro hc0 hl0
   gi_wp2
   go_end0
   exact⟨⟨_,rfl⟩,ps,hC.perm QV hl0,hJs⟩
  ·intro x c kl yd yp w2 cnt2 hkey hlk hv hat hrg2 hlt hg2 hs2 hen;obtain⟨x',hxo,ex,rfl⟩:=uS hkey;obtain rfl:x=x':=by cases x;cases x';simpa [Nd.val] using ex
   obtain⟨c',ec,ez,_⟩:=plainElem_int_inv Tryz.underlying28 hv;obtain rfl:c=c':=by simpa using ec
   obtain rfl:yd=.lit (.int .u32 c):=(Prod.mk.inj ez).1;have hJ2:J (ps.map (·.2)) w2:=hJ _ wr w2 (some W.heap.size) hJs hg2 (fun r e=>by cases e;exact⟨Nat.le_refl _,hrg.iter_walk⟩);obtain⟨fn,tmps,assign,body,hy,hR⟩:=hY (ps.map (·.2)) c w2 hJ2 (by simp <;> omega);clear hs2
   gi_wp2
   refine hR.mono ?_;have hC2:=hC.step hxo hlk hat;rintro e W3 ⟨rfl,hJ3,hk3⟩
   gi_wp2
   have hrg3:=hrg2.of_walks hk3;go_roundw
   case rel=>exact⟨_,cnt2,ps++[(x,c)],hrg3,by simp <;> omega,hC2,by simpa using hJ3⟩
   case measure=>rw[hrg3.left_eq,hrg.left_eq];exact hlt
end Go.Proofs.YtiomgckodmecbaaGreat
namespace Go.Proofs.YtiomgckodmecbaaGreat
open Go.RowKit Go.Sort Go.Shelf
def Tryz.sM:Go.Shelf.Ren:=⟨fun | 6=>131 | 8=>135 | 9=>136 | 11=>139 | 13=>141 | 12=>140 | 23=>152 | 24=>153 | 14=>143 | 15=>144 | 16=>145 | 17=>146 | 18=>147 | 19=>148 | 20=>149 | 21=>150 | 22=>151 | 25=>154 | 26=>155 | 27=>156 | 28=>157 | 29=>158 | 30=>159 | 31=>160 | n=>n,fun | 26=>28 | 28=>179 | 24=>40 | 0=>0 | 3=>3 | 37=>183 | 48=>27 | 50=>123 | 4=>4 | 40=>192 | 39=>191 | 45=>197 | 5=>5 | 9=>9 | 51=>201 | 55=>205 | 57=>207 | 58=>118 | 33=>103 | n=>n,fun | n=>n⟩
theorem Tryz.OL:Go.Proofs.YtiomgckodmecbaaGreat.uI.n6 Tryz.prog Tryz.sM:={
 mixed:=by kernel_rfl
 f6:=⟨Tryz.f131.name,by decide,Tryz.func131.trans (congrArg some (by kernel_rfl))⟩
 f8:=⟨Tryz.f135.name,by decide,Tryz.func135.trans (congrArg some (by kernel_rfl))⟩
 f11:=⟨Tryz.f139.name,by decide,Tryz.func139.trans (congrArg some (by kernel_rfl))⟩
 t0:=Tryz.underlying0
 a0:=Tryz.isAgg0
 z0:=Tryz.sizeOf0
 v0:=Tryz.zeroValue0
 t24:=Tryz.underlying40
 a24:=Tryz.isAgg40
 z24:=Tryz.sizeOf40
 v24:=Tryz.zeroValue40
 t26:=Tryz.underlying28
 a26:=Tryz.isAgg28
 z26:=Tryz.sizeOf28
 v26:=Tryz.zeroValue28
 t28:=Tryz.underlying179
 a28:=Tryz.isAgg179
 z28:=Tryz.sizeOf179
 v28:=Tryz.zeroValue179
 i26:=by kernel_rfl }
end Go.Proofs.YtiomgckodmecbaaGreat
namespace Go.Proofs.YtiomgckodmecbaaGreat
open Go.RowKit Go.Tk Go.Maps Go.Sort Go.Shelf
theorem Eg (F:Fence) (n:Nat) (h8:F.fn 137) (hro:F.round=none) (hn:1≤n) (Bm b:Nat) (L:List bN) (w:World) (hBm:Bm<w.heap.size) (hm:w.cell? ⟨Bm,0,none⟩=some (.map (some b))) (hown:NM 28 .u32 w b L) :
    SeqGives F n Tryz.prog 137 #[.pointer (some ⟨Bm,0,none⟩)] aK (fun ss=>∃ ps:List bN,ps.Perm L∧ss=ps.map (·.2)) L.length w:=fun l J W hW hJ hY h0=>by
  have hown':NM 28 .u32 W b L:=by
    have hbl:=hown.lt;obtain⟨D,h1,h2⟩:=hown;obtain⟨es,clock,hb,Ft,hs,hD⟩:=h1;exact⟨D,⟨es,clock,(hW.block b hbl).trans hb,Ft,hs,hD⟩,h2⟩
  refine(Lc F n h8 hro hn l Bm b L J hY W hJ ((hW.cell (p:=⟨Bm,0,none⟩) hBm).trans hm) hown' h0).mono ?_;rintro e W' ⟨hv,ps,hp,hJ'⟩;exact⟨hv,_,⟨ps,hp,rfl⟩,hJ'⟩
theorem OM (F:Fence) (n:Nat) (hf:F.fn 132) (hro:F.round=none) (mb:Option Nat) (w:World) :
    CallsIn F n Tryz.prog 132 #[.map mb] w fun e w'=>e=.returned (.func (.func 137) #[] #[.pointer (some ⟨w.heap.size,0,none⟩)])∧w'=w.alloc (.cells #[.map mb] 132):=by
  refine callsIn_of_wp Tryz.func132 rfl hf ?_ hro;simp only[Tryz.ntmps132,List.size_toArray,List.length_cons,List.length_nil,Nat.reduceAdd,Nat.reduceSub,Array.replicate_succ,Array.replicate_zero,List.push_toArray,List.append_toArray,List.nil_append,List.cons_append]
  gi_wp2
  go_ret;exact⟨rfl,rfl⟩
theorem R9 (m:Nat):bU.SortsIn Tryz.prog Tryz.sM Fence.wide m :=
  ⟨fun blk off cap ss W hH hblk hsz=>callsIn_wide.2 (RG.slices_Sort_int Tryz.QU blk off cap ss W hH hblk hsz),
   fun p cap W=>callsIn_wide.2 (RG.slices_Sort_int_none Tryz.QU p cap W)⟩
def rising (L:List bN):List Int:=(L.map (·.2)).mergeSort fun x y=>decide (x≤y)
theorem Bp {L L':List bN} (h:L.Perm L'):rising L=rising L':=by
  unfold rising;have tr:∀ a b c:Int,decide (a≤b)=true→decide (b≤c)=true→decide (a≤c)=true:=by
    intro a b c h1 h2;simp at h1 h2 ⊢;omega
  have tot:∀ a b:Int,(decide (a≤b)||decide (b≤a))=true:=by
    intro a b;simp <;> omega
  refine List.Perm.eq_of_pairwise (le:=fun a b=>decide (a≤b)=true) ?_ (List.pairwise_mergeSort tr tot _) (List.pairwise_mergeSort tr tot _) ?_
  · intro a b _ _ h1 h2;simp at h1 h2;omega
  · exact((List.mergeSort_perm _ _).trans (h.map _)).trans (List.mergeSort_perm _ _).symm
theorem jI (L:List bN):(rising L).length=L.length:=by unfold rising;rw[List.length_mergeSort,List.length_map]
def Sa (lo:Nat) (w':World) (v:Value) (xs:List Int):Prop:=∃ A C,v=.slice A xs.length C∧Row1 w' 28 (Value.int .u32) A xs.length C xs∧bQ lo A∧(xs=[]↔A=none)
theorem OO {lo:Nat} {w':World} {v:Value} {xs:List Int} (h:w'.ownsRow lo 28 1 v xs.length (xs.map aK)) (hn:v=.slice none 0 0↔xs=[]):Sa lo w' v xs:=by
  have h0:=ownsRow_base_a h (Nat.zero_le lo);rcases h.2 with⟨rfl,hz⟩ | ⟨g,cap,cur,rfl,hb,hg,_⟩
  · obtain rfl:=List.eq_nil_of_length_eq_zero hz
    exact⟨none,0,rfl,Own.nil _ _ _ _,aS _,by simp⟩
  · refine⟨some ⟨g,0,none⟩,cap,rfl,⟨rfl,?_⟩,bR hb,?_⟩
    · rw[VC];exact h0
    · simp at hn ⊢;exact fun h=>hn h
theorem vg (b:Nat) (L:List bN) (w:World) (hm:NM 28 .u32 w b L) (hmax:L.length*4≤140737488355328) :
    ∃ w1,w1=w.alloc (.cells #[.map (some b)] 132)∧Calls Tryz.prog 131 #[.func (.func 137) #[] #[.pointer (some ⟨w.heap.size,0,none⟩)]] w1 fun e w'=>∃ v,e=.returned v∧Sa w.heap.size w' v (rising L)∧Same w w':=by
  obtain⟨w1,hw1⟩:∃ z,z=w.alloc (.cells #[.map (some b)] 132):=⟨_,rfl⟩;have hs1:Same w w1:=by rw[hw1];exact(ah.refl _ _).alloc _
  have hX:ax w1 w.heap.size 132 #[.map (some b)]:=by rw[hw1];exact ax.new _ _ _
  have hseq:=Eg Fence.wide (5-1-1-1) trivial rfl (by omega) w.heap.size b L w1 hX.lt (hX.cell 0) (hm.ag hs1 id);have cS:=bU.sorted_in Tryz.OL Fence.wide 5 trivial trivial trivial trivial rfl (by omega) (R9 _) (enters_of Tryz.func136 (by kernel_rfl) rfl) 137 #[.pointer (some ⟨w.heap.size,0,none⟩)] trivial (enters_of Tryz.func137 (by kernel_rfl) rfl) _ _ (by show L.length≤9223372036854775807;omega) hmax w1 hseq;refine⟨w1,hw1,(callsIn_wide.1 cS).mono ?_⟩;rintro e w' ⟨v,ss,rfl,⟨ps,hp,rfl⟩,hrow,hnil,hb⟩;have hsz:w.heap.size≤w1.heap.size:=hs1.size;have hlen:(rising ps).length=(ps.map (·.2)).length:=by rw[jI,List.length_map]
  refine⟨v,rfl,?_,hs1.trans (ah.of_below hb _) (fun _ _ h=>h)⟩;rw[← Bp hp];have hrow':w'.ownsRow w.heap.size 28 1 v (rising ps).length ((rising ps).map aK):=by
    rw[hlen];exact ownsRow_base_a hrow hsz
  refine OO hrow' ?_;rw[hnil];constructor
  · intro h;rw[List.map_eq_nil_iff] at h;subst h;simp[rising]
  · intro h;rw[List.map_eq_nil_iff];exact List.eq_nil_of_length_eq_zero (by rw[← jI,h];rfl)
theorem Eh (U:mG) (vars:Nat) (L:List bN) (v:Nat) (hv:v<vars) (w:World) (h:UT w U vars L) (hmax:L.length*4≤140737488355328) :
    Calls Tryz.prog 121 #[.pointer (some ⟨U.T,0,none⟩),.int .i64 v] w fun e w'=>∃ x,e=.returned (.tuple #[x,.int .i64 0])∧Sa w.heap.size w' x (rising (jv L v))∧Same w w':=by
  have HC:=Lib.hid (iF U vars L v w h);have ct:w.cell? ⟨U.T,0,none⟩=some (.slice (some ⟨U.sb,0,none⟩) vars vars):=h.t.cell 0;have lt:=h.t.lt;have hE:nX vars v=0:=if_pos ⟨by omega,by omega⟩;have cs:=h.s v hv;have ls:=h.sl;have hk0:(0:Int)≤v:=by omega
  have hk1:(v:Int)<vars:=by omega
  have hlen:(jv L v).length*4≤140737488355328:=by
    have:=List.length_filter_le (fun p:bN=>decide (p.1.v=(v:Int))) L
    have h2:(jv L v).length≤L.length:=this;omega
  obtain⟨w1,hw1,hS⟩:=vg (U.mb v) (jv L v) w (h.m v hv) hlen;have HS:=Lib.hid hS;have HV:=Lib.hid (fun w=>callsIn_wide.1 (OM Fence.wide 5 trivial rfl (some (U.mb v)) w));rw[hE] at HC;clear h hE hv hlen hmax hS;go_enter Tryz.func121,Tryz.ntmps121;go_wp2_with (fail)
  refine HC.out.mono ?_;rintro e w2 ⟨rfl,rfl⟩;clear HC;go_wp2_with (fail)
  refine(HV.out _).mono ?_;rintro e w3 ⟨rfl,hw3⟩;rw[← hw1] at hw3;subst hw3;clear hw1 HV;go_wp2_with (fail)
  refine HS.out.mono ?_;rintro e w4 ⟨x,rfl,hx,hs⟩;have HX:=Lib.hid hx;have HW:=Lib.hid hs;clear hx hs HS;go_wp2;go_ret2;exact⟨x,rfl,HX.out,HW.out⟩
end Go.Proofs.YtiomgckodmecbaaGreat
namespace Go.Proofs.YtiomgckodmecbaaGreat
open Go.RowKit Go.Tk
structure gu where
 r:Int
 n:Nd
 jS:Int
 jJ:Int
 jT:Int
 jK:Int
deriving Inhabited,DecidableEq
def gu.cells (c:gu):List Value:=[.int .u32 c.r,.int .i64 c.n.v,.int .u32 c.n.lo,.int .u32 c.n.hi,.int .u32 c.jS,.int .u32 c.jJ,.int .u32 c.jT,.int .u32 c.jK]
theorem gu.ak (c:gu):c.cells.length=8:=rfl
def aao:gu:=⟨0,⟨0,0,0⟩,0,0,0,0⟩
theorem Bq:(Tryz.prog.info? 147).map (fun i=>(i.zero,i.size,i.bytes))=some (some (.agg aao.cells.toArray),8,40):=by kernel_rfl
def bZ (k:KS) (r y:Int):Int×Int:=if (aI k.ls r).v=y then ((aI k.ls r).lo,(aI k.ls r).hi) else (r,r)
def p9 (k:KS) (y:Int) (r:Int):Bool:=decide ((aI k.ls (aI k.ls r).lo).v=y)||decide ((aI k.ls (aI k.ls r).hi).v=y)
def sN (k:KS) (y:Int) (r:Int):gu:=⟨r,aI k.ls r,(bZ k (aI k.ls r).lo y).1,(bZ k (aI k.ls r).lo y).2,(bZ k (aI k.ls r).hi y).1,(bZ k (aI k.ls r).hi y).2⟩
def dH (k:KS) (y:Int) (rs:List Int):List gu:=(rs.filter (p9 k y)).map (sN k y)
theorem Ei (k:KS) (y:Int) (rs:List Int) (r:Int):dH k y (rs++[r])=if p9 k y r then dH k y rs++[sN k y r] else dH k y rs:=by
 unfold dH;rw[List.filter_append];by_cases h:p9 k y r=true
 ·rw[if_pos h];simp[h]
 ·rw[if_neg h];simp[h]
section
variable {w:World} {kp:Nat} {k:KS} {a:KA}
theorem vk (h:KW w kp k a) (r y:Int) (h0:0≤r) (h1:r<4294967296) :
  Calls Tryz.prog 122 #[.pointer (some ⟨kp,0,none⟩),.int .u32 r,.int .i64 y] w fun e w'=>e=.returned (.tuple #[.int .u32 (bZ k r y).1,.int .u32 (bZ k r y).2])∧Same w w':=by
 have hkl:=h.blk.lt;have H:=Lib.hid h;clear h;unfold bZ;obtain⟨n,hn⟩:∃ n,aI k.ls r=n:=⟨_,rfl⟩;have hcall:=fun w' (hw:Same w w')=>ig (H.out.same hw) r h0 h1
 rw[hn] at hcall ⊢;have HC:=Lib.hid hcall;clear hcall hn;have hcase:∀ (b:Bool),decide (n.v=y)=b→Calls Tryz.prog 122 #[.pointer (some ⟨kp,0,none⟩),.int .u32 r,.int .i64 y] w fun e w'=>e=.returned (.tuple #[.int .u32 (if b=true then n.lo else r),.int .u32 (if b=true then n.hi else r)])∧Same w w':=by
  intro b hb;have hbe:(n.v == y)=b:=by rw[← hb];cases h:decide (n.v=y) <;> simp_all
  clear hb;go_enter Tryz.func122,Tryz.ntmps122;go_wp2_with (fail)
  refine(HC.out _ (ah.refl _ _)).mono ?_;rintro e w1 ⟨rfl,hs1⟩;unfold Nd.val;have aX:=Lib.hid hs1;clear hs1;cases b with
  | true =>
   go_upto_region 3 with fail
   refine eG (by kernel_rfl) (by kernel_rfl) ?_;repeat (any_goals (first | go_big_quiet_step (fail) | quiet_step (fail)))
   refine wpQuiet_nil ?_;rintro _ ⟨q,rfl⟩;go_wp2;go_ret2;exact⟨rfl,(aX.out.alloc _).trans (az _ _) (fun _ _ h=>h)⟩
  | false =>
   go_wp2;go_ret2;exact⟨rfl,aX.out.alloc _⟩
 refine(hcase _ rfl).mono ?_;rintro e w' ⟨rfl,hs⟩;refine⟨?_,hs⟩;by_cases hv:n.v=y
 ·simp[hv]
 ·simp[hv]
theorem OP (n:Nd) (w:World):(Instr.field 37 n.val 0).run Tryz.prog w=.ok (.int .i64 n.v) w:=rfl
structure QW (k:KS) (r:Int):Prop where
 r0:0≤r
 r1:r<4294967296
 l0:0≤(aI k.ls r).lo
 l1:(aI k.ls r).lo<4294967296
 h0:0≤(aI k.ls r).hi
 h1:(aI k.ls r).hi<4294967296
theorem vo (h:KW w kp k a) (x:Nat) (y:Int) (hx:x<k.n) (hR:∀ r∈rising (jv k.L x),QW k r) (hlen:k.L.length≤4000000) :
  Calls Tryz.prog 97 #[.pointer (some ⟨kp,0,none⟩),.int .i64 x,.int .i64 y] w fun e w'=>∃ A C,e=.returned (.slice A (dH k y (rising (jv k.L x))).length C)∧Go.Tk.Own w' 147 8 gu.cells A (dH k y (rising (jv k.L x))).length C (dH k y (rising (jv k.L x)))∧bQ w.heap.size A∧Same w w':=by
 have hkl:=h.blk.lt;have c1:=h.c1;have hrefs:=fun w' (hw:Same w w')=>Eh a.U k.n k.L x hx w' (h.same hw).ut (by omega)
 have Ld:=Lib.hid hrefs;have H:=Lib.hid h;have hrl:=jI (jv k.L x);have hol:(jv k.L x).length≤k.L.length:=List.length_filter_le _ _;obtain⟨rs,hrs⟩:∃ rs,rising (jv k.L x)=rs:=⟨_,rfl⟩;rw[hrs] at Ld hR hrl ⊢;have ab6:rs.length≤4000000:=by omega
 have HR:=Lib.hid hR;clear h hrefs hrs hrl hlen hR hol;go_enter Tryz.func97,Tryz.ntmps97;go_wp2_with (fail)
 refine(Ld.out _ (ah.refl _ _)).mono ?_;rintro e w1 ⟨xv,rfl,⟨A,C,rfl,hrow,hfr,_⟩,hs1⟩;have q8:=Lib.hid hrow;have aX:=Lib.hid hs1;clear hrow hs1 hfr c1 Ld;go_wp2_with (fail)
 go_loopw [26,7] (fun i l wr=>∃ n A' C',n≤rs.length∧i=.int .i64 n∧l=.slice A' (dH k y (rs.take n)).length C'∧Go.Tk.Own wr 147 8 gu.cells A' (dH k y (rs.take n)).length C' (dH k y (rs.take n))∧bQ w1.heap.size A'∧Same w1 wr) (fun i _ _=>rs.length-(intOf i).toNat)
 case atStart=>exact⟨0,none,0,by omega,rfl,rfl,Own.nil _ _ _ _,aS _,ah.refl _ _⟩
 case round =>
  obtain⟨n,A',C',hn,rfl,rfl,hO,hF,hS⟩:=hrel;have HO:=Lib.hid hO;have HF:=Lib.hid hF;have HS:=Lib.hid hS;clear hO hF hS;by_cases hlt:n<rs.length
  ·obtain⟨r,hr⟩:∃ r,rs[n]?=some r:=⟨_,List.getElem?_eq_getElem hlt⟩;have hrow:=q8.out.ag HS.out (fun _ _=>id);obtain⟨sb,rfl,hsb,hsc⟩:=hrow.dQ hr;have hRr:=HR.out r (List.mem_of_getElem? hr);have hcr:dH k y (rs.take (n+1))=if p9 k y r then dH k y (rs.take n)++[sN k y r] else dH k y (rs.take n):=by
    rw[List.take_add_one,hr];exact Ei k y _ r
   have HCR:=Lib.hid hcr;obtain⟨nd,hnd⟩:∃ nd,aI k.ls r=nd:=⟨_,rfl⟩;obtain⟨r0,r1,l0,l1,h0,h1⟩:=hRr;rw[hnd] at l0 l1 h0 h1;have Le:=Lib.hid hnd;have hI:(n:Int)<(rs.length:Int):=by omega
   have hk:=H.out.same (aX.out.trans HS.out (fun _ _ h=>h));have mJ:=fun w' (hw:Same wr w')=>ig (hk.same hw) r r0 r1
   rw[hnd] at mJ;have hn1:=fun w' (hw:Same wr w')=>ig (hk.same hw) nd.lo l0 l1
   have hn2:=fun w' (hw:Same wr w')=>ig (hk.same hw) nd.hi h0 h1
   have hp1:=fun w' (hw:Same wr w')=>vk (hk.same hw) nd.lo y l0 l1
   have hp2:=fun w' (hw:Same wr w')=>vk (hk.same hw) nd.hi y h0 h1
   obtain⟨m1,hm1⟩:∃ m1,aI k.ls nd.lo=m1:=⟨_,rfl⟩;obtain⟨m2,hm2⟩:∃ m2,aI k.ls nd.hi=m2:=⟨_,rfl⟩;rw[hm1] at hn1;rw[hm2] at hn2;obtain⟨q1,hq1⟩:∃ q,bZ k nd.lo y=q:=⟨_,rfl⟩;obtain⟨q2,hq2⟩:∃ q,bZ k nd.hi y=q:=⟨_,rfl⟩;rw[hq1] at hp1;rw[hq2] at hp2;have hci:sN k y r=⟨r,nd,q1.1,q1.2,q2.1,q2.2⟩:=by unfold sN;rw[hnd,hq1,hq2]
   have hic:p9 k y r=(decide (m1.v=y)||decide (m2.v=y)):=by unfold p9;rw[hnd,hm1,hm2]
   have HCI:=Lib.hid hci;have FW:=Lib.hid hic;have HN:=Lib.hid mJ;have Br:=Lib.hid hn1;have FQ:=Lib.hid hn2;have Au:=Lib.hid hp1;have zn:=Lib.hid hp2;have hkl':=hk.blk.lt;replace hsc:wr.cell? ⟨sb,n,none⟩=some (.int .u32 r):=hsc;clear hr hcr hnd mJ hn1 hn2 hp1 hp2 hm1 hm2 hq1 hq2 hci hic hk hrow;obtain⟨b1,hb1⟩:∃ b,decide (m1.v=y)=b:=⟨_,rfl⟩;obtain⟨b2,hb2⟩:∃ b,decide (m2.v=y)=b:=⟨_,rfl⟩;rw[hb1,hb2] at FW;have e1:(m1.v != y) = !b1:=by rw[← hb1];cases h:decide (m1.v=y) <;> simp_all
   have e2:(m2.v != y) = !b2:=by rw[← hb2];cases h:decide (m2.v=y) <;> simp_all
   clear hb1 hb2;go_wp2_with (fail)
   refine(HN.out _ (ah.refl _ _)).mono ?_;rintro e w2 ⟨rfl,hs2⟩;unfold Nd.val;go_upto_region 7 with fail
   refine ai fun w3 hw3=>?_
   have hX:=ax.new w2 37 #[.int .i64 nd.v,.int .u32 nd.lo,.int .u32 nd.hi];have hs3:Same wr w3:=by rw[hw3];exact hs2.alloc _
   rw[← hw3] at hX;clear hw3;have x0:=hX.cell 0;have x1:=hX.cell 1;have x2:=hX.cell 2;have hxl:=hX.lt;simp at x0 x1 x2;have HX:=Lib.hid hX;have dY:=Lib.hid hs3;have HWZ:Hid (wr.heap.size≤w2.heap.size):=Lib.hid hs2.size;clear hX hs3 hs2;have hq:∀ (b:Bool),b1=b→b2=b2→True:=fun _ _ _=>trivial
   have ab7:=OP;have hmain:∀ (bb:Bool),(b1||b2)=bb→True:=fun _ _=>trivial
   clear hmain hq;refine eG (by kernel_rfl) (by kernel_rfl) ?_;cases b1 with
   | true =>
    have e1':(m1.v != y)=false:=by simpa using e1
    clear e1;repeat (any_goals (first | go_big_quiet_step ((go_at_call 62;exact aW (Br.out _ (dY.out.trans (az _ _) (fun _ _ h=>h))))) | quiet_step ((go_at_call 62;exact aW (Br.out _ (dY.out.trans (az _ _) (fun _ _ h=>h)))))))
    refine wpQuiet_nil ?_;rintro _ ⟨qq,rfl⟩;have hs4:Same w3 (more w3 qq):=az _ _;generalize more w3 qq=w4 at *
    have vw:=HX.out.ag hs4 id;have x0:=vw.cell 0;have x1:=vw.cell 1;have x2:=vw.cell 2;have Wn:=vw.lt;simp at x0 x1 x2;have FZ:=Lib.hid vw;have iB:=Lib.hid (dY.out.trans hs4 (fun _ _ h=>h));clear vw hs4 HX dY;go_upto_region 9 with fail
    refine ai fun w5 lu=>?_
    have hY:=ax.new w4 147 #[.int .u32 r,.int .i64 nd.v,.int .u32 nd.lo,.int .u32 nd.hi,.int .u32 0,.int .u32 0,.int .u32 0,.int .u32 0];have hs5:Same wr w5:=by rw[lu];exact iB.out.alloc _
    have Iq:ax w5 w2.heap.size 37 #[.int .i64 nd.v,.int .u32 nd.lo,.int .u32 nd.hi]:=by rw[lu];exact FZ.out.alloc _
    rw[← lu] at hY;have hwz:=FZ.out.lt;clear lu;have x0:=Iq.cell 0;have x1:=Iq.cell 1;have x2:=Iq.cell 2;have aap:=Iq.lt;simp at x0 x1 x2;have Wo:=Lib.hid Iq;have Wp:=Lib.hid hY;have pY:=Lib.hid hs5;clear Iq hY hs5 FZ iB;go_wp2_with (fail)
    refine(Au.out _ pY.out).mono ?_;rintro e w6 ⟨rfl,hs6⟩;have Ir:=Wp.out.ag hs6 id;have uY:=Wo.out.ag hs6 id;have y4:=Ir.cell 4;have y5:=Ir.cell 5;have aaq:=Ir.lt;have yf:=fun i=>Ir.free i
    simp at y4 y5;have zk:=Lib.hid uY;have Wq:=Lib.hid Ir;have vz:=Lib.hid (pY.out.trans hs6 (fun _ _ h=>h));clear uY Ir hs6 Wo Wp pY;go_upto_region 10 with fail
    refine ai fun w7 hw7=>?_
    have Ws:w2.heap.size≠w4.heap.size:=by omega
    have Wt:ax w7 w4.heap.size 147 #[.int .u32 r,.int .i64 nd.v,.int .u32 nd.lo,.int .u32 nd.hi,.int .u32 q1.1,.int .u32 q1.2,.int .u32 0,.int .u32 0]:=by
     rw[hw7]
     have:=(Wq.out.set 4 (.int .u32 q1.1)).set 5 (.int .u32 q1.2)
     simpa using this
    have qZ:ax w7 w2.heap.size 37 #[.int .i64 nd.v,.int .u32 nd.lo,.int .u32 nd.hi]:=by
     rw[hw7];exact(zk.out.far (p:=⟨w4.heap.size,4,none⟩) Ws _).far (p:=⟨w4.heap.size,5,none⟩) Ws _
    have hwr:wr.heap.size≤w4.heap.size:=by have:=HWZ.out;omega
    have hs7:Same wr w7:=by
     rw[hw7];exact(vz.out.aj _ _ hwr).aj _ _ hwr
    clear hw7 y4 y5 yf;have x0:=qZ.cell 0;have x1:=qZ.cell 1;have x2:=qZ.cell 2;have VX:=qZ.lt;simp at x0 x1 x2;have U0:=Lib.hid qZ;have Wu:=Lib.hid Wt;have xe:=Lib.hid hs7;clear qZ Wt hs7 zk Wq vz;go_wp2_with (fail)
    refine(zn.out _ xe.out).mono ?_;rintro e w8 ⟨rfl,F5⟩;have Iu:=Wu.out.ag F5 id;have y6:=Iu.cell 6;have y7:=Iu.cell 7;have aar:=Iu.lt;have yf:=fun i=>Iu.free i
    simp at y6 y7;have Wv:=Lib.hid Iu;have Sb:=Lib.hid (xe.out.trans F5 (fun _ _ h=>h));clear Iu F5 U0 Wu xe;go_upto_region 11 with fail
    refine ai fun w9 Lg=>?_
    have vB:ax w9 w4.heap.size 147 #[.int .u32 r,.int .i64 nd.v,.int .u32 nd.lo,.int .u32 nd.hi,.int .u32 q1.1,.int .u32 q1.2,.int .u32 q2.1,.int .u32 q2.2]:=by
     rw[Lg]
     have:=(Wv.out.set 6 (.int .u32 q2.1)).set 7 (.int .u32 q2.2)
     simpa using this
    have Lh:Same wr w9:=by
     rw[Lg];exact(Sb.out.aj _ _ hwr).aj _ _ hwr
    clear Lg y6 y7 yf;have y0:=vB.cell 0;have y1:=vB.cell 1;have y2:=vB.cell 2;have y3:=vB.cell 3;have y4:=vB.cell 4;have y5:=vB.cell 5;have y6:=vB.cell 6;have y7:=vB.cell 7;have aas:=vB.lt;simp at y0 y1 y2 y3 y4 y5 y6 y7;have HY9:=Lib.hid vB;have Sc:=Lib.hid Lh;clear vB Lh Wv Sb;refine aV 2 ?_;simp only[List.take_succ_cons,List.take_zero,List.drop_succ_cons,List.drop_zero];repeat (any_goals (first | go_big_quiet_step (fail) | quiet_step (fail)))
    refine wpQuiet_nil ?_;refine wpList_plain rfl fun K hK=>?_
    go_simp;refine hK _ _ ?_;clear hK K;refine aQ fun wa dR=>?_
    have hM:=ax.new w9 147 #[.int .u32 r,.int .i64 nd.v,.int .u32 nd.lo,.int .u32 nd.hi,.int .u32 q1.1,.int .u32 q1.2,.int .u32 q2.1,.int .u32 q2.2];have hsa:Same wr wa:=by rw[dR];exact Sc.out.alloc _
    rw[← dR] at hM;have aat:w9.heap.size<wa.heap.size:=hM.lt;clear dR;have hil:(dH k y (rs.take n)).length≤4000000:=by
     have h1:(dH k y (rs.take n)).length≤(rs.take n).length:=by unfold dH;rw[List.length_map];exact List.length_filter_le _ _
     rw[List.length_take] at h1;omega
    refine Own.aR rfl (.tmp 78) (.tmp 80) _ rfl Tryz.underlying143 Bq rfl (by omega) rfl (HO.out.ag hsa (fun _ _=>id)) gu.ak ⟨r,nd,q1.1,q1.2,q2.1,q2.2⟩ w9.heap.size 1 rfl hM (by simp[Value.oneCell',gu.cells]) (by unfold maxLen;omega) (by omega) ?_;intro gg cap wb hOb hgb hat;have hSb:Same w1 wb:=by
     refine(HS.out.trans hsa (fun _ _ h=>h)).grown hgb (fun g hg=>.inr ?_);exact HF.out g (af.1 hg)
    have QX:bQ w1.heap.size (some ⟨gg,0,none⟩):=by
     refine bR ?_;rcases hat with h | h
     ·exact HF.out gg (af.1 h)
     ·have:=HS.out.size;have:=hsa.size;omega
    have Bt:=Lib.hid hOb;have kS:=Lib.hid hSb;have J8:=Lib.hid QX;clear hOb hSb QX hgb hat hM hsa;go_wp2;go_roundw
    case rel =>
     have hcc:dH k y (rs.take (n+1))=dH k y (rs.take n)++[⟨r,nd,q1.1,q1.2,q2.1,q2.2⟩]:=by
      rw[HCR.out,FW.out,if_pos (by simp),HCI.out]
     refine⟨n+1,some ⟨gg,0,none⟩,cap,by omega,by go_num,?_,?_,J8.out,kS.out⟩
     ·rw[hcc,List.length_append];rfl
     ·rw[hcc,List.length_append];exact Bt.out
    case measure=>simp[intOf] <;> omega
   | false =>
    have e1':(m1.v != y)=true:=by simpa using e1
    clear e1;cases b2 with
    | true =>
     have e2':(m2.v != y)=false:=by simpa using e2
     clear e2;repeat (any_goals (first | go_big_quiet_step ((first | (go_at_call_of 62 (Value.int IntKind.u32 nd.lo);exact aW (Br.out _ (dY.out.trans (az _ _) (fun _ _ h=>h)))) | (go_at_call 62;exact aW (FQ.out _ (dY.out.trans (az _ _) (fun _ _ h=>h)))))) | quiet_step ((first | (go_at_call_of 62 (Value.int IntKind.u32 nd.lo);exact aW (Br.out _ (dY.out.trans (az _ _) (fun _ _ h=>h)))) | (go_at_call 62;exact aW (FQ.out _ (dY.out.trans (az _ _) (fun _ _ h=>h))))))))
     refine wpQuiet_nil ?_;rintro _ ⟨qq,rfl⟩;have hs4:Same w3 (more w3 qq):=az _ _;generalize more w3 qq=w4 at *
     have vw:=HX.out.ag hs4 id;have x0:=vw.cell 0;have x1:=vw.cell 1;have x2:=vw.cell 2;have Wn:=vw.lt;simp at x0 x1 x2;have FZ:=Lib.hid vw;have iB:=Lib.hid (dY.out.trans hs4 (fun _ _ h=>h));clear vw hs4 HX dY;go_upto_region 9 with fail
     refine ai fun w5 lu=>?_
     have hY:=ax.new w4 147 #[.int .u32 r,.int .i64 nd.v,.int .u32 nd.lo,.int .u32 nd.hi,.int .u32 0,.int .u32 0,.int .u32 0,.int .u32 0];have hs5:Same wr w5:=by rw[lu];exact iB.out.alloc _
     have Iq:ax w5 w2.heap.size 37 #[.int .i64 nd.v,.int .u32 nd.lo,.int .u32 nd.hi]:=by rw[lu];exact FZ.out.alloc _
     rw[← lu] at hY;have hwz:=FZ.out.lt;clear lu;have x0:=Iq.cell 0;have x1:=Iq.cell 1;have x2:=Iq.cell 2;have aap:=Iq.lt;simp at x0 x1 x2;have Wo:=Lib.hid Iq;have Wp:=Lib.hid hY;have pY:=Lib.hid hs5;clear Iq hY hs5 FZ iB;go_wp2_with (fail)
     refine(Au.out _ pY.out).mono ?_;rintro e w6 ⟨rfl,hs6⟩;have Ir:=Wp.out.ag hs6 id;have uY:=Wo.out.ag hs6 id;have y4:=Ir.cell 4;have y5:=Ir.cell 5;have aaq:=Ir.lt;have yf:=fun i=>Ir.free i
     simp at y4 y5;have zk:=Lib.hid uY;have Wq:=Lib.hid Ir;have vz:=Lib.hid (pY.out.trans hs6 (fun _ _ h=>h));clear uY Ir hs6 Wo Wp pY;go_upto_region 10 with fail
     refine ai fun w7 hw7=>?_
     have Ws:w2.heap.size≠w4.heap.size:=by omega
     have Wt:ax w7 w4.heap.size 147 #[.int .u32 r,.int .i64 nd.v,.int .u32 nd.lo,.int .u32 nd.hi,.int .u32 q1.1,.int .u32 q1.2,.int .u32 0,.int .u32 0]:=by
      rw[hw7]
      have:=(Wq.out.set 4 (.int .u32 q1.1)).set 5 (.int .u32 q1.2)
      simpa using this
     have qZ:ax w7 w2.heap.size 37 #[.int .i64 nd.v,.int .u32 nd.lo,.int .u32 nd.hi]:=by
      rw[hw7];exact(zk.out.far (p:=⟨w4.heap.size,4,none⟩) Ws _).far (p:=⟨w4.heap.size,5,none⟩) Ws _
     have hwr:wr.heap.size≤w4.heap.size:=by have:=HWZ.out;omega
     have hs7:Same wr w7:=by
      rw[hw7];exact(vz.out.aj _ _ hwr).aj _ _ hwr
     clear hw7 y4 y5 yf;have x0:=qZ.cell 0;have x1:=qZ.cell 1;have x2:=qZ.cell 2;have VX:=qZ.lt;simp at x0 x1 x2;have U0:=Lib.hid qZ;have Wu:=Lib.hid Wt;have xe:=Lib.hid hs7;clear qZ Wt hs7 zk Wq vz;go_wp2_with (fail)
     refine(zn.out _ xe.out).mono ?_;rintro e w8 ⟨rfl,F5⟩;have Iu:=Wu.out.ag F5 id;have y6:=Iu.cell 6;have y7:=Iu.cell 7;have aar:=Iu.lt;have yf:=fun i=>Iu.free i
     simp at y6 y7;have Wv:=Lib.hid Iu;have Sb:=Lib.hid (xe.out.trans F5 (fun _ _ h=>h));clear Iu F5 U0 Wu xe;go_upto_region 11 with fail
     refine ai fun w9 Lg=>?_
     have vB:ax w9 w4.heap.size 147 #[.int .u32 r,.int .i64 nd.v,.int .u32 nd.lo,.int .u32 nd.hi,.int .u32 q1.1,.int .u32 q1.2,.int .u32 q2.1,.int .u32 q2.2]:=by
      rw[Lg]
      have:=(Wv.out.set 6 (.int .u32 q2.1)).set 7 (.int .u32 q2.2)
      simpa using this
     have Lh:Same wr w9:=by
      rw[Lg];exact(Sb.out.aj _ _ hwr).aj _ _ hwr
     clear Lg y6 y7 yf;have y0:=vB.cell 0;have y1:=vB.cell 1;have y2:=vB.cell 2;have y3:=vB.cell 3;have y4:=vB.cell 4;have y5:=vB.cell 5;have y6:=vB.cell 6;have y7:=vB.cell 7;have aas:=vB.lt;simp at y0 y1 y2 y3 y4 y5 y6 y7;have HY9:=Lib.hid vB;have Sc:=Lib.hid Lh;clear vB Lh Wv Sb;refine aV 2 ?_;simp only[List.take_succ_cons,List.take_zero,List.drop_succ_cons,List.drop_zero];repeat (any_goals (first | go_big_quiet_step (fail) | quiet_step (fail)))
     refine wpQuiet_nil ?_;refine wpList_plain rfl fun K hK=>?_
     go_simp;refine hK _ _ ?_;clear hK K;refine aQ fun wa dR=>?_
     have hM:=ax.new w9 147 #[.int .u32 r,.int .i64 nd.v,.int .u32 nd.lo,.int .u32 nd.hi,.int .u32 q1.1,.int .u32 q1.2,.int .u32 q2.1,.int .u32 q2.2];have hsa:Same wr wa:=by rw[dR];exact Sc.out.alloc _
     rw[← dR] at hM;have aat:w9.heap.size<wa.heap.size:=hM.lt;clear dR;have hil:(dH k y (rs.take n)).length≤4000000:=by
      have h1:(dH k y (rs.take n)).length≤(rs.take n).length:=by unfold dH;rw[List.length_map];exact List.length_filter_le _ _
      rw[List.length_take] at h1;omega
     refine Own.aR rfl (.tmp 78) (.tmp 80) _ rfl Tryz.underlying143 Bq rfl (by omega) rfl (HO.out.ag hsa (fun _ _=>id)) gu.ak ⟨r,nd,q1.1,q1.2,q2.1,q2.2⟩ w9.heap.size 1 rfl hM (by simp[Value.oneCell',gu.cells]) (by unfold maxLen;omega) (by omega) ?_;intro gg cap wb hOb hgb hat;have hSb:Same w1 wb:=by
      refine(HS.out.trans hsa (fun _ _ h=>h)).grown hgb (fun g hg=>.inr ?_);exact HF.out g (af.1 hg)
     have QX:bQ w1.heap.size (some ⟨gg,0,none⟩):=by
      refine bR ?_;rcases hat with h | h
      ·exact HF.out gg (af.1 h)
      ·have:=HS.out.size;have:=hsa.size;omega
     have Bt:=Lib.hid hOb;have kS:=Lib.hid hSb;have J8:=Lib.hid QX;clear hOb hSb QX hgb hat hM hsa;go_wp2;go_roundw
     case rel =>
      have hcc:dH k y (rs.take (n+1))=dH k y (rs.take n)++[⟨r,nd,q1.1,q1.2,q2.1,q2.2⟩]:=by
       rw[HCR.out,FW.out,if_pos (by simp),HCI.out]
      refine⟨n+1,some ⟨gg,0,none⟩,cap,by omega,by go_num,?_,?_,J8.out,kS.out⟩
      ·rw[hcc,List.length_append];rfl
      ·rw[hcc,List.length_append];exact Bt.out
     case measure=>simp[intOf] <;> omega
    | false =>
     have e2':(m2.v != y)=true:=by simpa using e2
     clear e2;repeat (any_goals (first | go_big_quiet_step ((first | (go_at_call_of 62 (Value.int IntKind.u32 nd.lo);exact aW (Br.out _ (dY.out.trans (az _ _) (fun _ _ h=>h)))) | (go_at_call 62;exact aW (FQ.out _ (dY.out.trans (az _ _) (fun _ _ h=>h)))))) | quiet_step ((first | (go_at_call_of 62 (Value.int IntKind.u32 nd.lo);exact aW (Br.out _ (dY.out.trans (az _ _) (fun _ _ h=>h)))) | (go_at_call 62;exact aW (FQ.out _ (dY.out.trans (az _ _) (fun _ _ h=>h))))))))
     refine wpQuiet_nil ?_;rintro _ ⟨qq,rfl⟩;go_wp2;go_roundw
     case rel =>
      have hcc:dH k y (rs.take (n+1))=dH k y (rs.take n):=by
       rw[HCR.out,FW.out,if_neg (by simp)]
      have J9:Same wr (more w3 qq):=dY.out.trans (az _ _) (fun _ _ h=>h);refine⟨n+1,A',C',by omega,by go_num,by rw[hcc],?_,HF.out,HS.out.trans J9 (fun _ _ h=>h)⟩;rw[hcc];exact HO.out.ag J9 (fun _ _=>id)
     case measure=>simp[intOf] <;> omega
  ·obtain rfl:n=rs.length:=by omega
   have hI:¬ ((rs.length:Nat):Int)<(rs.length:Int):=by omega
   go_wp2;go_ret;have ht:rs.take rs.length=rs:=List.take_length;rw[ht] at HO;refine⟨A',C',rfl,HO.out,?_,aX.out.trans HS.out (fun _ _ h=>h)⟩;intro b hb;exact Nat.le_trans aX.out.size (HF.out b hb)
end
end Go.Proofs.YtiomgckodmecbaaGreat
namespace Go.Proofs.YtiomgckodmecbaaGreat
open Go.RowKit Go.Tk Go.Maps Go.ChangeMaps Go.WideElems Go.MapKept
def vD (L:List bN) (n:Nd) (r:Int):List bN:=if n∈keys L then L.map (fun p=>if p.1=n then (n,r) else p) else L++[(n,r)]
theorem yu (L:List bN) (n:Nd) (r:Int):keys (vD L n r)=if n∈keys L then keys L else keys L++[n]:=by
 unfold vD;split
 ·unfold keys;rw[List.map_map];apply List.map_congr_left;intro p _;simp only[Function.comp];split
  ·rename_i h;exact h.symm
  ·rfl
 ·simp[keys]
section
variable {e:TypeId} {q:IntKind} {w:World} {b:Nat} {L:List bN}
theorem Sd:WideMaps.KeyLaw Tryz.prog 37:=deep_law_laid FK (m:=2) (by omega) D6 (by kernel_rfl) zg
theorem NM.of_heap {w':World} (h:NM e q w b L) (hh:w'.heap[b]?=w.heap[b]?):NM e q w' b L:=by
 obtain⟨D,⟨es,clock,h1,h2,h3,h4⟩,h5⟩:=h;exact⟨D,⟨es,clock,hh.trans h1,h2,h3,h4⟩,h5⟩
theorem NM.upd (h:NM e q w b L) {t:TypeId} (ht:Tryz.prog.underlying t=some (.map 37 e)) (he:Tryz.prog.underlying e=some (.int q)) (hlen:L.length<maxLen) {n:Nd} (hn:n.ok) {r:Int} (hr:(Lit.int q r).wf=true) :
  ∃ w',(Instr.mapUpdate t (.map (some b)) n.val (.int q r)).run Tryz.prog w=.ok () w'∧NM e q w' b (vD L n r):=by
 obtain⟨D,h1,h2,h3,h4⟩:=h.tidy;obtain⟨w',hrun,r1,r2⟩:=h1.store KN ht hlen (gI hn) (plainElem_int (H:=Unit) he hr);refine⟨w',hrun,?_⟩;unfold vD;split
 ·rename_i hold;have h5:=h2.set h3 h4 hn hr hold rfl;exact⟨_,by rw[← h5.size];exact ow r1,h5⟩
 ·rename_i hnew;exact⟨_,by rw[List.length_append];exact r1,h2.put h3 h4 hn hr hnew⟩
theorem Li {n:Nd} {r d:Int} (hn:(keys L).Nodup):(look (vD L n r) n).getD d=r:=by
 have hk:(keys (vD L n r)).Nodup:=by
  rw[yu];split
  ·exact hn
  ·rename_i h;rw[List.nodup_append];exact⟨hn,by simp,by rintro a ha c hc rfl;simp at hc;subst hc;exact h ha⟩
 have hm:(n,r)∈vD L n r:=by
  unfold vD;split
  ·rename_i h;obtain⟨s,hs⟩:=mem_keys.1 h;exact List.mem_map.2 ⟨(n,s),hs,by simp⟩
  ·simp
 rw[kF hk hm];rfl
theorem NM.Lj (h:NM e q w b L) {t:TypeId} (ht:Tryz.prog.underlying t=some (.map 37 e)) (he:Tryz.prog.underlying e=some (.int q)) (hz:(zeroValue e).run Tryz.prog w=.ok (.int q 0) w) {n:Nd} (hn:n.ok) :
  (Instr.lookup t (.map (some b)) n.val false).run Tryz.prog w=.ok (.int q ((look L n).getD 0)) w:=by
 obtain⟨D,h1,h2⟩:=h;obtain⟨c,hrun,hc1,_⟩:=h1.lookup_int KN ht he hz (gI hn);have hc:c=(look L n).getD 0:=by
  rcases hl:look L n with _ | r
  ·have hno:Maps.has D n.key=false:=by
    rcases hh:Maps.has D n.key with _ | _
    ·rfl
    ·exact absurd ((h2.dom n hn).1 hh) (bX.1 hl)
   rw[atKey_of_not_has hno] at hc1;exact(kG hc1).symm
  ·rw[h2.val _ (fD hl)] at hc1;exact(kG hc1).symm
 rw[← hc];exact hrun
theorem NM.entry (h:NM e q w b L) {t:TypeId} (ht:Tryz.prog.underlying t=some (.map 37 e)) (he:Tryz.prog.underlying e=some (.int q)) (hz:∀ u:World,(zeroValue e).run Tryz.prog u=.ok (.int q 0) u) (hlen:L.length<maxLen) {n:Nd} (hn:n.ok) :
  ∃ (v0:Value) (st:Nat) (w1:World),(Instr.mapEntry t (.map (some b)) n.val).run Tryz.prog w=.ok (.tuple #[v0,goInt st]) w1∧ah (fun x=>x=b) w w1∧
   (∀ w2,w2.heap[b]?=w1.heap[b]?→(Instr.lookup t (.map (some b)) n.val false).run Tryz.prog w2=.ok (.int q ((look L n).getD 0)) w2)∧
   ∀ (w2:World) (r:Int),(Lit.int q r).wf=true→w2.heap[b]?=w1.heap[b]?→∃ w3,(Instr.entryStore t (.map (some b)) (goInt st) (.int q r)).run Tryz.prog w2=.ok () w3∧NM e q w3 b (vD L n r)∧ah (fun x=>x=b) w2 w3:=by
 have hfr:∀ (u:World) (es:Array MapEntry) (clock:Nat) (o:Obj),u.heap[b]?=some (.map es clock)→ah (fun x=>x=b) u (setBlock u b o):=by
  intro u es clock o hu;refine⟨rfl,rfl,rfl,?_,fun i _ hi=>heap_setBlock_other hu o hi⟩;simp[setBlock]
 obtain⟨D,hown,hrel⟩:=id h;obtain⟨es,clock,hb,F,hs,hD⟩:=hown;obtain⟨v0,st,es1,clock1,hrun,_,hst⟩:=entry_then_store Sd ht hz hb F (gI hn);have hb1:(setBlock w b (.map es1 clock1)).heap[b]?=some (.map es1 clock1):=heap_setBlock_same hb _;refine⟨v0,st,_,hrun,hfr w es clock _ hb,?_,?_⟩
 ·-- the look-up behind it
  have hN:∃ L',NM e q (setBlock w b (.map es1 clock1)) b L'∧(look L' n).getD 0=(look L n).getD 0:=by
   rcases Sd.find w (gI hn) es.toList F.keys with⟨f1,_⟩ | ⟨j,e0,f1,f2,f3⟩
   ·have hr2:(Instr.mapEntry t (.map (some b)) n.val).run Tryz.prog w=.ok (.tuple #[.int q 0,goInt clock]) (setBlock w b (.map (es.push ⟨n.val,.int q 0,clock⟩) (clock+1))):=by
     simp[Instr.mapEntry,run_underlying ht,MapKept.run_getObj_map hb,Sd.check w false (gI hn),f1,hz,run_setObj_map _ hb,Result.andThen,setBlock]
    have hu2:(Instr.mapUpdate t (.map (some b)) n.val (.int q 0)).run Tryz.prog w=.ok () (setBlock w b (.map (es.push ⟨n.val,.int q 0,clock⟩) (clock+1))):=by
     simp[Instr.mapUpdate,run_underlying ht,MapKept.run_getObj_map hb,Sd.check w false (gI hn),f1,run_setObj_map _ hb,Result.andThen,setBlock]
    rw[hr2] at hrun;injection hrun with _ hw
    obtain⟨w',hu,hN⟩:=h.upd ht he hlen hn (r:=0) (wf0 q);rw[hu2] at hu;injection hu with _ hu
    rw[← hw,hu];refine⟨_,hN,?_⟩;have hl1:(Instr.lookup t (.map (some b)) n.val false).run Tryz.prog w=.ok (.int q 0) w:=by
     simp[Instr.lookup,run_underlying ht,MapKept.run_getObj_map hb,Sd.check w es.isEmpty (gI hn),f1,hz,Result.andThen]
    rw[h.Lj ht he (hz w) hn] at hl1;injection hl1 with hl1
    injection hl1 with _ hl1
    rw[Li hrel.nd,hl1]
   ·have hj:es[j]?=some e0:=by simpa using f2
    have hsame:es.modify j (fun e=>{ e with key:=n.val })=es:=by
     apply Array.ext';rw[Array.toList_modify,modify_eq_set _ _ _ _ f2]
     have:({ e0 with key:=n.val }:MapEntry)=e0:=by rw[← f3]
     rw[this];exact WideElems.set_self _ _ _ f2
    have hr2:(Instr.mapEntry t (.map (some b)) n.val).run Tryz.prog w=.ok (.tuple #[e0.val,goInt e0.born]) (setBlock w b (.map es clock)):=by
     simp[Instr.mapEntry,run_underlying ht,MapKept.run_getObj_map hb,Sd.check w false (gI hn),f1,hj,f3,Sd.stays w (gI hn),hsame,run_setObj_map _ hb,Result.andThen,setBlock]
    rw[hr2] at hrun;injection hrun with _ hw
    rw[← hw];exact⟨L,h.of_heap ((heap_setBlock_same hb _).trans hb.symm),rfl⟩
  obtain⟨L',hN,hl⟩:=hN;intro w2 hw2;rw[← hl];exact(hN.of_heap hw2).Lj ht he (hz w2) hn
 ·intro w2 r hr hw2;rw[hb1] at hw2;obtain⟨es',clock',hs1,hs2⟩:=hst w2 (.int q r) hw2;obtain⟨w',hu,hN⟩:=h.upd ht he hlen hn hr;rw[hs2] at hu;injection hu with _ hu
  refine⟨_,hs1,?_,hfr w2 es1 clock1 _ hw2⟩;exact hN.of_heap ((heap_setBlock_same hw2 _).trans (by rw[← hu];exact(heap_setBlock_same hb _).symm))
end
end Go.Proofs.YtiomgckodmecbaaGreat
namespace Go.Proofs.YtiomgckodmecbaaGreat
open Go.RowKit Go.Tk
def aO (k:KS) (l:List Nd) (n:Nd):List Nd:=if look k.L n=none∧n.lo≠n.hi then (if n∈l then l else l++[n]) else l
def dS (x:Int) (c:gu):List Nd:=[⟨x,c.jS,c.jT⟩,⟨x,c.jJ,c.jK⟩]
def bM (k:KS) (x:Int) (cs:List gu):List Nd:=(cs.flatMap (dS x)).foldl (aO k) []
theorem Ej (k:KS):∀ (l:List Nd) (s:List Nd),(l.foldl (aO k) s).length≤s.length+l.length:=by
 intro l
 induction l with
 | nil=>intro s;simp
 | cons q l ih =>
  intro s;rw[List.foldl_cons]
  have:=ih (aO k s q)
  have h4:(aO k s q).length≤s.length+1:=by
   unfold aO;split
   ·split <;> simp
   ·omega
  simp only[List.length_cons];omega
theorem El (k:KS) (x:Int) (cs:List gu):(bM k x cs).length≤2*cs.length:=by
 have h6:=Ej k (cs.flatMap (dS x)) [];have h7:(cs.flatMap (dS x)).length=2*cs.length:=by
  clear h6
  induction cs with
  | nil=>rfl
  | cons q l ih=>rw[List.flatMap_cons,List.length_append,ih];simp[dS] <;> omega
 simp only[List.length_nil] at h6;unfold bM;omega
structure QY (c:gu):Prop where
 p0:0≤c.jS∧c.jS<4294967296
 p1:0≤c.jJ∧c.jJ<4294967296
 p2:0≤c.jT∧c.jT<4294967296
 p3:0≤c.jK∧c.jK<4294967296
theorem vE (w:World):(zeroValue 3).run Tryz.prog w=.ok (.int .i64 0) w:=by kernel_rfl
structure Sg (M:List bN) (l:List Nd) (b:Nat):Prop where
 keys:keys M=l
 lo:∀ p∈M,0≤p.2∧p.2≤(b:Int)
theorem Sg.look {M:List bN} {l:List Nd} {b:Nat} (h:Sg M l b) (n:Nd):0≤(look M n).getD 0∧(look M n).getD 0≤(b:Int):=by
 cases hl:Proofs.YtiomgckodmecbaaGreat.look M n with
 | none=>simp
 | some r=>exact h.lo _ (fD hl)
theorem Sg.put {M:List bN} {l:List Nd} {b:Nat} (h:Sg M l b) (n:Nd):Sg (vD M n ((Proofs.YtiomgckodmecbaaGreat.look M n).getD 0+1)) (if n∈l then l else l++[n]) (b+1):=by
 have hb:=h.look n;refine⟨by rw[yu,h.keys],fun p hp=>?_⟩;unfold vD at hp;split at hp
 ·obtain⟨q,hq,rfl⟩:=List.mem_map.1 hp
  have:=h.lo q hq
  split
  ·simp only;omega
  ·omega
 ·rcases List.mem_append.1 hp with hp | hp
  ·have:=h.lo p hp;omega
  ·simp at hp;subst hp;simp only;omega
section
variable {w:World} {kp:Nat} {k:KS} {a:KA}
theorem Em (h:KW w kp k a) (x:Nat) (hx:x<64) (A:Option Addr) (C:Nat) (cs:List gu) (hO:Go.Tk.Own w 147 8 gu.cells A cs.length C cs) (hcs:∀ c∈cs,QY c) (hlen:cs.length≤4000000) :
  Calls Tryz.prog 98 #[.pointer (some ⟨kp,0,none⟩),.int .i64 x,.slice A cs.length C] w fun e w'=>e=.returned (.int .i64 (bM k x cs).length)∧Same w w':=by
 have hkl:=h.blk.lt;have hfind:=fun (n:Nd) (hn:n.ok) w' (hw:Same w w')=>oP a.U k.n k.L n hn w' (h.same hw).ut
 have HF:=Lib.hid hfind;have H:=Lib.hid h;have HO:=Lib.hid hO;have K9:=Lib.hid hcs;have hmm:=@run_makeMap Tryz.prog;clear h hfind hO hcs;go_enter Tryz.func98,Tryz.ntmps98;go_wp2_with (fail)
 go_loopw [17] (fun i wr=>∃ n M,n≤cs.length∧i=.int .i64 n∧NM 3 .i64 wr w.heap.size M∧Sg M (bM k x (cs.take n)) (2*n)∧Same w wr) (fun i _=>cs.length-(intOf i).toNat)
 case atStart=>exact⟨0,[],by omega,rfl,NM.made _ _ _,⟨rfl,fun p hp=>by cases hp⟩,(ah.refl _ _).alloc _⟩
 case round =>
  rename World=>wo
  obtain⟨n,M,hn,rfl,hM,hC,hS⟩:=hrel;have HM:=Lib.hid hM;have HC:=Lib.hid hC;have HS:=Lib.hid hS;have hkk:=H.out.same hS;have hkl':=hkk.blk.lt;have c1:=hkk.c1;clear hM hC hS hkk;by_cases hlt:n<cs.length
  ·obtain⟨c,hc⟩:∃ c,cs[n]?=some c:=⟨_,List.getElem?_eq_getElem hlt⟩;have hrow:=HO.out.ag HS.out (fun _ _=>id);obtain⟨sb,rfl,hsb,hcell⟩:=hrow.get gu.ak hc;have Si:=K9.out c (List.mem_of_getElem? hc);have hft:bM k x (cs.take (n+1))=(dS x c).foldl (aO k) (bM k x (cs.take n)):=by
    rw[List.take_add_one,hc];unfold bM;simp
   have HFT:=Lib.hid hft;have Ww:=Lib.hid Si;have s0:wo.cell? ⟨sb,n*8,none⟩=some (.int .u32 c.r):=hcell 0 (by omega);have s1:wo.cell? ⟨sb,n*8+1,none⟩=some (.int .i64 c.n.v):=hcell 1 (by omega);have s2:wo.cell? ⟨sb,n*8+2,none⟩=some (.int .u32 c.n.lo):=hcell 2 (by omega);have s3:wo.cell? ⟨sb,n*8+3,none⟩=some (.int .u32 c.n.hi):=hcell 3 (by omega);have s4:wo.cell? ⟨sb,n*8+4,none⟩=some (.int .u32 c.jS):=hcell 4 (by omega);have s5:wo.cell? ⟨sb,n*8+5,none⟩=some (.int .u32 c.jJ):=hcell 5 (by omega);have s6:wo.cell? ⟨sb,n*8+6,none⟩=some (.int .u32 c.jT):=hcell 6 (by omega);have s7:wo.cell? ⟨sb,n*8+7,none⟩=some (.int .u32 c.jK):=hcell 7 (by omega);have hI:(n:Int)<(cs.length:Int):=by omega
   clear hc hrow hcell Si hft;go_wp2_with (fail)
   refine ai fun w2 hw2=>?_
   have hrow:=Go.Tk.Own.lit (wo.alloc (.cells #[.int .u32 c.r,.int .i64 c.n.v,.int .u32 c.n.lo,.int .u32 c.n.hi,.int .u32 c.jS,.int .u32 c.jJ,.int .u32 c.jT,.int .u32 c.jK] 147)) 37 Nd.cells (fun _=>rfl) (m:=3) (dS x c) (by simp[maxLen,dS]) (cs:=#[.int .i64 x,.int .u32 c.jS,.int .u32 c.jT,.int .i64 x,.int .u32 c.jJ,.int .u32 c.jK]) (by simp[dS,Nd.cells]);have hsz:(wo.alloc (.cells #[.int .u32 c.r,.int .i64 c.n.v,.int .u32 c.n.lo,.int .u32 c.n.hi,.int .u32 c.jS,.int .u32 c.jJ,.int .u32 c.jT,.int .u32 c.jK] 147)).heap.size=wo.heap.size+1:=by simp
   rw[hsz,← hw2] at hrow;have hs2:Same wo w2:=by rw[hw2];exact((ah.refl _ _).alloc _).alloc _
   have hml:=HM.out.lt;have q8:=Lib.hid hrow;have HS2:=Lib.hid hs2;have HL:Hid ((dS (x:Int) c).length=2):=Lib.hid rfl;have Wx:∀ nd∈dS (x:Int) c,nd.ok:=by
    intro nd hnd;obtain⟨p0,p1,p2,p3⟩:=Ww.out;simp only[dS,List.mem_cons,List.not_mem_nil,or_false] at hnd;rcases hnd with rfl | rfl
    ·exact Nd.Bh (by simp) (by simp <;> omega) p0.1 p0.2 p2.1 p2.2
    ·exact Nd.Bh (by simp) (by simp <;> omega) p1.1 p1.2 p3.1 p3.2
   have Wy:=Lib.hid Wx;obtain⟨uf,Wz⟩:∃ uf,dS (x:Int) c=uf:=⟨_,rfl⟩;rw[Wz] at q8 HL Wy HFT;clear hw2 hrow hsz hs2 Wz Wx s0 s1 s2 s3 s4 s5 s6 s7 Ww c1 hkl';go_loopw [35] (fun j wq=>∃ (m:Nat) (M':List bN),m≤2∧j=.int .i64 m∧NM 3 .i64 wq w.heap.size M'∧Sg M' ((uf.take m).foldl (aO k) (bM k x (cs.take n))) (2*n+m)∧Same w wq∧Go.Tk.Own wq 37 3 Nd.cells (some ⟨wo.heap.size+1,0,none⟩) uf.length uf.length uf∧wo.heap.size+1<wq.heap.size) (fun j _=>2-(intOf j).toNat)
   case atStart =>
    refine⟨0,M,by omega,rfl,HM.out.ag HS2.out id,HC.out,HS.out.trans HS2.out (fun _ _ h=>h),q8.out,?_⟩
    have:=q8.out.form (by have:=HL.out;omega)
    obtain⟨_,h1,h2⟩:=this;injection h1 with h1
    injection h1 with h1
    omega
   case round =>
    rename World=>wq
    obtain⟨m,M',hm,rfl,hM',hC',hS',hrow',hgt⟩:=hrel;have J5:=Lib.hid hM';have Sj:=Lib.hid hC';have Sk:=Lib.hid hS';have hkk:=H.out.same hS';have hkl':=hkk.blk.lt;have c1:=hkk.c1;have Iw:=Lib.hid hrow';clear hM' hC' hS' hkk hrow';by_cases hm2:m<2
    ·obtain⟨nd,hnd⟩:∃ nd,uf[m]?=some nd:=⟨_,List.getElem?_eq_getElem (by have:=HL.out;omega)⟩;have hok:=Wy.out nd (List.mem_of_getElem? hnd);have hstep:(uf.take (m+1)).foldl (aO k) (bM k x (cs.take n))=aO k ((uf.take m).foldl (aO k) (bM k x (cs.take n))) nd:=by
      rw[List.take_add_one,hnd];simp
     obtain⟨sb2,he,_,hcell⟩:=Iw.out.get (m:=3) (f:=Nd.cells) (fun _=>rfl) hnd;injection he with he
     injection he with he
     subst he;have s0:wq.cell? ⟨wo.heap.size+1,m*3,none⟩=some (.int .i64 nd.v):=hcell 0 (by omega);have s1:wq.cell? ⟨wo.heap.size+1,m*3+1,none⟩=some (.int .u32 nd.lo):=hcell 1 (by omega);have s2:wq.cell? ⟨wo.heap.size+1,m*3+2,none⟩=some (.int .u32 nd.hi):=hcell 2 (by omega);have HST:=Lib.hid hstep;have En:=Lib.hid hok;have R7:(m:Int)<2:=by omega
     clear hnd hstep hok hcell;go_upto_region 8 with fail
     refine ai fun w3 hw3=>?_
     have hX:=ax.new wq 37 #[.int .i64 nd.v,.int .u32 nd.lo,.int .u32 nd.hi];have hs3:Same wq w3:=by rw[hw3];exact(ah.refl _ _).alloc _
     rw[← hw3] at hX;clear hw3 s0 s1 s2;have hk3:=H.out.same (Sk.out.trans hs3 (fun _ _ h=>h));have c1:=hk3.c1;have WA:=hk3.blk.lt;have x0:=hX.cell 0;have x1:=hX.cell 1;have x2:=hX.cell 2;have hxl:=hX.lt;simp at x0 x1 x2;have HX:=Lib.hid hX;have dY:=Lib.hid hs3;clear hX hs3 hk3;refine aJ (fun _=>False) [([0,1,2,3,4,5],6),([7,8,9,10],11)] (by kernel_rfl) (by kernel_rfl) ?_;simp only[cK,pick,List.map_cons,List.map_nil,List.getD_cons_zero,List.getD_cons_succ];repeat (any_goals (first | go_big_quiet_step (fail) | quiet_step (fail)))
     refine wpQuiet_nil ?_;refine aa rfl fun K hK=>?_
     go_simp;have hsd:Same w w3.drew:=(Sk.out.trans dY.out (fun _ _ h=>h)).drew;refine(HF.out nd En.out _ hsd).mono ?_;rintro e w4 ⟨rfl,hs4⟩;have Bu:Same w3 w4:=(ah.refl _ _).drew.trans hs4 (fun _ _ h=>h);refine hK _ _ (aZ.bu Bu) ?_;clear hK K hs4 hsd;repeat (any_goals (first | go_big_quiet_step (fail) | quiet_step (fail)))
     refine wpQuiet_nil ?_;have vw:=HX.out.ag Bu id;have x0:=vw.cell 0;have x1:=vw.cell 1;have x2:=vw.cell 2;have Wn:=vw.lt;simp at x0 x1 x2;have FZ:=Lib.hid vw;have iB:=Lib.hid (dY.out.trans Bu (fun _ _ h=>h));clear vw Bu HX dY;obtain⟨l,hl⟩:∃ l,look k.L nd=l:=⟨_,rfl⟩;rw[hl];have D8:=Lib.hid hl;clear hl;cases l with
     | some r =>
      go_wp2;go_roundw
      case rel =>
       have hC2:=Sj.out;have he:(uf.take (m+1)).foldl (aO k) (bM k x (cs.take n))=(uf.take m).foldl (aO k) (bM k x (cs.take n)):=by
        rw[HST.out];unfold aO;rw[if_neg (by rw[D8.out];simp)]
       refine⟨m+1,M',by omega,by go_num,J5.out.ag iB.out id,⟨by rw[he];exact hC2.keys,fun p hp=>by have:=hC2.lo p hp;omega⟩,Sk.out.trans iB.out (fun _ _ h=>h),Iw.out.ag iB.out (fun _ _=>id),Nat.lt_of_lt_of_le hgt iB.out.size⟩
      case measure=>simp[intOf] <;> omega
     | none =>
      by_cases hee:nd.lo=nd.hi
      ·have J7:(nd.lo != nd.hi)=false:=by simpa using hee
       have ZI:=Lib.hid hee;clear hee;go_wp2;go_roundw
       case rel =>
        have hC2:=Sj.out;have he:(uf.take (m+1)).foldl (aO k) (bM k x (cs.take n))=(uf.take m).foldl (aO k) (bM k x (cs.take n)):=by
         rw[HST.out];unfold aO;rw[if_neg (by rw[D8.out];simp;exact ZI.out)]
        refine⟨m+1,M',by omega,by go_num,J5.out.ag iB.out id,⟨by rw[he];exact hC2.keys,fun p hp=>by have:=hC2.lo p hp;omega⟩,Sk.out.trans iB.out (fun _ _ h=>h),Iw.out.ag iB.out (fun _ _=>id),Nat.lt_of_lt_of_le hgt iB.out.size⟩
       case measure=>simp[intOf] <;> omega
      ·have J7:(nd.lo != nd.hi)=true:=by simpa using hee
       have ZI:=Lib.hid hee;clear hee;go_upto_region 10 with fail
       have hz:=vE;have hMw:NM 3 .i64 w4.drew w.heap.size M':=(J5.out.ag iB.out id).of_heap rfl;have Sm:M'.length<maxLen:=by
        have h1:=Sj.out.keys;have h2:(keys M').length=M'.length:=by simp[keys]
        have h3:∀ (l:List Nd) (s:List Nd),(l.foldl (aO k) s).length≤s.length+l.length:=by
         intro l
         induction l with
         | nil=>intro s;simp
         | cons q l ih =>
          intro s;rw[List.foldl_cons]
          have:=ih (aO k s q)
          have h4:(aO k s q).length≤s.length+1:=by
           unfold aO;split
           ·split <;> simp
           ·omega
          simp only[List.length_cons];omega
        have h5:=h3 (uf.take m) (bM k x (cs.take n));have h6:=h3 ((cs.take n).flatMap (dS x)) [];have h7:((cs.take n).flatMap (dS (x:Int))).length=(cs.take n).length*2:=by
         clear h1 h2 h3 h5 h6
         induction cs.take n with
         | nil=>rfl
         | cons q l ih=>rw[List.flatMap_cons,List.length_append,ih];simp[dS] <;> omega
        rw[← h1,h2,List.length_take] at h5;rw[List.length_take] at h7;have h8:bM k x (cs.take n)=((cs.take n).flatMap (dS x)).foldl (aO k) []:=rfl;rw[← h8] at h6;simp only[List.length_nil] at h6;unfold maxLen;omega
       obtain⟨v0,st,w5,hent,WC,Ll,hst⟩:=hMw.entry Tryz.underlying171 Tryz.underlying3 vE Sm En.out;have hlk:=Sj.out.look nd;obtain⟨cv,hcv⟩:∃ cv,(look M' nd).getD 0=cv:=⟨_,rfl⟩;have WE:=hMw.Lj Tryz.underlying171 Tryz.underlying3 (vE _) En.out;rw[hcv] at WE Ll hlk;have hwf:(Lit.int .i64 (cv+1)).wf=true:=by simp[Lit.wf,IntKind.min,IntKind.max,IntKind.signed,IntKind.bits] <;> omega
       have aau:=Ll w5 rfl;have WG:=Lib.hid hst;have F6:=Lib.hid WC;have Sn:=Lib.hid hcv;obtain⟨cv0,cv1⟩:=hlk;unfold Nd.val at WE aau hent;clear hst WC hcv Ll hMw Sm;have hXm:¬ (wq.heap.size=w.heap.size):=by have:=J5.out.lt;omega
       refine AP (fun b=>b=w.heap.size) (.q [0,1] (.fork 2 (.q [3] (.step 4 (.q [5] (.last 6)))) 4 (.q [5] (.step 2 (.q [3] (.last 6)))))) (by kernel_rfl) (by kernel_rfl) ?_;simp only[Dk,pick,List.map_cons,List.map_nil,List.getD_cons_zero,List.getD_cons_succ];repeat (any_goals (first | go_big_quiet_step (fail) | quiet_step (fail)))
       refine wpQuiet_nil ?_;refine⟨?_,?_⟩
       ·refine aa rfl fun K hK=>?_
        go_simp;refine hK _ _ (aZ.bu ((ah.refl _ _).drew)) ?_;clear hK K;repeat (any_goals (first | go_big_quiet_step (fail) | quiet_step (fail)))
        refine wpQuiet_nil ?_;refine aa rfl fun K hK=>?_
        go_simp;refine hK _ _ (aZ.bu ((ah.refl _ _).drew.trans F6.out (fun _ _ h=>h))) ?_;clear hK K;repeat (any_goals (first | go_big_quiet_step (fail) | quiet_step (fail)))
        refine wpQuiet_nil ?_;obtain⟨w6,Lm,kT,K5⟩:=WG.out w5 (cv+1) hwf rfl;unfold goInt at Lm;refine wpList_plain rfl fun K hK=>?_
        go_simp;refine hK _ _ ?_;clear hK K;have WH:=Lib.hid kT;have Ka:=Lib.hid (F6.out.trans K5 (fun _ _ h=>h));clear kT K5 Lm;go_wp2;go_roundw
        case rel =>
         have hC2:=Sj.out;have he:(uf.take (m+1)).foldl (aO k) (bM k x (cs.take n))=(if nd∈((uf.take m).foldl (aO k) (bM k x (cs.take n))) then ((uf.take m).foldl (aO k) (bM k x (cs.take n))) else ((uf.take m).foldl (aO k) (bM k x (cs.take n)))++[nd]):=by
          rw[HST.out];unfold aO;rw[if_pos ⟨D8.out,ZI.out⟩]
         have WI:=hC2.put nd;rw[Sn.out,← he] at WI;have hwx:Same w w4.drew:=(Sk.out.trans iB.out (fun _ _ h=>h)).drew;have hfS:Same w w6:=hwx.trans Ka.out (fun i hi h=>by omega);refine⟨m+1,_,by omega,by go_num,WH.out,WI,hfS,?_,?_⟩
         ·have h1:=Iw.out.ag iB.out (fun _ _=>id);refine Go.Tk.Own.ag (w:=w4.drew) (S:=fun x=>x=w.heap.size) (h1.ag ((ah.refl (fun _=>False) _).drew) (fun _ _=>id)) Ka.out ?_;intro ad had;injection had with had
          subst had
          have:=HM.out.lt
          simp only;omega
         ·have h1:=iB.out.size;have h2:=Ka.out.size;have h3:w4.drew.heap.size=w4.heap.size:=rfl;omega
        case measure=>simp[intOf] <;> omega
       ·refine aa rfl fun K hK=>?_
        go_simp;refine hK _ _ (aZ.bu ((ah.refl _ _).drew.trans F6.out (fun _ _ h=>h))) ?_;clear hK K;repeat (any_goals (first | go_big_quiet_step (fail) | quiet_step (fail)))
        refine wpQuiet_nil ?_;refine aa rfl fun K hK=>?_
        go_simp;refine hK _ _ (aZ.bu ((ah.refl _ _).drew.trans F6.out (fun _ _ h=>h))) ?_;clear hK K;repeat (any_goals (first | go_big_quiet_step (fail) | quiet_step (fail)))
        refine wpQuiet_nil ?_;obtain⟨w6,Lm,kT,K5⟩:=WG.out w5 (cv+1) hwf rfl;unfold goInt at Lm;refine wpList_plain rfl fun K hK=>?_
        go_simp;refine hK _ _ ?_;clear hK K;have WH:=Lib.hid kT;have Ka:=Lib.hid (F6.out.trans K5 (fun _ _ h=>h));clear kT K5 Lm;go_wp2;go_roundw
        case rel =>
         have hC2:=Sj.out;have he:(uf.take (m+1)).foldl (aO k) (bM k x (cs.take n))=(if nd∈((uf.take m).foldl (aO k) (bM k x (cs.take n))) then ((uf.take m).foldl (aO k) (bM k x (cs.take n))) else ((uf.take m).foldl (aO k) (bM k x (cs.take n)))++[nd]):=by
          rw[HST.out];unfold aO;rw[if_pos ⟨D8.out,ZI.out⟩]
         have WI:=hC2.put nd;rw[Sn.out,← he] at WI;have hwx:Same w w4.drew:=(Sk.out.trans iB.out (fun _ _ h=>h)).drew;have hfS:Same w w6:=hwx.trans Ka.out (fun i hi h=>by omega);refine⟨m+1,_,by omega,by go_num,WH.out,WI,hfS,?_,?_⟩
         ·have h1:=Iw.out.ag iB.out (fun _ _=>id);refine Go.Tk.Own.ag (w:=w4.drew) (S:=fun x=>x=w.heap.size) (h1.ag ((ah.refl (fun _=>False) _).drew) (fun _ _=>id)) Ka.out ?_;intro ad had;injection had with had
          subst had
          have:=HM.out.lt
          simp only;omega
         ·have h1:=iB.out.size;have h2:=Ka.out.size;have h3:w4.drew.heap.size=w4.heap.size:=rfl;omega
        case measure=>simp[intOf] <;> omega
    ·obtain rfl:m=2:=by omega
     have R7:¬ (2:Int)<2:=by omega
     go_wp2;go_roundw
     case rel =>
      have hC2:=Sj.out;rw[show uf.take 2=uf from List.take_of_length_le (by have:=HL.out;omega),← HFT.out] at hC2;exact⟨n+1,M',by omega,by go_num,J5.out,hC2,Sk.out⟩
     case measure=>simp[intOf] <;> omega
  ·obtain rfl:n=cs.length:=by omega
   have hI:¬ ((cs.length:Nat):Int)<(cs.length:Int):=by omega
   have hM:=HM.out;go_upto_region 13 with fail
   refine aV 1 ?_;simp only[List.take_succ_cons,List.take_zero,List.drop_succ_cons,List.drop_zero];repeat (any_goals (first | go_big_quiet_step (fail) | quiet_step (fail)))
   refine wpQuiet_nil ?_;refine wpList_plain rfl fun K hK=>?_
   refine Own.QF (.tmp 66) _ rfl Tryz.underlying171 rfl hM ?_;refine hK _ _ ?_;clear hK K hM;go_wp2;go_ret;have hC2:=HC.out.keys;rw[List.take_length] at hC2;refine⟨?_,HS.out⟩;rw[← hC2];simp[keys]
end
def aB (k:KS) (x y:Int):List gu:=dH k y (rising (jv k.L x.toNat))
def bD (k:KS) (cs:List gu):KS:=cs.foldl (fun k c=>iG k c.n) k
def bS (k:KS) (x:Int) (c:gu):KS:=bF (dw k ⟨x,c.jS,c.jT⟩).2 (dw k ⟨x,c.jS,c.jT⟩).1
def bO (k:KS) (x:Int) (c:gu):KS:=bF (dw (bS k x c) ⟨x,c.jJ,c.jK⟩).2 (dw (bS k x c) ⟨x,c.jJ,c.jK⟩).1
def oD (k:KS) (x y:Int) (c:gu):Nd:=⟨y,(dw k ⟨x,c.jS,c.jT⟩).1,(dw (bS k x c) ⟨x,c.jJ,c.jK⟩).1⟩
def gY (x y:Int) (k:KS) (c:gu):KS:=pU (nZ (bO k x c) c.r (oD k x y c)) (oD k x y c) c.r
def dI (k:KS) (x y:Int) (cs:List gu):KS:=cs.foldl (gY x y) k
def gP (k:KS) (cs:List gu):KS:=cs.foldl (fun k c=>jh (jh k c.n.lo) c.n.hi) k
def lW (k:KS) (l:Nat) (x y:Int):KS:={ k with ord:=(k.ord.set l y).set (l+1) x,bH:=(k.bH.set x.toNat (l+1)).set y.toNat l }
def qa (k:KS) (x y:Int):Bool:=decide (k.ac+(bM k x (aB k x y)).length≤k.c)
def yx (k:KS) (l:Nat) (x y:Int):KS:=lW (gP (dI (bD k (aB k x y)) x y (aB k x y)) (aB k x y)) l x y
def eO (k:KS) (l:Nat):Bool×KS :=
 if qa k (k.ord.getD l 0) (k.ord.getD (l+1) 0) then (true,yx k l (k.ord.getD l 0) (k.ord.getD (l+1) 0)) else (false,k)
def Bv (k:KS) (r:Int):Prop:=0≤r∧r<4294967296∧(1<r→∃ u:Int,k.us[r.toNat]?=some u∧0≤u∧u<100000000)
structure zo (k:KS) (x y:Int) (c:gu):Prop where
 b1:∃ ext X,Bk k ext X
 n1:jH k ⟨x,c.jS,c.jT⟩
 r1:c.jS≠c.jT→look k.L ⟨x,c.jS,c.jT⟩=none→k.ac<k.c
 u1:Bv (dw k ⟨x,c.jS,c.jT⟩).2 (dw k ⟨x,c.jS,c.jT⟩).1
 b2:∃ ext X,Bk (bS k x c) ext X
 n2:jH (bS k x c) ⟨x,c.jJ,c.jK⟩
 r2:c.jJ≠c.jK→look (bS k x c).L ⟨x,c.jJ,c.jK⟩=none→(bS k x c).ac<(bS k x c).c
 u2:Bv (dw (bS k x c) ⟨x,c.jJ,c.jK⟩).2 (dw (bS k x c) ⟨x,c.jJ,c.jK⟩).1
 b3:∃ ext X,Bk (bO k x c) ext X
 n3:jH (bO k x c) (oD k x y c)
 m3:∃ (m:Nat) (n0:Nd),c.r=m∧2≤m∧(bO k x c).ls[m]?=some ⟨n0,true,0⟩
structure vF (k:KS) (l x y:Nat):Prop where
 hx:k.ord[l]?=some (x:Int)
 hy:k.ord[l+1]?=some (y:Int)
 xn:x<k.n
 yn:y<k.n
 xy:x≠y
 n64:k.n≤64
 LL:k.L.length≤2000000
 c1:k.c≤4000000
 rin:∀ r∈rising (jv k.L x),QW k r
 ZJ:∀ c∈aB k x y,QY c∧c.n.ok∧0≤c.n.lo∧c.n.lo<4294967296∧0≤c.n.hi∧c.n.hi<4294967296
 s2:qa k x y=true→∀ i c,(aB k x y)[i]?=some c→zo (dI (bD k (aB k x y)) x y ((aB k x y).take i)) x y c
 s3:qa k x y=true→∀ i c,(aB k x y)[i]?=some c→(∃ ext,Bk (gP (dI (bD k (aB k x y)) x y (aB k x y)) ((aB k x y).take i)) (c.n.lo::ext) [])∧
  ∃ ext,Bk (jh (gP (dI (bD k (aB k x y)) x y (aB k x y)) ((aB k x y).take i)) c.n.lo) (c.n.hi::ext) []
 lx:x<k.bH.length
 ly:y<k.bH.length
section
variable {w:World} {kp:Nat} {k:KS} {a:KA} {ext:List Int} {X:List bN} {n:Nd}
theorem Eo (k:KS) (r:Int):(bF k r).n=k.n:=(ic (k:=k) (r:=r)).1
theorem ug (k:KS) (n:Nd):(aH k n).n=k.n:=by rw[dL];rfl
theorem zq (k:KS) (n:Nd):(dw k n).2.n=k.n:=by
 unfold dw;split
 ·rfl
 ·cases look k.L n with
  | none=>exact ug k n
  | some r=>rfl
theorem F7 (k:KS) (x:Int) (c:gu):(bS k x c).n=k.n:=by unfold bS;rw[Eo,zq]
theorem F8 (k:KS) (x:Int) (c:gu):(bO k x c).n=k.n:=by unfold bO;rw[Eo,zq,F7]
theorem OQ (x y:Int) (k:KS) (c:gu):(gY x y k c).n=k.n:=F8 k x c
theorem uh (cs:List gu):∀ (k:KS),(bD k cs).n=k.n:=by
 induction cs with
 | nil=>intro k;rfl
 | cons c cs ih=>intro k;exact ih (iG k c.n)
theorem zu (x y:Int) (cs:List gu):∀ (k:KS),(dI k x y cs).n=k.n:=by
 induction cs with
 | nil=>intro k;rfl
 | cons c cs ih=>intro k;exact(ih (gY x y k c)).trans (OQ x y k c)
theorem mK:∀ (f:Nat) (k:KS) (st:List Int),(fC f k st).n=k.n
 | 0,_,_=>rfl
 | _+1,_,[]=>rfl
 | f+1,k,r::st=>by
  unfold fC;split
  ·exact mK f k st
  ·split
   ·exact mK f _ st
   ·exact mK f _ _
theorem F9 (cs:List gu):∀ (k:KS),(gP k cs).n=k.n:=by
 induction cs with
 | nil=>intro k;rfl
 | cons c cs ih=>intro k;exact(ih _).trans ((mK _ _ _).trans (mK _ _ _))
def iZ (k:KS):Nat×Nat×List Int×List Int×List Int:=(k.n,k.c,k.ord,k.bH,k.tr)
theorem gQ (k:KS) (r:Int):iZ (bF k r)=iZ k:=by unfold bF;split <;> rfl
theorem jw (k:KS) (n:Nd):iZ (aH k n)=iZ k:=by rw[dL];rfl
theorem qb (k:KS) (n:Nd):iZ (dw k n).2=iZ k:=by
 unfold dw;split
 ·rfl
 ·cases look k.L n with
  | none=>exact jw k n
  | some r=>rfl
theorem rq (x y:Int) (k:KS) (c:gu):iZ (gY x y k c)=iZ k:=by
 show iZ (bO k x c)=iZ k;unfold bO;rw[gQ,qb];unfold bS;rw[gQ,qb]
theorem iJ:∀ (f:Nat) (k:KS) (st:List Int),iZ (fC f k st)=iZ k
 | 0,_,_=>rfl
 | _+1,_,[]=>rfl
 | f+1,k,r::st=>by
  unfold fC;split
  ·exact iJ f k st
  ·split
   ·exact iJ f _ st
   ·exact iJ f _ _
theorem qc {α:Type} (f:KS→α→KS) (h:∀ k c,iZ (f k c)=iZ k):∀ (cs:List α) (k:KS),iZ (cs.foldl f k)=iZ k
 | [],_=>rfl
 | c::cs,k=>(qc f h cs (f k c)).trans (h k c)
theorem nK (k:KS) (cs:List gu):iZ (bD k cs)=iZ k:=qc (fun k (c:gu)=>iG k c.n) (fun _ _=>rfl) cs k
theorem nL (k:KS) (x y:Int) (cs:List gu):iZ (dI k x y cs)=iZ k:=qc _ (rq x y) cs k
theorem kJ (k:KS) (cs:List gu):iZ (gP k cs)=iZ k:=qc (fun k (c:gu)=>jh (jh k c.n.lo) c.n.hi) (fun _ _=>(iJ _ _ _).trans (iJ _ _ _)) cs k
theorem lF {α β:Type} (f:β→α→β) (s:β) {l:List α} {i:Nat} {c:α} (h:l[i]?=some c):(l.take (i+1)).foldl f s=f ((l.take i).foldl f s) c:=by
 rw[List.take_add_one,h];simp
theorem yz (h:KW w kp k a) (l x y:Nat) (hl:l<4000000) (ok:vF k l x y) :
  Calls Tryz.prog 63 #[.pointer (some ⟨kp,0,none⟩),.int .i64 l] w fun e w'=>e=.returned (.bool (eO k l).1)∧∃ a',KW w' kp (eO k l).2 a'∧cZ k.n kp w a w' a':=by
 have heK:eO k l=if qa k x y then (true,yx k l x y) else (false,k):=by
  unfold eO;have h1:k.ord.getD l 0=x:=by rw[List.getD_eq_getElem?_getD,ok.hx];rfl
  have h2:k.ord.getD (l+1) 0=y:=by rw[List.getD_eq_getElem?_getD,ok.hy];rfl
  rw[h1,h2]
 obtain⟨b,hb⟩:∃ b,qa k x y=b:=⟨_,rfl⟩;rw[heK,hb];clear heK;have hkl:=h.blk.lt;have c5:=h.c5;have En:=Lib.hid ok;have Sq:x<64:=by have:=ok.xn;have:=ok.n64;omega
 have ab8:y<64:=by have:=ok.yn;have:=ok.n64;omega
 have hol:l+1<k.ord.length:=aY ok.hy;obtain⟨ob,ho1,aav,ho2⟩:=h.ord.dQ ok.hx;obtain⟨ob2,ho3,_,ho4⟩:=h.ord.dQ ok.hy;rw[ho1] at ho3;injection ho3 with ho3
 injection ho3 with ho3
 subst ho3;rw[ho1] at c5;have hoI:(l:Int)<k.ord.length:=by omega
 have Sr:(l:Int)+1<k.ord.length:=by omega
 have Su:IntKind.i64.wrap ((l:Int)+1)=l+1:=IntWalk.i64_in _ (by omega);have hl0:(0:Int)≤(l:Int)+1:=by omega
 have hlt:((l:Int)+1).toNat=l+1:=by omega
 have hcr:=fun w' (hw:Same w w')=>vo (h.same hw) x y ok.xn ok.rin (by have:=ok.LL;omega)
 have hfr:=fun w' (hw:Same w w') A C (hO:Go.Tk.Own w' 147 8 gu.cells A (aB k x y).length C (aB k x y)) (hlen:(aB k x y).length≤4000000)=>Em (h.same hw) x Sq A C (aB k x y) hO (fun c hc=>(ok.ZJ c hc).1) hlen
 have hrm:=fun w' (hw:Same w w') (m:Nat) (hm:m≤4000000)=>yo (h.same hw) m hm
 have hct:dH k y (rising (jv k.L x))=aB k x y:=by unfold aB;rw[Int.toNat_natCast]
 rw[hct] at hcr;have hcl:(aB k x y).length≤2000000:=by
  rw[← hct];have h1:(dH k y (rising (jv k.L x))).length≤(rising (jv k.L x)).length:=by unfold dH;rw[List.length_map];exact List.length_filter_le _ _
  have h2:(jv k.L x).length≤k.L.length:=List.length_filter_le _ _;have h3:=jI (jv k.L x);have h4:=ok.LL;omega
 have hRm:b=decide (k.ac+(bM k x (aB k x y)).length≤k.c):=hb.symm;have tF:=Lib.hid hb;clear hb;have hfl:(bM k x (aB k x y)).length≤2*(aB k x y).length:=El _ _ _;generalize hcs:aB k x y=cs at *
 have HC:=Lib.hid hcr;have tZ:=Lib.hid hfr;have OI:=Lib.hid hrm;have HRR:=Lib.hid hRm;have K9:=Lib.hid hcs;have H:=Lib.hid h;have HX:=Lib.hid ok.hx;clear h hcr hfr hrm hRm hct hcs ok;replace ho2:w.cell? ⟨ob,l,none⟩=some (.int .i64 x):=ho2;replace ho4:w.cell? ⟨ob,l+1,none⟩=some (.int .i64 y):=ho4;have WJ:=Lib.hid ho1;clear ho1;go_enter Tryz.func63,Tryz.ntmps63;go_wp2_with (fail)
 refine eG (by kernel_rfl) (by kernel_rfl) ?_;repeat (any_goals (first | go_big_quiet_step (fail) | quiet_step (fail)))
 refine wpQuiet_nil ?_;rintro _ ⟨qq,rfl⟩;have hs1:Same w (more w qq):=az _ _;generalize more w qq=w1 at *
 have aX:=Lib.hid hs1;clear hs1 c5 ho2 ho4 hoI Sr aav Su hl0 hlt hkl;go_wp2_with (fail)
 refine(HC.out _ aX.out).mono ?_;rintro e w2 ⟨A,C,rfl,hO,ZK,hs2⟩;have HS2:=Lib.hid (aX.out.trans hs2 (fun _ _ h=>h));have HO:=Lib.hid hO
 have OT:Hid (∀ b,rowOf A b→¬ gX k.n kp a b∧w.heap.size≤b):=Lib.hid (by
  intro b hb;have h1:=ZK b hb;have h2:=aX.out.size
  exact⟨fun hk=>by have:=H.out.lt hk;omega,by omega⟩)
 clear hs2 hO ZK HC aX;go_wp2_with (fail)
 have hf2:∀ w',Same w2 w'→Calls Tryz.prog 98 #[.pointer (some ⟨kp,0,none⟩),.int .i64 x,.slice A cs.length C] w' fun e w''=>e=.returned (.int .i64 (bM k x cs).length)∧Same w' w'' :=
  fun w' hw=>tZ.out w' (HS2.out.trans hw (fun _ _ h=>h)) A C (HO.out.ag hw (fun _ _=>id)) (by omega)
 have hr2:∀ w',Same w2 w'→Calls Tryz.prog 57 #[.pointer (some ⟨kp,0,none⟩),.int .i64 (bM k x cs).length] w' fun e w''=>e=.returned (.bool (decide (k.ac+(bM k x cs).length≤k.c)))∧Same w' w'' :=
  fun w' hw=>OI.out w' (HS2.out.trans hw (fun _ _ h=>h)) _ (by omega)
 rw[← HRR.out] at hr2;have Sv:=Lib.hid hf2;have HR2:=Lib.hid hr2;clear hf2 hr2 tZ OI;have hkl:kp<w2.heap.size:=(H.out.same HS2.out).blk.lt;refine eG (by kernel_rfl) (by kernel_rfl) ?_;repeat (any_goals (first | go_big_quiet_step ((first | (go_at_call 98;exact aW (Sv.out _ (az _ _))) | (go_at_call 57;exact aW (HR2.out _ (az _ _))))) | quiet_step ((first | (go_at_call 98;exact aW (Sv.out _ (az _ _))) | (go_at_call 57;exact aW (HR2.out _ (az _ _)))))))
 refine wpQuiet_nil ?_;rintro _ ⟨qq,rfl⟩;have hs3:Same w2 (more w2 qq):=az _ _;generalize more w2 qq=w3 at *
 have hk3:=H.out.same (HS2.out.trans hs3 (fun _ _ h=>h));have RO:=Lib.hid (HO.out.ag hs3 (fun _ _=>id));have FO:=Lib.hid hk3;have dY:=Lib.hid (HS2.out.trans hs3 (fun _ _ h=>h));clear hs3 hk3 HO HS2 Sv HR2 hkl;cases b with
 | false =>
  go_wp2;go_ret;exact⟨rfl,a,FO.out,cZ.same dY.out⟩
 | true =>
  go_wp2_with (fail)
  simp only[Bool.not_true];go_loopw [47] (fun t wr=>∃ i:Nat,i≤cs.length∧t=.int .i64 i∧KW wr kp (bD k (cs.take i)) a∧cZ k.n kp w3 a wr a) (fun t _=>cs.length-(intOf t).toNat)
  case atStart=>exact⟨0,by omega,rfl,FO.out,cZ.refl _ _ _ _⟩
  case round =>
   obtain⟨i,hi,rfl,hk1,hg1⟩:=hrel;obtain⟨a1,ha1⟩:∃ a1,a=a1:=⟨_,rfl⟩;rw[ha1] at hk1;have HA1:=Lib.hid ha1;clear ha1;have Br:Hid ((bD k (cs.take i)).n=k.n):=Lib.hid (uh _ _);have hkl:=hk1.blk.lt;have c1:=hk1.c1;by_cases hlt:i<cs.length
   ·obtain⟨c,hc⟩:∃ c,cs[i]?=some c:=⟨_,List.getElem?_eq_getElem hlt⟩;have hrow:=RO.out.ag hg1.ag (fun ad had=>(OT.out _ ⟨ad,had,rfl⟩).1);obtain⟨sb,rfl,hsb,hcell⟩:=hrow.get gu.ak hc;have s0:wr.cell? ⟨sb,i*8,none⟩=some (.int .u32 c.r):=hcell 0 (by omega);have s1:wr.cell? ⟨sb,i*8+1,none⟩=some (.int .i64 c.n.v):=hcell 1 (by omega);have s2:wr.cell? ⟨sb,i*8+2,none⟩=some (.int .u32 c.n.lo):=hcell 2 (by omega);have s3:wr.cell? ⟨sb,i*8+3,none⟩=some (.int .u32 c.n.hi):=hcell 3 (by omega);have s4:wr.cell? ⟨sb,i*8+4,none⟩=some (.int .u32 c.jS):=hcell 4 (by omega);have s5:wr.cell? ⟨sb,i*8+5,none⟩=some (.int .u32 c.jJ):=hcell 5 (by omega);have s6:wr.cell? ⟨sb,i*8+6,none⟩=some (.int .u32 c.jT):=hcell 6 (by omega);have s7:wr.cell? ⟨sb,i*8+7,none⟩=some (.int .u32 c.jK):=hcell 7 (by omega);have hI:(i:Int)<(cs.length:Int):=by omega
    have ZL:=Lib.hid hc;clear hc hrow hcell;have pq:=Lib.hid hk1;have zm:=Lib.hid hg1;clear hk1 hg1;go_upto_region 8 with fail
    refine ai fun wb hwb=>?_
    have hBx:=ax.new wr 147 #[.int .u32 c.r,.int .i64 c.n.v,.int .u32 c.n.lo,.int .u32 c.n.hi,.int .u32 c.jS,.int .u32 c.jJ,.int .u32 c.jT,.int .u32 c.jK];have vG:Same wr wb:=by rw[hwb];exact(ah.refl _ _).alloc _
    rw[← hwb] at hBx;clear hwb s0 s1 s2 s3 s4 s5 s6 s7;have NY:¬ gX k.n kp a1 wr.heap.size:=fun hx=>by
     have:=pq.out.lt (by rw[Br.out];exact hx)
     omega
    have HBF:=Lib.hid NY;have kS:=Lib.hid vG;have hkb:=pq.out.same vG;have OE:=hkb.blk.lt;have x0:=hBx.cell 0;have x1:=hBx.cell 1;have x2:=hBx.cell 2;have x3:=hBx.cell 3;have x4:=hBx.cell 4;have x5:=hBx.cell 5;have x6:=hBx.cell 6;have x7:=hBx.cell 7;have xl:=hBx.lt;simp at x0 x1 x2 x3 x4 x5 x6 x7;have xG:=Lib.hid hBx;have J6:=Lib.hid hkb;clear hBx hkb vG NY;have hUk:¬ UB a1.U k.n kp:=fun hx=>J6.out.dj 6 0 kp (by omega) (by rw[Br.out];exact hx) rfl
    have hUX:¬ UB a1.U k.n wr.heap.size:=fun hx=>HBF.out ⟨6,hx⟩
    have c1:=J6.out.c1;have hnk:c.n.ok:=(En.out.ZJ c (by rw[K9.out];exact List.mem_of_getElem? ZL.out)).2.1;have hrm:=fun w' (hw:KW w' kp (bD k (cs.take i)) a1)=>Bo hw hnk
    rw[Br.out] at hrm;have OI:=Lib.hid hrm;clear hrm hnk;refine aJ (UB a1.U k.n) [([0,1,2,3,4,5,6],7)] (by kernel_rfl) (by kernel_rfl) ?_;simp only[cK,pick,List.map_cons,List.map_nil,List.getD_cons_zero,List.getD_cons_succ];repeat (any_goals (first | go_big_quiet_step (fail) | quiet_step (fail)))
    refine wpQuiet_nil ?_;refine wpList_plain rfl fun K hK=>?_
    go_simp;refine(OI.out _ (J6.out.same ((ah.refl _ _).drew))).mono ?_;rintro e wc ⟨rfl,hkc,hgc,_⟩;refine hK _ _ ?_;clear hK K;have U6:=Lib.hid hkc;have WK:=Lib.hid ((cZ.same (a:=a1) (kp:=kp) (n:=k.n) kS.out).trans ((cZ.same ((ah.refl _ _).drew)).trans hgc));clear hkc hgc;go_wp2;go_roundw
    case rel =>
     have hst:bD k (cs.take (i+1))=iG (bD k (cs.take i)) c.n:=lF _ _ ZL.out;refine⟨i+1,by omega,by go_num,?_,?_⟩
     ·rw[hst,HA1.out];exact U6.out
     ·have:=zm.out.trans (HA1.out ▸ WK.out)
      exact this
    case measure=>simp[intOf] <;> omega
   ·obtain rfl:i=cs.length:=by omega
    have hI:¬ ((cs.length:Nat):Int)<(cs.length:Int):=by omega
    rw[List.take_length] at hk1;have pq:=Lib.hid hk1;have zm:=Lib.hid hg1;clear hk1 hg1 c1
    rename World=>w4
    go_wp2_with (fail)
    go_loopw [62] (fun t wr=>∃ (i:Nat) (a1:KA),i≤cs.length∧t=.int .i64 i∧KW wr kp (dI (bD k cs) x y (cs.take i)) a1∧cZ k.n kp w3 a wr a1) (fun t _=>cs.length-(intOf t).toNat)
    case atStart=>exact⟨0,a,by omega,rfl,by rw[HA1.out];exact pq.out,zm.out⟩
    case round =>
     clear pq zm HA1 a1 Br;obtain⟨i,a1,hi,rfl,hk1,hg1⟩:=hrel;have hkl:=hk1.blk.lt;by_cases hlt:i<cs.length
     ·obtain⟨c,hc⟩:∃ c,cs[i]?=some c:=⟨_,List.getElem?_eq_getElem hlt⟩;have hrow:=RO.out.ag hg1.ag (fun ad had=>(OT.out _ ⟨ad,had,rfl⟩).1);obtain⟨sb,rfl,hsb,hcell⟩:=hrow.get gu.ak hc;have s0:wr.cell? ⟨sb,i*8,none⟩=some (.int .u32 c.r):=hcell 0 (by omega);have s1:wr.cell? ⟨sb,i*8+1,none⟩=some (.int .i64 c.n.v):=hcell 1 (by omega);have s2:wr.cell? ⟨sb,i*8+2,none⟩=some (.int .u32 c.n.lo):=hcell 2 (by omega);have s3:wr.cell? ⟨sb,i*8+3,none⟩=some (.int .u32 c.n.hi):=hcell 3 (by omega);have s4:wr.cell? ⟨sb,i*8+4,none⟩=some (.int .u32 c.jS):=hcell 4 (by omega);have s5:wr.cell? ⟨sb,i*8+5,none⟩=some (.int .u32 c.jJ):=hcell 5 (by omega);have s6:wr.cell? ⟨sb,i*8+6,none⟩=some (.int .u32 c.jT):=hcell 6 (by omega);have s7:wr.cell? ⟨sb,i*8+7,none⟩=some (.int .u32 c.jK):=hcell 7 (by omega);have hI:(i:Int)<(cs.length:Int):=by omega
      have ZL:=Lib.hid hc;have hso:=(En.out.s2 tF.out i c (by rw[K9.out];exact hc));rw[K9.out] at hso;obtain⟨k2,hk2⟩:∃ k2,dI (bD k cs) x y (cs.take i)=k2:=⟨_,rfl⟩;have hn2:k2.n=k.n:=by rw[← hk2,zu,uh]
      have hst:dI (bD k cs) x y (cs.take (i+1))=gY x y k2 c:=by
       rw[← hk2];exact lF _ _ hc
      have Si:=(En.out.ZJ c (by rw[K9.out];exact List.mem_of_getElem? hc));rw[hk2] at hk1 hso;rw[← hn2] at hg1;have pq:=Lib.hid hk1;have zm:=Lib.hid hg1;have FQ:=Lib.hid hn2;have HST:=Lib.hid hst;have HSO:=Lib.hid hso;clear hc hrow hcell hk1 hg1 hn2 hst hso hk2;go_upto_region 13 with fail
      refine ai fun wb hwb=>?_
      have hBx:=ax.new wr 147 #[.int .u32 c.r,.int .i64 c.n.v,.int .u32 c.n.lo,.int .u32 c.n.hi,.int .u32 c.jS,.int .u32 c.jJ,.int .u32 c.jT,.int .u32 c.jK];have vG:Same wr wb:=by rw[hwb];exact(ah.refl _ _).alloc _
      rw[← hwb] at hBx;clear hwb s0 s1 s2 s3 s4 s5 s6 s7;have NY:¬ gX k2.n kp a1 wr.heap.size:=fun hx=>by
       have:=pq.out.lt hx
       omega
      have hkb:=pq.out.same vG;have x0:=hBx.cell 0;have x1:=hBx.cell 1;have x2:=hBx.cell 2;have x3:=hBx.cell 3;have x4:=hBx.cell 4;have x5:=hBx.cell 5;have x6:=hBx.cell 6;have x7:=hBx.cell 7;have xl:=hBx.lt;simp at x0 x1 x2 x3 x4 x5 x6 x7;have xG:=Lib.hid hBx;have J6:=Lib.hid hkb;have kS:=Lib.hid vG;obtain⟨⟨e1,X1,hb1⟩,n1,r1,u1,⟨e2,X2,hb2⟩,n2,r2,u2,⟨e3,X3,hb3⟩,n3,⟨m,n0,hcr,hm2,Ep⟩⟩:=HSO.out;have Sw:=fun w' (hw:KW w' kp k2 a1)=>Bn hw hb1 n1 r1
      have hgn1:(dw k2 ⟨x,c.jS,c.jT⟩).2.n=k2.n:=zq _ _;have OU:=fun w' aq (hw:KW w' kp (dw k2 ⟨x,c.jS,c.jT⟩).2 aq)=>pX hw _ u1.1 u1.2.1 u1.2.2
      have htA:bS k2 x c=bF (dw k2 ⟨x,c.jS,c.jT⟩).2 (dw k2 ⟨x,c.jS,c.jT⟩).1:=rfl;rw[← htA] at OU;have Sy:(bS k2 x c).n=k2.n:=F7 _ _ _;have Sz:=fun w' aq (hw:KW w' kp (bS k2 x c) aq)=>Bn hw hb2 n2 r2
      have hgn2:(dw (bS k2 x c) ⟨x,c.jJ,c.jK⟩).2.n=k2.n:=(zq _ _).trans Sy;have OV:=fun w' aq (hw:KW w' kp (dw (bS k2 x c) ⟨x,c.jJ,c.jK⟩).2 aq)=>pX hw _ u2.1 u2.2.1 u2.2.2
      have htB:bO k2 x c=bF (dw (bS k2 x c) ⟨x,c.jJ,c.jK⟩).2 (dw (bS k2 x c) ⟨x,c.jJ,c.jK⟩).1:=rfl;rw[← htB] at OV;have WM:(bO k2 x c).n=k2.n:=F8 _ _ _;have Lp:oD k2 x y c=⟨y,(dw k2 ⟨x,c.jS,c.jT⟩).1,(dw (bS k2 x c) ⟨x,c.jJ,c.jK⟩).1⟩:=rfl;have htC:gY x y k2 c=pU (nZ (bO k2 x c) c.r (oD k2 x y c)) (oD k2 x y c) c.r:=rfl;have Ga:=fun w' aq (hw:KW w' kp (bO k2 x c) aq)=>K7 hw hb3 n3 hm2 Ep
      rw[← hcr] at Ga;have WN:(nZ (bO k2 x c) c.r (oD k2 x y c)).L.length<maxLen:=by
       have h1:=hb3.cnt;have h2:=hb3.gK;have h3:=hb3.lim;have h4:=hb3.cM;simp only[List.length_append] at h1;show(bO k2 x c).L.length<_;unfold maxLen;omega
      have aaw:c.r<4294967296:=by
       have h1:=aY Ep;have h3:=hb3.lim;have h4:=hb3.cM;omega
      have aax:0≤c.r:=by omega
      have Gb:=fun w' aq (hw:KW w' kp (nZ (bO k2 x c) c.r (oD k2 x y c)) aq)=>K6 hw (n3.ok hb3) c.r aax aaw WN
      rw[← htC] at Gb;obtain⟨lo,hlo⟩:∃ lo,(dw k2 ⟨x,c.jS,c.jT⟩).1=lo:=⟨_,rfl⟩;obtain⟨hi',hhi⟩:∃ h,(dw (bS k2 x c) ⟨x,c.jJ,c.jK⟩).1=h:=⟨_,rfl⟩;rw[hlo] at Sw OU u1 Lp;rw[hhi] at Sz OV u2 Lp;rw[Lp] at Ga Gb;have WO:=Lib.hid Sw;have WQ:=Lib.hid OU;have WR:=Lib.hid Sz;have WS:=Lib.hid OV;have QZ:=Lib.hid Ga;have WT:=Lib.hid Gb;have aay:=Lib.hid Sy;have OW:=Lib.hid WM;have aaz:=Lib.hid hgn1;have aaA:=Lib.hid hgn2;clear hb1 hb2 hb3 n1 n2 n3 r1 r2 u1 u2 hcr hm2 Ep Sw OU Sz OV Ga Gb htA htB Lp htC hlo hhi WN hBx hkb vG Sy WM hgn1 hgn2;refine aJ (gX k2.n kp a1) [([0,1,2,3,4,5,6,7],8),([],9)] (by kernel_rfl) (by kernel_rfl) ?_;simp only[cK,pick,List.map_cons,List.map_nil,List.getD_cons_zero,List.getD_cons_succ];repeat (any_goals (first | go_big_quiet_step (fail) | quiet_step (fail)))
      refine wpQuiet_nil ?_;refine aa rfl fun K hK=>?_
      go_simp;refine(WO.out _ (J6.out.same ((ah.refl _ _).drew))).mono ?_;rintro e wc ⟨rfl,a2,hkc,hgc⟩;have xH:cZ k2.n kp wb a1 wc a2:=(cZ.same ((ah.refl _ _).drew)).trans hgc;refine hK _ _ (aZ.bu xH.ag) ?_;clear hK K;refine wpQuiet_nil ?_;have hBx:=xG.out.ag xH.ag NY;have Lr:=xH.apart (T:=fun b=>b=wr.heap.size) (by rintro b rfl;exact NY) (by rintro b rfl;exact xG.out.lt) _ rfl;have x0:=hBx.cell 0;have x1:=hBx.cell 1;have x2:=hBx.cell 2;have x3:=hBx.cell 3;have x4:=hBx.cell 4;have x5:=hBx.cell 5;have x6:=hBx.cell 6;have x7:=hBx.cell 7;have xl:=hBx.lt;simp at x0 x1 x2 x3 x4 x5 x6 x7;have SA:=Lib.hid hBx;have U6:=Lib.hid hkc;have WK:=Lib.hid ((cZ.same (a:=a1) (kp:=kp) (n:=k2.n) kS.out).trans xH);clear hBx hkc hgc xH xG J6 NY WO;go_wp2_with (fail)
      refine(WQ.out _ _ U6.out).mono ?_;rintro e wd ⟨rfl,hkd,hgd⟩;rw[aaz.out] at hgd;have hBx:=SA.out.ag hgd.ag Lr;have x0:=hBx.cell 0;have x1:=hBx.cell 1;have x2:=hBx.cell 2;have x3:=hBx.cell 3;have x4:=hBx.cell 4;have x5:=hBx.cell 5;have x6:=hBx.cell 6;have x7:=hBx.cell 7;have xl:=hBx.lt;simp at x0 x1 x2 x3 x4 x5 x6 x7;have SC:=Lib.hid hBx;have ZM:=Lib.hid hkd;have Q0:=Lib.hid (WK.out.trans hgd);clear hBx hkd hgd SA U6 WQ;go_upto_region 15 with fail
      refine aJ (gX k2.n kp a2) [([0,1,2,3,4,5,6,7],8),([],9)] (by kernel_rfl) (by kernel_rfl) ?_;simp only[cK,pick,List.map_cons,List.map_nil,List.getD_cons_zero,List.getD_cons_succ];repeat (any_goals (first | go_big_quiet_step (fail) | quiet_step (fail)))
      refine wpQuiet_nil ?_;refine aa rfl fun K hK=>?_
      go_simp;refine(WR.out _ _ (ZM.out.same ((ah.refl _ _).drew))).mono ?_;rintro e we ⟨rfl,a3,hke,hge⟩;rw[aay.out] at hge;have hge':cZ k2.n kp wd a2 we a3:=(cZ.same ((ah.refl _ _).drew)).trans hge;refine hK _ _ (aZ.bu hge'.ag) ?_;clear hK K;refine wpQuiet_nil ?_;have hBx:=SC.out.ag hge'.ag Lr;have OX:=hge'.apart (T:=fun b=>b=wr.heap.size) (by rintro b rfl;exact Lr) (by rintro b rfl;exact SC.out.lt) _ rfl;have x0:=hBx.cell 0;have x1:=hBx.cell 1;have x2:=hBx.cell 2;have x3:=hBx.cell 3;have x4:=hBx.cell 4;have x5:=hBx.cell 5;have x6:=hBx.cell 6;have x7:=hBx.cell 7;have xl:=hBx.lt;simp at x0 x1 x2 x3 x4 x5 x6 x7;have WU:=Lib.hid hBx;have Q3:=Lib.hid hke;have HGE:=Lib.hid (Q0.out.trans hge');clear hBx hke hge hge' SC ZM Lr WR;go_wp2_with (fail)
      refine(WS.out _ _ Q3.out).mono ?_;rintro e wf ⟨rfl,hkf,hgf⟩;rw[aaA.out] at hgf;have hBx:=WU.out.ag hgf.ag OX;have x0:=hBx.cell 0;have x1:=hBx.cell 1;have x2:=hBx.cell 2;have x3:=hBx.cell 3;have x4:=hBx.cell 4;have x5:=hBx.cell 5;have x6:=hBx.cell 6;have x7:=hBx.cell 7;have xl:=hBx.lt;simp at x0 x1 x2 x3 x4 x5 x6 x7;have WV:=Lib.hid hBx;have HKF:=Lib.hid hkf;have HGF:=Lib.hid (HGE.out.trans hgf);have ab9:=hkf.blk.lt;clear hBx hkf hgf WU Q3 WS;go_upto_region 18 with fail
      refine ai fun wg hwg=>?_
      have hNb:=ax.new wf 37 #[.int .i64 y,.int .u32 lo,.int .u32 hi'];have hsg:Same wf wg:=by rw[hwg];exact(ah.refl _ _).alloc _
      rw[← hwg] at hNb;clear hwg;have hkg:=HKF.out.same hsg;have hBx:=WV.out.ag hsg id;have hNF:¬ gX k2.n kp a3 wf.heap.size:=fun hx=>by
       have:=HKF.out.lt (by rw[OW.out];exact hx)
       omega
      have c0:=hkg.c0;have acd:=hkg.blk.lt;have hS0:¬ qH a3.g a3.A a3.A' kp:=by
       rintro(hx | hx | hx)
       ·exact hkg.dj 0 1 kp (by omega) rfl hx
       ·exact hkg.dj 0 2 kp (by omega) rfl hx
       ·exact hkg.dj 0 3 kp (by omega) rfl hx
      have hSA:∀ b,qH a3.g a3.A a3.A' b→gX k2.n kp a3 b:=by
       rintro b (hx | hx | hx)
       ·exact⟨1,hx⟩
       ·exact⟨2,hx⟩
       ·exact⟨3,hx⟩
      have hS1:¬ qH a3.g a3.A a3.A' wr.heap.size:=fun hx=>OX (hSA _ hx)
      have hS2:¬ qH a3.g a3.A a3.A' wf.heap.size:=fun hx=>hNF (hSA _ hx)
      have y0:=hNb.cell 0;have y1:=hNb.cell 1;have y2:=hNb.cell 2;have yl:=hNb.lt;simp at y0 y1 y2;have x0:=hBx.cell 0;have x1:=hBx.cell 1;have x2:=hBx.cell 2;have x3:=hBx.cell 3;have x4:=hBx.cell 4;have x5:=hBx.cell 5;have x6:=hBx.cell 6;have x7:=hBx.cell 7;have xl:=hBx.lt;simp at x0 x1 x2 x3 x4 x5 x6 x7;have HNB:=Lib.hid hNb;have WW:=Lib.hid hBx;have HKG:=Lib.hid hkg;have HGG:=Lib.hid (HGF.out.trans (cZ.same hsg));clear hNb hBx hkg hsg hSA WV;refine aJ (qH a3.g a3.A a3.A') [([0,1,2,3,4,5,6,7],8)] (by kernel_rfl) (by kernel_rfl) ?_;simp only[cK,pick,List.map_cons,List.map_nil,List.getD_cons_zero,List.getD_cons_succ];repeat (any_goals (first | go_big_quiet_step (fail) | quiet_step (fail)))
      refine wpQuiet_nil ?_;refine wpList_plain rfl fun K hK=>?_
      go_simp;refine(QZ.out _ _ (HKG.out.same ((ah.refl _ _).drew))).mono ?_;rintro e wh ⟨rfl,hkh,hgh,_⟩;rw[OW.out] at hgh;have OY:cZ k2.n kp wg a3 wh a3:=(cZ.same ((ah.refl _ _).drew)).trans hgh;refine hK _ _ ?_;clear hK K;have hNb:=HNB.out.ag OY.ag hNF;have hBx:=WW.out.ag OY.ag OX;have c1:=hkh.c1;have ace:=hkh.blk.lt;have hU0:¬ UB a3.U k2.n kp:=fun hx=>hkh.dj 6 0 kp (by omega) (by show UB a3.U (nZ _ _ _).n kp;show UB a3.U (bO k2 x c).n kp;rw[OW.out];exact hx) rfl
      have SE:¬ UB a3.U k2.n wr.heap.size:=fun hx=>OX ⟨6,hx⟩
      have hU2:¬ UB a3.U k2.n wf.heap.size:=fun hx=>hNF ⟨6,hx⟩
      have y0:=hNb.cell 0;have y1:=hNb.cell 1;have y2:=hNb.cell 2;have yl:=hNb.lt;simp at y0 y1 y2;have x0:=hBx.cell 0;have x1:=hBx.cell 1;have x2:=hBx.cell 2;have x3:=hBx.cell 3;have x4:=hBx.cell 4;have x5:=hBx.cell 5;have x6:=hBx.cell 6;have x7:=hBx.cell 7;have xl:=hBx.lt;simp at x0 x1 x2 x3 x4 x5 x6 x7;have HKH:=Lib.hid hkh;have HGH:=Lib.hid (HGG.out.trans OY);clear hNb hBx hkh hgh OY HNB WW QZ hS0 hS1 hS2 c0;go_upto_region 19 with fail
      refine aJ (UB a3.U k2.n) [([0,1,2,3,4,5,6,7],8)] (by kernel_rfl) (by kernel_rfl) ?_;simp only[cK,pick,List.map_cons,List.map_nil,List.getD_cons_zero,List.getD_cons_succ];repeat (any_goals (first | go_big_quiet_step (fail) | quiet_step (fail)))
      refine wpQuiet_nil ?_;refine wpList_plain rfl fun K hK=>?_
      go_simp;refine(WT.out _ _ (HKH.out.same ((ah.refl _ _).drew))).mono ?_;rintro e wi ⟨rfl,hki,hgi,_⟩;have hsn:(nZ (bO k2 x c) c.r ⟨y,lo,hi'⟩).n=k2.n:=OW.out;rw[hsn] at hgi;refine hK _ _ ?_;clear hK K;have HKI:=Lib.hid hki;have HGI:=Lib.hid (HGH.out.trans ((cZ.same ((ah.refl _ _).drew)).trans hgi));clear hki hgi hsn;go_wp2;go_roundw
      case rel =>
       refine⟨i+1,a3,by omega,by go_num,?_,?_⟩
       ·rw[HST.out];exact HKI.out
       ·rw[← FQ.out];exact zm.out.trans HGI.out
      case measure=>simp[intOf] <;> omega
     ·obtain rfl:i=cs.length:=by omega
      have hI:¬ ((cs.length:Nat):Int)<(cs.length:Int):=by omega
      rw[List.take_length] at hk1;have pq:=Lib.hid hk1;have zm:=Lib.hid hg1;clear hk1 hg1
      rename World=>w5
      obtain⟨k2,hk2⟩:∃ k2,dI (bD k cs) x y cs=k2:=⟨_,rfl⟩;rw[hk2] at pq;have aaB:Hid (k2.n=k.n):=Lib.hid (by rw[← hk2,zu,uh]);have Ii:=Lib.hid hk2;clear hk2;go_wp2_with (fail)
      go_loopw [119] (fun t wr=>∃ (i:Nat) (a1:KA),i≤cs.length∧t=.int .i64 i∧KW wr kp (gP k2 (cs.take i)) a1∧cZ k.n kp w3 a wr a1) (fun t _=>cs.length-(intOf t).toNat)
      case atStart=>exact⟨0,a1,by omega,rfl,pq.out,zm.out⟩
      case round =>
       clear pq zm hkl hi a1;obtain⟨i,a1,hi,rfl,hk1,hg1⟩:=hrel;have hkl:=hk1.blk.lt;by_cases hlt:i<cs.length
       ·obtain⟨c,hc⟩:∃ c,cs[i]?=some c:=⟨_,List.getElem?_eq_getElem hlt⟩;have hrow:=RO.out.ag hg1.ag (fun ad had=>(OT.out _ ⟨ad,had,rfl⟩).1);obtain⟨sb,rfl,hsb,hcell⟩:=hrow.get gu.ak hc;have s0:wr.cell? ⟨sb,i*8,none⟩=some (.int .u32 c.r):=hcell 0 (by omega);have s1:wr.cell? ⟨sb,i*8+1,none⟩=some (.int .i64 c.n.v):=hcell 1 (by omega);have s2:wr.cell? ⟨sb,i*8+2,none⟩=some (.int .u32 c.n.lo):=hcell 2 (by omega);have s3:wr.cell? ⟨sb,i*8+3,none⟩=some (.int .u32 c.n.hi):=hcell 3 (by omega);have s4:wr.cell? ⟨sb,i*8+4,none⟩=some (.int .u32 c.jS):=hcell 4 (by omega);have s5:wr.cell? ⟨sb,i*8+5,none⟩=some (.int .u32 c.jJ):=hcell 5 (by omega);have s6:wr.cell? ⟨sb,i*8+6,none⟩=some (.int .u32 c.jT):=hcell 6 (by omega);have s7:wr.cell? ⟨sb,i*8+7,none⟩=some (.int .u32 c.jK):=hcell 7 (by omega);have hI:(i:Int)<(cs.length:Int):=by omega
        have SF:=(En.out.s3 tF.out i c (by rw[K9.out];exact hc));rw[K9.out,Ii.out] at SF;obtain⟨k3,hk3⟩:∃ k3,gP k2 (cs.take i)=k3:=⟨_,rfl⟩;have SG:k3.n=k.n:=by rw[← hk3,F9];exact aaB.out
        have hst:gP k2 (cs.take (i+1))=jh (jh k3 c.n.lo) c.n.hi:=by
         rw[← hk3];exact lF _ _ hc
        obtain⟨_,_,l0,l1,h0,h1⟩:=(En.out.ZJ c (by rw[K9.out];exact List.mem_of_getElem? hc));rw[hk3] at hk1 SF;rw[← SG] at hg1;obtain⟨⟨e1,hb1⟩,⟨e2,hb2⟩⟩:=SF;have hr1:=fun w' (hw:KW w' kp k3 a1)=>lD hw hb1
        have hr2:=fun w' aq (hw:KW w' kp (jh k3 c.n.lo) aq)=>lD hw hb2
        have hrn:(jh k3 c.n.lo).n=k3.n:=mK _ _ _;have pq:=Lib.hid hk1;have zm:=Lib.hid hg1;have Ls:=Lib.hid SG;have HST:=Lib.hid hst;have HR1:=Lib.hid hr1;have HR2:=Lib.hid hr2;have HRN:=Lib.hid hrn;have ZL:=Lib.hid hc;clear hc hrow hcell hk1 hg1 SG hst hk3 hr1 hr2 hrn hb1 hb2;go_upto_region 24 with fail
        refine ai fun wb hwb=>?_
        have hBx:=ax.new wr 147 #[.int .u32 c.r,.int .i64 c.n.v,.int .u32 c.n.lo,.int .u32 c.n.hi,.int .u32 c.jS,.int .u32 c.jJ,.int .u32 c.jT,.int .u32 c.jK];have vG:Same wr wb:=by rw[hwb];exact(ah.refl _ _).alloc _
        rw[← hwb] at hBx;clear hwb s0 s1 s2 s3 s4 s5 s6 s7;have NY:¬ gX k3.n kp a1 wr.heap.size:=fun hx=>by
         have:=pq.out.lt hx
         omega
        have hkb:=pq.out.same vG;have x0:=hBx.cell 0;have x1:=hBx.cell 1;have x2:=hBx.cell 2;have x3:=hBx.cell 3;have x4:=hBx.cell 4;have x5:=hBx.cell 5;have x6:=hBx.cell 6;have x7:=hBx.cell 7;have xl:=hBx.lt;simp at x0 x1 x2 x3 x4 x5 x6 x7;have xG:=Lib.hid hBx;have J6:=Lib.hid hkb;have kS:=Lib.hid vG;clear hBx hkb vG;refine aJ (gX k3.n kp a1) [([0,1,2,3,4,5],6)] (by kernel_rfl) (by kernel_rfl) ?_;simp only[cK,pick,List.map_cons,List.map_nil,List.getD_cons_zero,List.getD_cons_succ];repeat (any_goals (first | go_big_quiet_step (fail) | quiet_step (fail)))
        refine wpQuiet_nil ?_;refine wpList_plain rfl fun K hK=>?_
        go_simp;refine(HR1.out _ (J6.out.same ((ah.refl _ _).drew))).mono ?_;rintro e wc ⟨rfl,a2,hkc,hgc⟩;have xH:cZ k3.n kp wb a1 wc a2:=(cZ.same ((ah.refl _ _).drew)).trans hgc;refine hK _ _ ?_;clear hK K;have hBx:=xG.out.ag xH.ag NY;have Lr:=xH.apart (T:=fun b=>b=wr.heap.size) (by rintro b rfl;exact NY) (by rintro b rfl;exact xG.out.lt) _ rfl;have x0:=hBx.cell 0;have x1:=hBx.cell 1;have x2:=hBx.cell 2;have x3:=hBx.cell 3;have x4:=hBx.cell 4;have x5:=hBx.cell 5;have x6:=hBx.cell 6;have x7:=hBx.cell 7;have xl:=hBx.lt;simp at x0 x1 x2 x3 x4 x5 x6 x7;have SA:=Lib.hid hBx;have U6:=Lib.hid hkc;have WK:=Lib.hid ((cZ.same (a:=a1) (kp:=kp) (n:=k3.n) kS.out).trans xH);clear hBx hkc hgc xH xG J6 NY HR1;go_upto_region 25 with fail
        refine aJ (gX k3.n kp a2) [([0,1,2,3,4,5],6)] (by kernel_rfl) (by kernel_rfl) ?_;simp only[cK,pick,List.map_cons,List.map_nil,List.getD_cons_zero,List.getD_cons_succ];repeat (any_goals (first | go_big_quiet_step (fail) | quiet_step (fail)))
        refine wpQuiet_nil ?_;refine wpList_plain rfl fun K hK=>?_
        go_simp;refine(HR2.out _ _ (U6.out.same ((ah.refl _ _).drew))).mono ?_;rintro e wd ⟨rfl,a3,hkd,hgd⟩;rw[HRN.out] at hgd;refine hK _ _ ?_;clear hK K;have ZM:=Lib.hid hkd;have Q0:=Lib.hid (WK.out.trans ((cZ.same ((ah.refl _ _).drew)).trans hgd));clear hkd hgd;go_wp2;go_roundw
        case rel =>
         refine⟨i+1,a3,by omega,by go_num,?_,?_⟩
         ·rw[HST.out];exact ZM.out
         ·rw[← Ls.out];exact zm.out.trans Q0.out
        case measure=>simp[intOf] <;> omega
       ·obtain rfl:i=cs.length:=by omega
        have hI:¬ ((cs.length:Nat):Int)<(cs.length:Int):=by omega
        rw[List.take_length] at hk1;obtain⟨k3,hk3⟩:∃ k3,gP k2 cs=k3:=⟨_,rfl⟩;have hkk:iZ k3=iZ k:=by rw[← hk3,kJ,← Ii.out,nL,nK]
        have ho3:k3.ord=k.ord:=congrArg (fun t=>t.2.2.1) hkk;have hl3:k3.bH=k.bH:=congrArg (fun t=>t.2.2.2.1) hkk;have SG:k3.n=k.n:=congrArg (fun t=>t.1) hkk;rw[hk3] at hk1;have Q4:k3.ord[l]?=some (x:Int):=by rw[ho3];exact En.out.hx
        have Lt:k3.ord[l+1]?=some (y:Int):=by rw[ho3];exact En.out.hy
        have hlx:x<k3.bH.length:=by rw[hl3];exact En.out.lx
        have Iy:y<k3.bH.length:=by rw[hl3];exact En.out.ly
        obtain⟨oq,hoq,acf,hoc⟩:=hk1.ord.dQ Q4;obtain⟨oq2,Iz,_,SH⟩:=hk1.ord.dQ Lt;rw[hoq] at Iz;injection Iz with Iz
        injection Iz with Iz
        subst Iz;obtain⟨lq,hlq,acg,hlc⟩:=hk1.bH.dQ (List.getElem?_eq_getElem hlx);obtain⟨lq2,IA,_,IB⟩:=hk1.bH.dQ (List.getElem?_eq_getElem Iy);rw[hlq] at IA;injection IA with IA
        injection IA with IA
        subst IA;have ach:¬ (kp=oq):=fun h=>hk1.dj 0 9 kp (by omega) rfl ⟨_,hoq,h.symm⟩
        have aci:¬ (kp=lq):=fun h=>hk1.dj 0 10 kp (by omega) rfl ⟨_,hlq,h.symm⟩
        have acj:l+1<k3.ord.length:=aY Lt;have hz1:=hk1.FU hoq (i:=l) (by omega) y;have hz2:=hz1.1.FU (sb:=oq) hoq (i:=l+1) (by show l+1<(k3.ord.set l y).length;rw[List.length_set];omega) x;have hf0:wr.frozen? ⟨oq,l,none⟩=false:=by have:=hk1.ord;rw[hoq] at this;exact this.free _
        have hf1:wr.frozen? ⟨oq,l+1,none⟩=false:=by have:=hk1.ord;rw[hoq] at this;exact this.free _
        have c5:=hk1.c5;rw[hoq] at c5;have Il:=hk1.blk.lt;have hoI:(l:Int)<k3.ord.length:=by omega
        have Sr:(l:Int)+1<k3.ord.length:=by omega
        have Su:IntKind.i64.wrap ((l:Int)+1)=l+1:=IntWalk.i64_in _ (by omega);have hl0:(0:Int)≤(l:Int)+1:=by omega
        have hlt:((l:Int)+1).toNat=l+1:=by omega
        replace hoc:wr.cell? ⟨oq,l,none⟩=some (.int .i64 x):=hoc;replace SH:wr.cell? ⟨oq,l+1,none⟩=some (.int .i64 y):=SH;have HZ:=Lib.hid hz2.1;have ZN:=Lib.hid (hg1.trans (by have:=hz1.2.trans hz2.2;rw[SG] at this;exact this));have HLQ:=Lib.hid hlq;have aaC:=Lib.hid hk3;have Ls:=Lib.hid SG;have SI:=Lib.hid hlx;have Q5:=Lib.hid Iy;clear hz1 hz2 hk1 hg1 hlc IB ho3 hl3 SG hkk hk3 Q4 Lt hoq hlq hlx Iy;go_upto_region 27 with fail
        refine aJ (fun b=>b=oq) [([0,1,2,3,4,5,6,7,8,9,10,11,12,13],14),([15],16)] (by kernel_rfl) (by kernel_rfl) ?_;simp only[cK,pick,List.map_cons,List.map_nil,List.getD_cons_zero,List.getD_cons_succ];repeat (any_goals (first | go_big_quiet_step (fail) | quiet_step (fail)))
        refine wpQuiet_nil ?_;refine aa rfl fun K hK=>?_
        go_simp;refine hK _ _ (aZ.bu ((ah.refl _ _).drew.set l _ rfl)) ?_;clear hK K;repeat (any_goals (first | go_big_quiet_step (fail) | quiet_step (fail)))
        refine wpQuiet_nil ?_;go_upto_region 28 with fail
        refine ai fun w6 R5=>?_
        have Dp:KW w6 kp { k3 with ord:=(k3.ord.set l y).set (l+1) x } a1:=by
         rw[R5];exact HZ.out.same ((ah.refl _ _).drew)
        have U4:cZ k.n kp w3 a w6 a1:=by
         rw[R5];exact ZN.out.trans (cZ.same ((ah.refl _ _).drew))
        clear R5 HZ ZN hoc SH hf0 hf1 c5 hoI Sr;have hlq:=HLQ.out;have ack:¬ (x=y):=En.out.xy;have acm:¬ (y=x):=fun h=>En.out.xy h.symm
        obtain⟨lx1,IC,abX,OZ⟩:=Dp.bH.dQ (i:=x) (List.getElem?_eq_getElem SI.out);rw[hlq] at IC;injection IC with IC
        injection IC with IC
        subst IC;obtain⟨lx2,IE,_,IB⟩:=Dp.bH.dQ (i:=y) (List.getElem?_eq_getElem Q5.out);rw[hlq] at IE;injection IE with IE
        injection IE with IE
        subst IE;have hz1:=Dp.FV hlq (i:=x) SI.out ((l:Int)+1);have hz2:=hz1.1.FV (sb:=lq) hlq (i:=y) (by show y<(k3.bH.set x _).length;rw[List.length_set];exact Q5.out) l;have hf0:w6.frozen? ⟨lq,x,none⟩=false:=by have:=Dp.bH;rw[hlq] at this;exact this.free _
        have hf1:w6.frozen? ⟨lq,y,none⟩=false:=by have:=Dp.bH;rw[hlq] at this;exact this.free _
        have c6:=Dp.c6;rw[hlq] at c6;have acn:=Dp.blk.lt;have hxI:(x:Int)<k3.bH.length:=by have:=SI.out;omega
        have hyI:(y:Int)<k3.bH.length:=by have:=Q5.out;omega
        have HZ:=Lib.hid hz2.1;have ZN:=Lib.hid (U4.trans (by have:=hz1.2.trans hz2.2;rw[show({ k3 with ord:=(k3.ord.set l y).set (l+1) x }:KS).n=k.n from Ls.out] at this;exact this));have OZ:∃ v,w6.cell? ⟨lq,x,none⟩=some v:=⟨_,OZ⟩;have IB:∃ v,w6.cell? ⟨lq,y,none⟩=some v:=⟨_,IB⟩;obtain⟨v1,OZ⟩:=OZ;obtain⟨v2,IB⟩:=IB;clear hz1 hz2 Dp U4 hlq;refine aJ (fun b=>b=lq) [([0,1,2,3,4,5,6,7,8,9,10,11,12,13],14),([15],16)] (by kernel_rfl) (by kernel_rfl) ?_;simp only[cK,pick,List.map_cons,List.map_nil,List.getD_cons_zero,List.getD_cons_succ];repeat (any_goals (first | go_big_quiet_step (fail) | quiet_step (fail)))
        refine wpQuiet_nil ?_;refine aa rfl fun K hK=>?_
        go_simp;refine hK _ _ (aZ.bu ((ah.refl _ _).drew.set x _ rfl)) ?_;clear hK K;repeat (any_goals (first | go_big_quiet_step (fail) | quiet_step (fail)))
        refine wpQuiet_nil ?_;go_wp2_with (fail)
        refine bE fun w7 hw7=>?_
        have hT:yx k l x y={ k3 with ord:=(k3.ord.set l y).set (l+1) x,bH:=(k3.bH.set x (l+1)).set y l }:=by
         unfold yx;rw[K9.out,Ii.out,aaC.out];rfl
        go_ret;refine⟨rfl,a1,?_,?_⟩
        ·show KW w7 kp (yx k l x y) a1;rw[hT,hw7];exact HZ.out.same ((ah.refl _ _).drew)
        ·rw[hw7];exact(cZ.same dY.out).trans (ZN.out.trans (cZ.same ((ah.refl _ _).drew)))
end
structure Lv (k:KS):Prop where
 ol:k.ord.length=k.n
 ll:k.bH.length=k.n
 o2:∀ (l:Nat) v,k.ord[l]?=some v→∃ m:Nat,v=m∧m<k.n∧k.bH[m]?=some (l:Int)
 l2:∀ (m:Nat) l,k.bH[m]?=some l→∃ i:Nat,l=i∧i<k.n∧k.ord[i]?=some (m:Int)
def bn (k:KS) (r:Int):Int:=if 0≤(aI k.ls r).v then k.bH.getD (aI k.ls r).v.toNat 0 else k.n
def bz (k:KS) (v:Int):Int:=k.bH.getD v.toNat 0
def di (k:KS) (n:Nd):Int:=if ¬ (0≤n.v∧n.v<k.n) then 2 else if tk k.ls n.lo=false∨tk k.ls n.hi=false then 3 else if n.lo≠n.hi∧min (bn k n.lo) (bn k n.hi)≤bz k n.v then 4 else 0
def eP (k:KS) (n:Nd):Option Int:=if n.lo=n.hi then some n.lo else look k.L n
section
variable {w:World} {kp:Nat} {k:KS} {a:KA} {ext:List Int} {X:List bN} {n:Nd}
theorem Bk.Lu (h:Bk k ext X) (r:Int) (hX:X=[]):-1≤(aI k.ls r).v∧(aI k.ls r).v<k.n∧0≤(aI k.ls r).lo∧0≤(aI k.ls r).hi∧(aI k.ls r).lo<1048576∧(aI k.ls r).hi<1048576:=by
 subst hX;have hn1:=h.n1;unfold aI;cases hp:k.ls[r.toNat]? with
 | none=>simp[NR] <;> omega
 | some p =>
  simp only;split
  ·rename_i ht;by_cases h2:2≤r.toNat
   ·have hm:=h.conv _ p h2 hp ht;rw[List.append_nil] at hm;obtain⟨a,b,c,d,e,f,_⟩:=h.fo _ _ hm;exact⟨by omega,b,c,d,h.lt c e,h.lt d f⟩
   ·rcases Nat.lt_or_ge r.toNat 1 with h1 | h1
    ·have:r.toNat=0:=by omega
     rw[this,h.l0] at hp;injection hp with hp
     subst hp;simp[QE] <;> omega
    ·have:r.toNat=1:=by omega
     rw[this,h.l1] at hp;injection hp with hp
     subst hp;simp[QE] <;> omega
  ·simp[NR] <;> omega
theorem ko (h:KW w kp k a) (v:Int) :
  Calls Tryz.prog 81 #[.pointer (some ⟨kp,0,none⟩),.int .i64 v] w fun e w'=>e=.returned (.bool (decide (0≤v∧v<k.n)))∧w=w':=by
 have c4:=h.c4;have hkl:=h.blk.lt;clear h;by_cases h0:0≤v
 ·by_cases h1:v<k.n
  ·go_enter Tryz.func81,Tryz.ntmps81;go_wp2;go_ret;exact⟨gD (by simp <;> omega),rfl⟩
  ·go_enter Tryz.func81,Tryz.ntmps81;go_wp2;go_ret;exact⟨gD (by simp <;> omega),rfl⟩
 ·go_enter Tryz.func81,Tryz.ntmps81;go_wp2;go_ret;exact⟨gD (by simp <;> omega),rfl⟩
theorem vH (h:KW w kp k a) (hb:Bk k ext []) (hl:Lv k) (r:Int) (h0:0≤r) (h1:r<4294967296) :
  Calls Tryz.prog 89 #[.pointer (some ⟨kp,0,none⟩),.int .u32 r] w fun e w'=>e=.returned (.int .i64 (bn k r))∧Same w w':=by
 have hkl:=h.blk.lt;have mJ:=ig h r h0 h1;unfold bn;obtain⟨v0,v1,_⟩:=hb.Lu r rfl;have hL:∀ v:Nat,v<k.n→∃ l,k.bH[v]?=some l:=fun v hv=>⟨_,List.getElem?_eq_getElem (by rw[hl.ll];exact hv)⟩
 have hll:=hl.ll;generalize aI k.ls r=n at *
 have HN:=Lib.hid mJ;have H:=Lib.hid h;have NZ:=Lib.hid hll;by_cases hv:0≤n.v
 ·obtain⟨m,hm⟩:=Int.eq_ofNat_of_zero_le hv;obtain⟨l,hlv⟩:=hL m (by omega);have hvI:n.v≥0:=hv;have hres:(if 0≤n.v then k.bH.getD n.v.toNat 0 else (k.n:Int))=l:=by
   rw[if_pos hv,hm,Int.toNat_natCast,List.getD_eq_getElem?_getD,hlv];rfl
  rw[hres];have HM:=Lib.hid hm;have zw:=Lib.hid hlv;have hmn:m<k.n:=by omega
  clear mJ h hL hll hm hlv hres hl hb v0 v1;go_enter Tryz.func89,Tryz.ntmps89;go_wp2_with (fail)
  refine HN.out.mono ?_;rintro e w1 ⟨rfl,hs1⟩;unfold Nd.val;rw[HM.out];have hm0:((m:Nat):Int)≥0:=by omega
  go_upto_region 3 with fail
  refine ai fun w2 hw2=>?_
  have hX:=ax.new w1 37 #[.int .i64 m,.int .u32 n.lo,.int .u32 n.hi];have hs2:Same w w2:=by rw[hw2];exact hs1.alloc _
  rw[← hw2] at hX;clear hw2;have hk2:=H.out.same hs2;have c6:=hk2.c6;obtain⟨lb,U7,hlb,hlc⟩:=hk2.bH.dQ zw.out;rw[U7] at c6;replace hlc:w2.cell? ⟨lb,m,none⟩=some (.int .i64 l):=hlc;have IG:=hk2.blk.lt;have x0:=hX.cell 0;have hxl:=hX.lt;simp at x0;have R7:(m:Int)<(k.bH.length:Int):=by have:=NZ.out;omega
  have HS2:=Lib.hid hs2;clear hX hk2 hs2 hs1 hv hvI;refine eG (by kernel_rfl) (by kernel_rfl) ?_;repeat (any_goals (first | go_big_quiet_step (fail) | quiet_step (fail)))
  refine wpQuiet_nil ?_;rintro _ ⟨q,rfl⟩;go_wp2;go_ret;exact⟨rfl,HS2.out.trans (az _ _) (fun _ _ h=>h)⟩
 ·have hvI:¬ n.v≥0:=hv;rw[if_neg hv];clear mJ h hL hll hl hb v0 v1;go_enter Tryz.func89,Tryz.ntmps89;go_wp2_with (fail)
  refine HN.out.mono ?_;rintro e w1 ⟨rfl,hs1⟩;unfold Nd.val;have hk2:=H.out.same (hs1.alloc (.cells #[.int .i64 n.v,.int .u32 n.lo,.int .u32 n.hi] 37));have c4:=hk2.c4;have IG:=hk2.blk.lt;simp at IG;have aX:=Lib.hid hs1;clear hk2 hs1;go_wp2;go_ret;exact⟨rfl,aX.out.alloc _⟩
theorem yA (hb:Bk k ext []) (hl:Lv k) (r:Int):0≤bn k r∧bn k r≤k.n:=by
 unfold bn;obtain⟨_,v1,_⟩:=hb.Lu r rfl;split
 ·rename_i h;have hlt:(aI k.ls r).v.toNat<k.bH.length:=by rw[hl.ll];omega
  obtain⟨i,hi,hin,_⟩:=hl.l2 _ _ (List.getElem?_eq_getElem hlt);rw[List.getD_eq_getElem?_getD,List.getElem?_eq_getElem hlt,Option.getD_some,hi];omega
 ·omega
theorem II (h:KW w kp k a) (hb:Bk k ext []) (hl:Lv k) (n:Nd) (l0:0≤n.lo) (l1:n.lo<4294967296) (h0:0≤n.hi) (h1:n.hi<4294967296) :
  Calls Tryz.prog 55 #[.pointer (some ⟨kp,0,none⟩),.int .i64 n.v,.int .u32 n.lo,.int .u32 n.hi] w fun e w'=>e=.returned (.int .i64 (di k n))∧Same w w':=by
 have hkl:=h.blk.lt;have O0:=fun w' (hw:Same w w')=>ko (h.same hw) n.v
 have hlo:=fun w' (hw:Same w w')=>nJ (h.same hw) n.lo l0 l1
 have hhi:=fun w' (hw:Same w w')=>nJ (h.same hw) n.hi h0 h1
 have hdl:=fun w' (hw:Same w w')=>vH (h.same hw) hb hl n.lo l0 l1
 have WX:=fun w' (hw:Same w w')=>vH (h.same hw) hb hl n.hi h0 h1
 unfold di bz;obtain⟨dl0,dl1⟩:=yA hb hl n.lo;obtain⟨dh0,dh1⟩:=yA hb hl n.hi;have V9:=hb.n64;have hLL:=hl.ll;have hLV:0≤n.v→n.v<k.n→∃ lv:Nat,k.bH[n.v.toNat]?=some (lv:Int)∧lv<k.n:=fun a b=>by
  obtain⟨i,hi,hin,_⟩:=hl.l2 n.v.toNat _ (List.getElem?_eq_getElem (by rw[hl.ll];omega));exact⟨i,by rw[List.getElem?_eq_getElem (by rw[hl.ll];omega),hi],hin⟩
 generalize bn k n.lo=dl at *
 generalize bn k n.hi=dh at *
 have HV:=Lib.hid O0;have Bw:=Lib.hid hlo;have Dq:=Lib.hid hhi;have Dr:=Lib.hid hdl;have HDH:=Lib.hid WX;have H:=Lib.hid h;have NZ:=Lib.hid hLL;clear O0 hlo hhi hdl WX h hb hl hLL;by_cases hv:0≤n.v∧n.v<k.n
 ·obtain⟨lv,hlv,aco⟩:=hLV hv.1 hv.2;have SK:=Lib.hid hlv;rw[if_neg (by simpa using hv)];have hvb:decide (0≤n.v∧n.v<k.n)=true:=by simpa using hv
  have HVV:=Lib.hid hv;clear hLV hlv;obtain⟨b1,hb1⟩:∃ b,tk k.ls n.lo=b:=⟨_,rfl⟩;obtain⟨b2,hb2⟩:∃ b,tk k.ls n.hi=b:=⟨_,rfl⟩;rw[hb1] at Bw ⊢;rw[hb2] at Dq ⊢;rw[hvb] at HV;clear hb1 hb2 hvb hv;cases b1 with
  | false =>
   rw[if_pos (.inl rfl)];go_enter Tryz.func55,Tryz.ntmps55;go_wp2_with (fail)
   refine(HV.out _ (ah.refl _ _)).mono ?_;rintro e w1 ⟨rfl,rfl⟩;go_wp2_with (fail)
   refine(Bw.out _ (ah.refl _ _)).mono ?_;rintro e w1 ⟨rfl,hs1⟩;go_wp2;go_ret;exact⟨rfl,hs1⟩
  | true =>
   cases b2 with
   | false =>
    rw[if_pos (.inr rfl)];go_enter Tryz.func55,Tryz.ntmps55;go_wp2_with (fail)
    refine(HV.out _ (ah.refl _ _)).mono ?_;rintro e w1 ⟨rfl,rfl⟩;go_wp2_with (fail)
    refine(Bw.out _ (ah.refl _ _)).mono ?_;rintro e w1 ⟨rfl,hs1⟩;have aX:=Lib.hid hs1;clear hs1;go_wp2_with (fail)
    refine(Dq.out _ aX.out).mono ?_;rintro e w2 ⟨rfl,hs2⟩;have HS2:=Lib.hid (aX.out.trans hs2 (fun _ _ h=>h));clear hs2;go_wp2;go_ret;exact⟨rfl,HS2.out⟩
   | true =>
    rw[if_neg (by simp)];have WY:k.bH.getD n.v.toNat 0=(lv:Int):=by rw[List.getD_eq_getElem?_getD,SK.out];rfl
    rw[WY];clear WY;by_cases hee:n.lo=n.hi
    ·rw[if_neg (by simp[hee])];have J7:(n.lo != n.hi)=false:=by simpa using hee
     clear hee;go_enter Tryz.func55,Tryz.ntmps55;go_wp2_with (fail)
     refine(HV.out _ (ah.refl _ _)).mono ?_;rintro e w1 ⟨rfl,rfl⟩;go_wp2_with (fail)
     refine(Bw.out _ (ah.refl _ _)).mono ?_;rintro e w1 ⟨rfl,hs1⟩;have aX:=Lib.hid hs1;clear hs1;go_wp2_with (fail)
     refine(Dq.out _ aX.out).mono ?_;rintro e w2 ⟨rfl,hs2⟩;have HS2:=Lib.hid (aX.out.trans hs2 (fun _ _ h=>h));clear hs2;go_upto_region 5 with fail
     refine eG (by kernel_rfl) (by kernel_rfl) ?_;repeat (any_goals (first | go_big_quiet_step (fail) | quiet_step (fail)))
     refine wpQuiet_nil ?_;rintro _ ⟨q,rfl⟩;go_wp2;go_ret;exact⟨rfl,HS2.out.trans (az _ _) (fun _ _ h=>h)⟩
    ·have J7:(n.lo != n.hi)=true:=by simpa using hee
     obtain⟨m,hm⟩:=Int.eq_ofNat_of_zero_le HVV.out.1;have hmn:m<k.n:=by have:=HVV.out.2;omega
     have WZ:k.bH[m]?=some (lv:Int):=by have:=SK.out;rwa [hm,Int.toNat_natCast] at this
     have R7:(m:Int)<(k.bH.length:Int):=by have:=NZ.out;omega
     have HLM:=Lib.hid WZ;have hfin:(if n.lo≠n.hi∧min dl dh≤(lv:Int) then 4 else 0:Int)=if min dl dh≤(lv:Int) then 4 else 0:=by
      by_cases hc:min dl dh≤(lv:Int)
      ·rw[if_pos ⟨hee,hc⟩,if_pos hc]
      ·rw[if_neg (fun h=>hc h.2),if_neg hc]
     rw[hfin];generalize n.v=nv at *
     subst hm;clear hee WZ hfin SK HVV;go_enter Tryz.func55,Tryz.ntmps55;go_wp2_with (fail)
     refine(HV.out _ (ah.refl _ _)).mono ?_;rintro e w1 ⟨rfl,rfl⟩;go_wp2_with (fail)
     refine(Bw.out _ (ah.refl _ _)).mono ?_;rintro e w1 ⟨rfl,hs1⟩;have aX:=Lib.hid hs1;clear hs1;go_wp2_with (fail)
     refine(Dq.out _ aX.out).mono ?_;rintro e w2 ⟨rfl,hs2⟩;have kI:=aX.out.trans hs2 (fun _ _ h=>h);have hk2:=H.out.same kI;have c6:=hk2.c6;obtain⟨lb,U7,hlb,hlc⟩:=hk2.bH.dQ HLM.out;rw[U7] at c6;replace hlc:w2.cell? ⟨lb,m,none⟩=some (.int .i64 lv):=hlc;have IG:=hk2.blk.lt;have HS2:=Lib.hid kI;clear hs2 kI hk2;go_upto_region 5 with fail
     refine eG (by kernel_rfl) (by kernel_rfl) ?_;repeat (any_goals (first | go_big_quiet_step ((first | (go_at_call_of 89 (Value.int IntKind.u32 n.lo);exact aW (Dr.out _ (HS2.out.trans (az _ _) (fun _ _ h=>h)))) | (go_at_call 89;exact aW (HDH.out _ (HS2.out.trans (az _ _) (fun _ _ h=>h)))))) | quiet_step ((first | (go_at_call_of 89 (Value.int IntKind.u32 n.lo);exact aW (Dr.out _ (HS2.out.trans (az _ _) (fun _ _ h=>h)))) | (go_at_call 89;exact aW (HDH.out _ (HS2.out.trans (az _ _) (fun _ _ h=>h))))))))
     refine wpQuiet_nil ?_;rintro _ ⟨q,rfl⟩;by_cases hc:min dl dh≤(lv:Int)
     ·have HC:=Lib.hid hc;go_wp2;go_ret;exact⟨rfl,HS2.out.trans (az _ _) (fun _ _ h=>h)⟩
     ·have HC:=Lib.hid hc;go_wp2;go_ret;exact⟨rfl,HS2.out.trans (az _ _) (fun _ _ h=>h)⟩
 ·rw[if_pos hv];have hvb:decide (0≤n.v∧n.v<k.n)=false:=by simpa using hv
  rw[hvb] at HV;clear hvb hv hLV;go_enter Tryz.func55,Tryz.ntmps55;go_wp2_with (fail)
  refine(HV.out _ (ah.refl _ _)).mono ?_;rintro e w1 ⟨rfl,rfl⟩;go_wp2;go_ret;exact⟨rfl,ah.refl _ _⟩
theorem IJ (h:KW w kp k a) (n:Nd) (hn:n.ok) :
  Calls Tryz.prog 56 #[.pointer (some ⟨kp,0,none⟩),.int .i64 n.v,.int .u32 n.lo,.int .u32 n.hi] w fun e w'=>e=.returned (.tuple #[.int .u32 ((eP k n).getD 0),.bool (eP k n).isSome])∧Same w w':=by
 have hkl:=h.blk.lt;have c1:=h.c1;have hf:=oP a.U k.n k.L n hn w h.ut;unfold eP;have HF:=Lib.hid hf;clear h hf hn;by_cases hee:n.lo=n.hi
 ·rw[if_pos hee];have J7:(n.lo == n.hi)=true:=by simpa using hee
  clear hee;go_enter Tryz.func56,Tryz.ntmps56;go_wp2;go_ret2;exact⟨rfl,ah.refl _ _⟩
 ·rw[if_neg hee];have J7:(n.lo == n.hi)=false:=by simpa using hee
  clear hee;go_enter Tryz.func56,Tryz.ntmps56;go_wp2_with (fail)
  refine HF.out.mono ?_;rintro e w1 ⟨rfl,hs1⟩;go_wp2;go_ret2;exact⟨rfl,hs1⟩
theorem ru (h:KW w kp k a) (r:Int) (h0:0≤r) (h1:r<4294967296) (hv:∀ x,k.hs[r.toNat]?=some x→0≤x∧x≤65535) :
  Calls Tryz.prog 17 #[.pointer (some ⟨kp,0,none⟩),.int .u32 r] w fun e w'=>e=.returned (.int .i64 (k.hs.getD r.toNat 0))∧w=w':=by
 obtain⟨m,rfl⟩:=Int.eq_ofNat_of_zero_le h0;rw[Int.toNat_natCast] at hv ⊢;have hkl:=h.blk.lt;have c3:=h.c3;by_cases hlt:m<k.hs.length
 ·have hx:=List.getElem?_eq_getElem hlt;obtain⟨sb,hA,hsb,_,hc,_⟩:=h.Bf hx;rw[hA] at c3;obtain⟨v0,v1⟩:=hv _ hx;have hd:k.hs.getD m 0=k.hs[m]:=by rw[List.getD_eq_getElem?_getD,hx];rfl
  rw[hd];generalize k.hs[m]=x at *
  have hI:¬ (m:Int)≥(k.hs.length:Int):=by omega
  have hI2:(m:Int)<(k.hs.length:Int):=by omega
  clear h hx hd hv hA;go_enter Tryz.func17,Tryz.ntmps17;go_wp2;go_ret;exact⟨rfl,rfl⟩
 ·have hd:k.hs.getD m 0=0:=by rw[List.getD_eq_getElem?_getD,List.getElem?_eq_none (by omega)];rfl
  rw[hd];have hI:(m:Int)≥(k.hs.length:Int):=by omega
  clear h hv hd;go_enter Tryz.func17,Tryz.ntmps17;go_wp2;go_ret;exact⟨rfl,rfl⟩
theorem lG (h:KW w kp k a) (r:Int) (h0:0≤r) (h1:r<4294967296) :
  Calls Tryz.prog 20 #[.pointer (some ⟨kp,0,none⟩),.int .u32 r] w fun e w'=>e=.returned (.tuple #[(aI k.ls r).val,.int .i64 (fQ k.ls r)])∧Same w w':=by
 have hkl:=h.blk.lt;have hlv:=fun w' (hw:Same w w')=>nJ (h.same hw) r h0 h1
 have hnd:=fun w' (hw:Same w w')=>ig (h.same hw) r h0 h1
 have HL:=Lib.hid hlv;have HN:=Lib.hid hnd;obtain⟨b,hb⟩:∃ b,tk k.ls r=b:=⟨_,rfl⟩;rw[hb] at HL;have hgE:fQ k.ls r=if b then 0 else 3:=by unfold fQ;rw[hb]
 have hgN:b=false→aI k.ls r=NR:=by
  intro h;rw[h] at hb;unfold tk at hb;unfold aI;cases hp:k.ls[r.toNat]? with
  | none=>rfl
  | some p=>rw[hp] at hb;simp only at hb ⊢;rw[hb];rfl
 rw[hgE];have U8:=Lib.hid hgN;clear h hlv hnd hb hgE hgN;have hle:w.heap.size≤w.heap.size:=Nat.le_refl _;cases b with
 | false =>
  rw[U8.out rfl];clear HN;go_enter Tryz.func20,Tryz.ntmps20;go_wp2_with (fail)
  refine ek fun w1 hw1=>?_
  have hs1:Same w w1:=by rw[hw1];exact(ah.refl _ _).alloc _
  have hX:=ax.new w 37 #[.int .i64 0,.int .u32 0,.int .u32 0];rw[← hw1] at hX;clear hw1;refine(HL.out _ hs1).mono ?_;rintro e w2 ⟨rfl,hs2⟩;have hX2:=hX.ag hs2 id;have x0:=hX2.cell 0;have x1:=hX2.cell 1;have x2:=hX2.cell 2;have f0:=hX2.free 0;have f1:=hX2.free 1;have f2:=hX2.free 2;have hxl:=hX2.lt;simp at x0 x1 x2;have HX:=Lib.hid hX2;have HS:=Lib.hid (hs1.trans hs2 (fun _ _ h=>h));clear hX hX2 hs1 hs2;go_wp2;refine bodyPost_ret (v:=.tuple #[NR.val,.int .i64 3]) ?_ rfl ⟨rfl,?_⟩
  ·have hY:=((HX.out.set 0 (.int .i64 0)).set 1 (.int .u32 0)).set 2 (.int .u32 0);generalize ((w2.setCell ⟨w.heap.size,0,none⟩ (.int .i64 0)).setCell ⟨w.heap.size,1,none⟩ (.int .u32 0)).setCell ⟨w.heap.size,2,none⟩ (.int .u32 0)=W at hY ⊢;have y0:=hY.cell 0;have y1:=hY.cell 1;have y2:=hY.cell 2;simp at y0 y1 y2;simp[results,Tryz.results20,go_sem,Nd.val,NR,y0,y1,y2]
  ·exact((HS.out.aj _ _ hle).aj _ _ hle).aj _ _ hle
 | true =>
  clear U8;generalize aI k.ls r=n at *
  go_enter Tryz.func20,Tryz.ntmps20;go_wp2_with (fail)
  refine ek fun w1 hw1=>?_
  have hs1:Same w w1:=by rw[hw1];exact(ah.refl _ _).alloc _
  have hX:=ax.new w 37 #[.int .i64 0,.int .u32 0,.int .u32 0];rw[← hw1] at hX;clear hw1;refine(HL.out _ hs1).mono ?_;rintro e w2 ⟨rfl,hs2⟩;have hX2:=hX.ag hs2 id;have HX:=Lib.hid hX2;have HS:=Lib.hid (hs1.trans hs2 (fun _ _ h=>h));clear hX hX2 hs1 hs2;go_wp2_with (fail)
  refine(HN.out _ HS.out).mono ?_;rintro e w3 ⟨rfl,hs3⟩;unfold Nd.val;have hX2:=HX.out.ag hs3 id;have x0:=hX2.cell 0;have x1:=hX2.cell 1;have x2:=hX2.cell 2;have f0:=hX2.free 0;have f1:=hX2.free 1;have f2:=hX2.free 2;have hxl:=hX2.lt;simp at x0 x1 x2;have R4:=Lib.hid hX2;have dY:=Lib.hid (HS.out.trans hs3 (fun _ _ h=>h));clear hX2 hs3 HX HS;go_wp2;refine bodyPost_ret (v:=.tuple #[n.val,.int .i64 0]) ?_ rfl ⟨rfl,?_⟩
  ·have hY:=((R4.out.set 0 (.int .i64 n.v)).set 1 (.int .u32 n.lo)).set 2 (.int .u32 n.hi);generalize ((w3.setCell ⟨w.heap.size,0,none⟩ (.int .i64 n.v)).setCell ⟨w.heap.size,1,none⟩ (.int .u32 n.lo)).setCell ⟨w.heap.size,2,none⟩ (.int .u32 n.hi)=W at hY ⊢;have y0:=hY.cell 0;have y1:=hY.cell 1;have y2:=hY.cell 2;simp at y0 y1 y2;simp[results,Tryz.results20,go_sem,Nd.val,y0,y1,y2]
  ·exact((dY.out.aj _ _ hle).aj _ _ hle).aj _ _ hle
end
section
variable {k:KS} {ext ext':List Int} {X:List bN}
theorem Lx (h:Bk k ext X) {n:Nd} {r h':Int} (hm:(n,r)∈k.L++X) (h0:0≤h') (h1:h'≤65535)
  (hc:(if h'=0 then 0 else 1)+ext'.count r=(if k.hs.getD r.toNat 0=0 then 0 else 1)+ext.count r) (ho:∀ q,q≠r→ext'.count q=ext.count q)
  (he:∀ q∈ext',q=r∨q∈ext) (hb:ext'.length+k.L.length≤8000000):Bk { k with hs:=k.hs.set r.toNat h' } ext' X:=by
 obtain⟨m,rfl,m2,mu,ml⟩:=h.mem _ _ hm;have hlt:m<k.hs.length:=by rw[← h.ul];exact mu
 rw[Int.toNat_natCast] at hc ⊢;refine⟨h.n1,h.n64,h.c2,h.cM,h.l0,h.l1,h.mem,h.conv,h.kn,h.rn,h.Ea,h.fn,h.cnt,h.gK,h.lim,by show k.us.length=(k.hs.set m h').length;rw[List.length_set];exact h.ul,h.Eb,h.fo,?_,?_,?_,hb⟩
 ·intro n' q hq;obtain⟨i,rfl,i2,iu,il⟩:=h.mem _ _ hq;rw[h.use n' i hq];show _=some ((par k.L (i:Int)+(if (k.hs.set m h').getD (i:Int).toNat 0=0 then 0 else 1)+ext'.count (i:Int):Nat):Int);rw[Int.toNat_natCast,iI hlt];by_cases J4:m=i
  ·subst J4;rw[if_pos rfl];congr 2;omega
  ·rw[if_neg J4,ho _ (by omega)]
 ·intro i x hx;replace hx:(k.hs.set m h')[i]?=some x:=hx;rw[List.getElem?_set] at hx;by_cases J4:m=i
  ·subst J4;rw[if_pos rfl,if_pos hlt] at hx;injection hx with hx
   subst hx;exact⟨h0,h1,fun _=>⟨n,hm⟩⟩
  ·rw[if_neg J4] at hx;exact h.hol i x hx
 ·intro q hq;rcases he q hq with rfl | hq
  ·exact⟨by omega,(h.jG hm).2.2⟩
  ·exact h.Ap q hq
theorem O1 {r:Int} (h:Bk k (r::ext) X) {n:Nd} (hm:(n,r)∈k.L++X) (h0:k.hs.getD r.toNat 0=0):Bk { k with hs:=k.hs.set r.toNat 1 } ext X:=by
 have hbd:=h.bd;simp only[List.length_cons] at hbd;refine Lx (ext':=ext) h hm (by omega) (by omega) ?_ ?_ (fun q hq=>.inr (List.mem_cons_of_mem _ hq)) (by omega)
 ·rw[h0,List.count_cons_self];simp <;> omega
 ·intro q hq;rw[List.count_cons_of_ne (fun h=>hq h.symm)]
theorem rD {r:Int} (h:Bk k ext X) {n:Nd} (hm:(n,r)∈k.L++X) (h0:k.hs.getD r.toNat 0≠0) (hb:ext.length+1+k.L.length≤8000000):Bk { k with hs:=k.hs.set r.toNat 0 } (r::ext) X:=by
 refine Lx (ext':=r::ext) h hm (by omega) (by omega) ?_ ?_ (fun q hq=>(List.mem_cons.1 hq).elim .inl .inr) (by simp only[List.length_cons];omega)
 ·rw[if_neg h0,List.count_cons_self];simp <;> omega
 ·intro q hq;rw[List.count_cons_of_ne (fun h=>hq h.symm)]
theorem Gc {r h':Int} (h:Bk k ext X) {n:Nd} (hm:(n,r)∈k.L++X) (h0:k.hs.getD r.toNat 0≠0) (h1:0<h') (h2:h'≤65535):Bk { k with hs:=k.hs.set r.toNat h' } ext X:=by
 refine Lx (ext':=ext) h hm (by omega) (by omega) ?_ (fun _ _=>rfl) (fun q hq=>.inr hq) h.bd;rw[if_neg h0,if_neg (by omega)]
theorem Bk.tr (h:Bk k ext X) (t:List Int):Bk { k with tr:=t } ext X:=⟨h.n1,h.n64,h.c2,h.cM,h.l0,h.l1,h.mem,h.conv,h.kn,h.rn,h.Ea,h.fn,h.cnt,h.gK,h.lim,h.ul,h.Eb,h.fo,h.use,h.hol,h.Ap,h.bd⟩
end
def dD (k:KS) (r:Int):KS:={ (if k.hs.getD r.toNat 0=0 then bF k r else k) with hs:=k.hs.set r.toNat (k.hs.getD r.toNat 0+1) }
def aP (k:KS) (r:Int):Int×KS:=if tk k.ls r=false then (3,k) else if 1<r then (if k.hs.getD r.toNat 0=65535 then (8,k) else (0,{ dD k r with tr:=[] })) else (0,{ k with tr:=[] })
def dO (k:KS) (r:Int):KS:=if k.hs.getD r.toNat 0=1 then jh { k with hs:=k.hs.set r.toNat 0 } r else { k with hs:=k.hs.set r.toNat (k.hs.getD r.toNat 0-1) }
def aD (k:KS) (r:Int):Int×KS:=if 1<r then (if k.hs.getD r.toNat 0=0 then (3,k) else (0,{ dO k r with tr:=[] })) else (0,{ k with tr:=[] })
theorem jL {k:KS} {ext:List Int} {X:List bN} (h:Bk k ext X) {r:Int} (h0:0≤r) (hh:k.hs.getD r.toNat 0≠0):∃ n,(n,r)∈k.L++X:=by
 obtain⟨m,rfl⟩:=Int.eq_ofNat_of_zero_le h0;rw[Int.toNat_natCast,List.getD_eq_getElem?_getD] at hh;cases hx:k.hs[m]? with
 | none=>rw[hx] at hh;exact absurd rfl hh
 | some x =>
  rw[hx] at hh;exact(h.hol m x hx).2.2 hh
end Go.Proofs.YtiomgckodmecbaaGreat
