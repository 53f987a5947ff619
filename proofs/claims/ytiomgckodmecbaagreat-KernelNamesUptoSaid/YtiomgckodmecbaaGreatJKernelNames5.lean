/- Contracts and plain laws, put together in one file. No condition. -/
import Derived.Test.YtiomgckodmecbaaGreatJKernelNames4
import Derived.Carry
import Derived.Test.YtiomgckodmecbaaGreatProg
import Derived.Sort.MapsRangeIn
import Derived.Sort.KeysCollected
import Derived.RangeFuncMany
import Derived.WalkKit
import Derived.OwnWalkIn
import Derived.TacticsInMore
import Derived.RegionIn
import Derived.LoopNIn
import Derived.LoopIn
import Derived.Shelf.AbstractIn
import Derived.WideKeyEntry

set_option maxRecDepth 100000
set_option maxHeartbeats 32000000
namespace Go.Proofs.YtiomgckodmecbaaGreat
open Go.RowKit Go.Tk
def GM:Option Value→Nat
 | some (.int _ n)=>n.toNat
 | _=>0
def lenOf (v:Value):Nat:=nC (some v)
section
variable {w:World} {kp:Nat} {k:KS} {a:KA} {ext:List Int} {X:List bP} {n:Nd} {r0:Int}
theorem KW.less (h:KW w kp k a) {sb m:Nat} (hA:a.uA=some ⟨sb,0,none⟩) (hi:m<k.us.length) :
  KW (w.setCell ⟨sb,m,none⟩ (.int .i32 (k.us.getD m 0-1))) kp (fB k m) a∧dB k.n kp w a (w.setCell ⟨sb,m,none⟩ (.int .i32 (k.us.getD m 0-1))) a:=h.GH hA hi _
theorem l6 (h:KW w kp k a) (hb:Bk k (r0::ext) []) :
  Calls Tryz.prog 61 #[.pointer (some ⟨kp,0,none⟩),.int .u32 r0] w fun e w'=>e=.returned (.tuple #[])∧∃ a',KW w' kp (jY k r0) a'∧dB k.n kp w a w' a':=by
 have hr0:=(hb.BN r0 (List.mem_cons_self ..)).1;have HB:=Lib.hid hb;have HH:=Lib.hid h;have hkl:=h.blk.lt;clear hb h;go_enter Tryz.func61,Tryz.ntmps61;go_wp2_with (fail)
 refine ai fun w1 hw1=>?_
 have hs1:Same w w1:=by rw[hw1];exact(ah.refl _ _).alloc _
 have hT:=Go.Tk.Own.lit w 28 (fun x=>[rc x]) (fun _=>rfl) [r0] (by simp[maxLen]) (cs:=#[.int .u32 r0]) (by simp[rc]);have hT1:Row1 w1 28 rc (some ⟨w.heap.size,0,none⟩) 1 1 [r0]:=by rw[hw1];exact hT
 have Xy:∀ b,rowOf (some ⟨w.heap.size,0,none⟩:Option Addr) b→¬ iF k.n kp a b:=by
  rintro b ⟨ad,hx,rfl⟩ hk;injection hx with hx
  subst hx
  have:=HH.out.lt hk
  simp at this
 have HT1:=Lib.hid hT1;have Wi:=Lib.hid Xy;have aW:=Lib.hid hs1;clear hw1 hT hT1 Xy hs1;go_loopw [4] (fun t wr=>∃ f k' a' st A C,Bk k' (st++ext) []∧3*k'.L.length+st.length≤f∧iR f k' st=jY k r0∧k'.n=k.n∧a'.g=a.g∧KW wr kp k' a'∧dB k.n kp w a wr a'∧t=.slice A st.length C∧Row1 wr 28 rc A st.length C st.reverse∧(∀ b,rowOf A b→¬ iF k.n kp a' b)∧(∀ b,rowOf A b→w.heap.size≤b)) (fun t wr=>3*GM (wr.cell? ⟨a.g,3,none⟩)+lenOf t)
 case atStart =>
  refine⟨3*k.ac+1,k,a,[r0],some ⟨w.heap.size,0,none⟩,1,HB.out,?_,rfl,rfl,rfl,HH.out.same aW.out,dB.same aW.out,rfl,HT1.out,Wi.out,bR (Nat.le_refl _)⟩
  have:=HB.out.cnt
  simp at this ⊢;omega
 case round =>
  obtain⟨f,k',a',st,A,C,hb',hf,hrel,hkn,hag,hk',hg',rfl,hT,Xy,Wj⟩:=hrel
  have HM:Hid (GM (wr.cell? ⟨a.g,3,none⟩)=k'.ac):=Lib.hid (by
   rw[← hag,hk'.ar.blk.cell 3];rfl)
  have wJ:=Lib.hid hb';have HF:=Lib.hid hf;have jv:=Lib.hid hrel;have yF:=Lib.hid hkn;have Xz:=Lib.hid hag;have XA:=Lib.hid hk';have XB:=Lib.hid hg';have HT:=Lib.hid hT;have Wi:=Lib.hid Xy;have Ml:=Lib.hid Wj;clear Wj;have hkl':=hk'.blk.lt;clear hb' hf hrel hkn hag hk' hg' hT Xy;cases st with
  | nil =>
   go_wp2;go_end0
   refine⟨rfl,a',?_,XB.out⟩;have e:iR f k' []=k':=by cases f <;> rfl
   rw[← jv.out,e];exact XA.out
  | cons r st =>
   replace wJ:Hid (Bk k' (r::(st++ext)) []):=wJ;obtain⟨f,rfl⟩:∃ f',f=f'+1:=⟨f-1,by have:=HF.out;simp only[List.length_cons] at this;omega⟩;obtain⟨tb,rfl,tbl,XC⟩:=HT.out.dV (i:=st.length) (x:=r) (by simp);have CP:Row1 wr 28 rc (some ⟨tb,0,none⟩) st.length C st.reverse:=by
    have:=HT.out
    rw[List.reverse_cons] at this
    have:=Go.Tk.Own.pop (f:=fun x=>[rc x]) (fun _=>rfl) this
    rwa [List.length_reverse] at this
   have hsl:st.length+1≤C∧C<9223372036854775808:=by
    have:=HT.out
    simp only[List.length_cons] at this;rcases this.own.2 with⟨h0,_⟩ | ⟨_,cap,_,h1,_,_,h3,h4,_⟩
    ·cases h0
    ·injection h1 with _ _ h1
     subst h1;unfold maxLen at h4;omega
   obtain⟨hs1,hs2⟩:=hsl;replace XC:wr.cell? ⟨tb,st.length,none⟩=some (.int .u32 r):=XC;have hc1:((st.length:Int)+1)>0:=by omega
   have yG:=Lib.hid CP;clear CP;simp only[List.length_cons];obtain⟨Qg,hrt⟩:=wJ.out.BN r (List.mem_cons_self ..);have hrl:=wJ.out.lt Qg hrt;have HRT:=Lib.hid hrt;clear hrt;by_cases Xt:r≤1
   ·have hrel:iR (f+1) k' (r::st)=iR f k' st:=by simp[iR,Xt]
    rw[hrel] at jv;have hb2:Bk k' (st++ext) []:=CO wJ.out Xt;have HB2:=Lib.hid hb2;clear hb2 hrel;go_wp2;go_roundw
    case rel =>
     refine⟨f,k',a',st,_,C,HB2.out,by have:=HF.out;simp only[List.length_cons] at this;omega,jv.out,yF.out,Xz.out,XA.out,XB.out,rfl,yG.out,Wi.out,Ml.out⟩
    case measure=>simp[lenOf,nC]
   ·obtain⟨n,hm⟩:∃ n,(n,r)∈k'.L:=by
     rcases(wJ.out.Pm Qg).1 HRT.out with h | h | ⟨n,h⟩
     ·omega
     ·omega
     ·exact⟨n,by simpa using h⟩
    obtain⟨m,rfl⟩:=Int.eq_ofNat_of_zero_le Qg;obtain⟨hu1,hu2⟩:=wJ.out.Qe (List.mem_append_left _ hm);rw[Int.toNat_natCast] at hu1 hu2;obtain⟨u,hu⟩:∃ u,k'.us.getD m 0=u:=⟨_,rfl⟩;have hu0:1≤u:=by
     rw[← hu,hu1,List.count_cons_self];omega
    have huM:u≤16000001:=by
     obtain⟨x,_,e2,e3,_⟩:=wJ.out.wG (List.mem_append_left _ hm);rw[Int.toNat_natCast,hu] at e2;omega
    have hug:k'.us[m]?=some u:=by
     rw[← hu,List.getD_eq_getElem?_getD,List.getElem?_eq_getElem hu2];rfl
    obtain⟨ub,hub,ubl,ubk,ubc,ubf⟩:=XA.out.Qb hug;have hle:=XA.out.less hub hu2;rw[hu] at hle;have g2:=XA.out.c2;rw[hub] at g2;have Uc:(m:Int)<k'.us.length:=by omega
    have Lg:=Lib.hid hm;have Ew:=Lib.hid hle;have HU:=Lib.hid hu;have HUB:=Lib.hid hub;have hbl:=uW wJ.out (by omega);have Sq:=Lib.hid hbl;clear hm hle hu hub hu1 hug hbl;by_cases hu1:1<u
    ·have hrel:iR (f+1) k' (m::st)=iR f (fB k' m) st:=by
      have:=HU.out
      simp only[iR];rw[if_neg Xt,if_pos (by rw[Int.toNat_natCast,this];exact hu1)]
     rw[hrel] at jv;clear hrel;have hg1:dB k'.n kp wr a' _ a':=Ew.out.2;have Am:=Lib.hid hg1;clear hg1;go_wp2;go_roundw
     case rel =>
      have hg:=Am.out;rw[yF.out] at hg;have hTF:∀ b,rowOf (some ⟨tb,0,none⟩:Option Addr) b→¬ iF k.n kp a' b:=Wi.out;refine⟨f,fB k' m,a',st,_,C,Sq.out,by have:=HF.out;simp only[List.length_cons] at this;show 3*k'.L.length+_≤_;omega,jv.out,yF.out,Xz.out,Ew.out.1,XB.out.trans hg,rfl,?_,Wi.out,Ml.out⟩;exact yG.out.ag hg.ag (fun ad h=>hTF _ ⟨ad,h,rfl⟩)
     case measure =>
      have h1:=HM.out;have h2:=Ew.out.1.ar.blk.cell 3;rw[Xz.out] at h2;rw[h1,h2];simp[lenOf,nC,GM,fB]
    ·have hrel:iR (f+1) k' (m::st)=iR f (kg (jo (fB k' m) n) m) (n.hi::n.lo::st):=by
      have h1:=HU.out;have h2:=(wJ.out.jq (List.mem_append_left _ Lg.out)).2.1;simp only[iR];rw[if_neg Xt,if_neg (by rw[Int.toNat_natCast,h1];exact hu1),h2]
     rw[hrel] at jv;clear hrel;have nD:=fun w' (hw:KW w' kp (fB k' m) a')=>iH hw (m:Int) Qg (by omega)
     have hn1:aH (fB k' m).ls (m:Int)=n:=(wJ.out.jq (List.mem_append_left _ Lg.out)).2.1;rw[hn1] at nD;have Sr:=Lib.hid nD;clear nD hn1;go_upto_region 8 with fail
     refine ai fun w3 hw3=>?_
     rw[← hw3] at Ew;clear hw3;go_wp2_with (fail)
     refine(Sr.out _ Ew.out.1).mono ?_;rintro e w4 ⟨rfl,hs4⟩;unfold Nd.val;have hk4:=Ew.out.1.same hs4;have Lc:=Lib.hid hk4;have gH:=Lib.hid hs4;have acA:=hk4.blk.lt;clear hk4 hs4 Sr;go_upto_region 9 with fail
     refine ai fun w5 kW=>?_
     have hX:=av.new w4 37 #[.int .i64 n.v,.int .u32 n.lo,.int .u32 n.hi];have hs5:Same w4 w5:=by rw[kW];exact(ah.refl _ _).alloc _
     rw[← kW] at hX;clear kW;have hk5:=Lc.out.same hs5;have c1:=hk5.c1;have acB:=hk5.blk.lt;have x0:=hX.cell 0;have x1:=hX.cell 1;have x2:=hX.cell 2;have hxl:=hX.lt;simp at x0 x1 x2;have Sk:¬ iF k'.n kp a' w4.heap.size:=fun hx=>by
      have:=Lc.out.lt hx
      omega
     have hUk:¬ UB a'.U k'.n kp:=fun hx=>hk5.dj 6 0 kp (by omega) hx rfl
     have hUX:¬ UB a'.U k'.n w4.heap.size:=fun hx=>Sk ⟨6,hx⟩
     obtain⟨v0,v1,l0,h0,lt,ht,_⟩:=wJ.out.eZ n _ Lg.out;have Qh:=wJ.out.n64;have hll:=wJ.out.lt l0 lt;have Su:=wJ.out.lt h0 ht;have hok:n.ok:=Nd.CK v0 (by omega) l0 (by omega) h0 (by omega);have hrm:=fun w' (hw:KW w' kp (fB k' m) a')=>zg a'.U _ _ n hok w' hw.ut
     have Qi:=Lib.hid hrm;have HX:=Lib.hid hX;have nE:=Lib.hid hs5;have Pn:=Lib.hid hk5;have We:=Lib.hid Sk;clear hX hs5 hk5 Sk hok hrm lt ht;refine aG (UB a'.U k'.n) [([0,1,2,3,4],5)] (by kernel_rfl) (by kernel_rfl) ?_;simp only[di,pick,List.map_cons,List.map_nil,List.getD_cons_zero,List.getD_cons_succ];repeat (any_goals (first | go_big_quiet_step (fail) | quiet_step (fail)))
     refine wpQuiet_nil ?_;refine wpList_plain rfl fun K hK=>?_
     go_simp;refine(Qi.out _ (Pn.out.same ((ah.refl _ _).drew))).mono ?_;rintro e w6 ⟨rfl,hu6,Mm⟩;have ht6:=Pn.out.table hu6 (((ah.refl (UB a'.U k'.n) w5).drew).trans (S':=UB a'.U k'.n) Mm (fun _ _ h=>h));refine hK _ _ ?_;clear hK K;have Fe:KW w6 kp (jo (fB k' m) n) a':=ht6.1;have Wl:dB k'.n kp w5 a' w6 a':=ht6.2;have uV:=HX.out.ag Wl.ag We.out;have c0:=Fe.c0;have acC:=Fe.blk.lt;have x0:=uV.cell 0;have x1:=uV.cell 1;have x2:=uV.cell 2;have hxl:=uV.lt;simp at x0 x1 x2;have hm1:(1:Int)<m:=by omega
     have hfr:=wJ.out.iG;have hlim:=wJ.out.lim;have Xo:=wJ.out.cM;have hcnt:=wJ.out.cnt
     have hFR:=fun w' (hw:KW w' kp (jo (fB k' m) n) a')=>P8 (r:=m) hw.ar (by omega) (by
      show sD k'.ls m=0;unfold sD;rw[if_neg];rw[HRT.out]
      simp <;> omega) (by show -4000000<(k'.ac:Int);omega) (by show k'.fr.length≤_;omega)
     have uX:=Lib.hid hFR;have HK6:=Lib.hid Fe;have HG6:=Lib.hid Wl;have qK:=Lib.hid uV;clear hFR Fe Wl uV ht6 hu6 Mm HX Qi Pn c1 hUk hUX;go_wp2_with (fail)
     refine(uX.out _ HK6.out).mono ?_;rintro e w7 ⟨rfl,A2,C2,hA7,Aq,Xw⟩
     have ht7:=HK6.out.TV (ac:=k'.ac-1) (by
      have:(((k'.ac-1:Nat)):Int)=(k'.ac:Int)-1:=by omega
      rw[this]
      exact hA7) Aq Xw
     have Xu:KW w7 kp (kg (jo (fB k' m) n) m) { a' with A':=A2,C':=C2 }:=ht7.1;have wH:dB k'.n kp w6 a' w7 { a' with A':=A2,C':=C2 }:=ht7.2;have sK:=qK.out.ag wH.ag We.out;have x0:=sK.cell 0;have x1:=sK.cell 1;have x2:=sK.cell 2;have hxl:=sK.lt;simp at x0 x1 x2;have HK7:=Lib.hid Xu;have Jj:=Lib.hid wH;have Ld:=Lib.hid sK;clear Xu wH sK ht7 hA7 Aq Xw c0;go_upto_region 11 with fail
     refine aR 5 ?_;simp only[List.take_succ_cons,List.take_zero,List.drop_succ_cons,List.drop_zero];repeat (any_goals (first | go_big_quiet_step (fail) | quiet_step (fail)))
     refine wpQuiet_nil ?_;refine wpList_plain rfl fun K hK=>?_
     go_simp;refine hK _ _ ?_;clear hK K;refine aK fun wa dJ=>?_
     have hM:=av.new w7 28 #[.int .u32 n.lo,.int .u32 n.hi];have hsa:Same w7 wa:=by rw[dJ];exact(ah.refl _ _).alloc _
     rw[← dJ] at hM;clear dJ;have hbd:=wJ.out.bd;simp only[List.length_cons,List.length_append] at hbd;have hgo:dB k'.n kp wr a' wa { a' with A':=A2,C':=C2 } :=
      ((((Ew.out.2.trans (dB.same gH.out)).trans (dB.same nE.out)).trans HG6.out).trans Jj.out).trans (dB.same hsa)
     have hTF:∀ b,rowOf (some ⟨tb,0,none⟩:Option Addr) b→¬ iF k.n kp a' b:=Wi.out;have XD:∀ b,rowOf (some ⟨tb,0,none⟩:Option Addr) b→¬ iF k'.n kp a' b:=by rw[yF.out];exact hTF
     have Pp:=yG.out.ag hgo.ag (fun ad h=>XD _ ⟨ad,h,rfl⟩);have hka:=HK7.out.same hsa;have HKA:=Lib.hid hka;have BO:=Lib.hid hgo;clear hka hgo;refine wpList_plain rfl fun K hK=>?_
     refine Own.bS (f:=fun x=>[rc x]) (.tmp 57) (.tmp 62) _ rfl Tryz.underlying40 iP rfl (by omega) rfl Pp (fun _=>rfl) [n.lo,n.hi] (some ⟨w7.heap.size,0,none⟩) 2 rfl (fun _=>⟨_,rfl,uf (by simpa [rc] using hM)⟩) (by simp[Value.oneCell',rc]) (by simp[maxLen] <;> omega) (by simp <;> omega) ?_;intro A3 C3 wb Qj hgb hat;refine hK _ _ ?_;clear hK K;have rV:∀ b,rowOf (some ⟨tb,0,none⟩:Option Addr) b→¬ iF k.n kp { a' with A':=A2,C':=C2 } b:=by
      rw[← yF.out]
      exact BO.out.apart XD (by
       rintro b ⟨ad,hx,rfl⟩;injection hx with hx
       subst hx
       exact tbl)
     have rT:ah (fun b=>rowOf (some ⟨tb,0,none⟩:Option Addr) b) wa wb:=(ah.refl _ _).grown hgb (fun g hg=>.inl (af.1 hg));have hkb:=HKA.out.ag rT (fun b hb hr=>rV b hr (by rw[← yF.out];exact hb));have XE:dB k.n kp w a wb { a' with A':=A2,C':=C2 }:=by
      have h1:=BO.out;rw[yF.out] at h1;have h2:=XB.out.trans h1;exact⟨h2.ag.grown hgb (fun g hg=>.inr (Ml.out g (af.1 hg))),h2.fp⟩
     have XF:∀ b,rowOf A3 b→w.heap.size≤b:=by
      intro b hb;rcases hat b hb with h | h
      ·exact Ml.out b h
      ·have h1:=XB.out.ag.size;have h2:=BO.out.ag.size;omega
     have XG:∀ b,rowOf A3 b→¬ iF k.n kp { a' with A':=A2,C':=C2 } b:=by
      intro b hb hk;rcases hat b hb with h | h
      ·exact rV b h hk
      ·rw[← yF.out] at hk
       have:=HKA.out.lt hk
       omega
     have aaN:=Lib.hid XE;have aaO:=Lib.hid XF;have aaP:=Lib.hid XG;clear XE XF XG;have Sv:=Lib.hid Qj;have Lh:=Lib.hid hkb;clear Qj hgb rV rT hkb;go_wp2;go_roundw
     case rel =>
      refine⟨f,_,{ a' with A':=A2,C':=C2 },n.hi::n.lo::st,A3,C3,GL wJ.out Lg.out (by have:=HU.out;rw[Int.toNat_natCast,this];omega),?_,jv.out,yF.out,Xz.out,Lh.out,aaN.out,by simp,?_,aaP.out,aaO.out⟩
      ·have h1:=HF.out;have h2:=(gZ wJ.out.kn Lg.out).length_eq;have h3:=(wI Sq.out (n:=n) Lg.out).1;show 3*(jo (fB k' m) n).L.length+_≤_;rw[h3];show 3*(without n k'.L).length+_≤_;simp only[List.length_cons] at h1 h2 ⊢;omega
      ·have:=Sv.out
       simpa using this
     case measure =>
      have h1:=HM.out;have h2:=Lh.out.ar.blk.cell 3;have e:({ a' with A':=A2,C':=C2 }:KA).g=a.g:=Xz.out;rw[e] at h2;have h3:=wJ.out.cnt;rw[h1,h2];simp[lenOf,nC,GM,kg,jo,fB];omega
end
def XH (k:KS) (n:Nd):Option Int→Int×KS
 | some r=>(r,k)
 | none=>((aC k:Int),aT k n)
def dD (k:KS) (n:Nd):Int×KS:=if n.lo=n.hi then (n.lo,k) else XH k n (look k.L n)
section
variable {w:World} {kp:Nat} {k:KS} {a:KA} {ext:List Int} {X:List bP} {n:Nd}
theorem CQ (h:KW w kp k a) (hb:Bk k ext X) (hn:jO k n) (hc:n.lo≠n.hi→look k.L n=none→k.ac<k.c) :
  Calls Tryz.prog 99 #[.pointer (some ⟨kp,0,none⟩),.int .i64 n.v,.int .u32 n.lo,.int .u32 n.hi] w fun e w'=>e=.returned (.int .u32 (dD k n).1)∧∃ a',KW w' kp (dD k n).2 a'∧dB k.n kp w a w' a':=by
 by_cases he:n.lo=n.hi
 ·have e:dD k n=(n.lo,k):=by unfold dD;rw[if_pos he]
  rw[e];have Li:(n.lo == n.hi)=true:=by simpa using he
  have H:=Lib.hid h;clear e he h hc hb hn;go_enter Tryz.func99,Tryz.ntmps99;go_wp2;go_ret;exact⟨rfl,a,H.out,dB.refl _ _ _ _⟩
 ·have Li:(n.lo == n.hi)=false:=by simpa using he
  have hok:=hn.ok hb;have hfd:=fun w' (hw:KW w' kp k a)=>pY a.U _ _ n hok w' hw.ut
  have hlen:=hn.lt hb;have htk:=fun (hnone:look k.L n=none) w' (hw:KW w' kp k a)=>zm hw hb hn (hc he hnone) he (cB.1 hnone)
  obtain⟨l,hl⟩:∃ l,look k.L n=l:=⟨_,rfl⟩;have e:dD k n=XH k n l:=by unfold dD;rw[if_neg he,hl]
  rw[e];rw[hl] at hfd htk;have HFD:=Lib.hid hfd;have HTK:=Lib.hid htk;have H:=Lib.hid h;have hkl:=h.blk.lt;clear e he h hc hb hn hfd htk hl hok hlen;go_enter Tryz.func99,Tryz.ntmps99;go_upto_region 4 with fail
  refine ai fun w1 hw1=>?_
  have hX:=av.new w 37 #[.int .i64 n.v,.int .u32 n.lo,.int .u32 n.hi];have hs1:Same w w1:=by rw[hw1];exact(ah.refl _ _).alloc _
  rw[← hw1] at hX;clear hw1;have hk1:=H.out.same hs1;have c1:=hk1.c1;have Jk:=hk1.blk.lt;have x0:=hX.cell 0;have x1:=hX.cell 1;have x2:=hX.cell 2;have hxl:=hX.lt;simp at x0 x1 x2;have HX:=Lib.hid hX;have qx:=Lib.hid hk1;have aW:=Lib.hid hs1;clear hX hk1 hs1 hkl;refine aG (fun _=>False) [([0,1,2,3,4],5),([6,7,8,9],10)] (by kernel_rfl) (by kernel_rfl) ?_;simp only[di,pick,List.map_cons,List.map_nil,List.getD_cons_zero,List.getD_cons_succ];repeat (any_goals (first | go_big_quiet_step (fail) | quiet_step (fail)))
  refine wpQuiet_nil ?_;refine aa rfl fun K hK=>?_
  go_simp;refine(HFD.out _ (qx.out.same (ah.refl _ _).drew)).mono ?_;rintro e w2 ⟨rfl,hs2⟩;have kX:Same w1 w2:=(ah.refl _ _).drew.trans hs2 (fun _ _ h=>h);refine hK _ _ (aY.bz kX) ?_;clear hK K hs2;have hX2:=HX.out.ag kX id;have hk2:=qx.out.same kX;have HK2:=Lib.hid hk2;have HS2:=Lib.hid kX;have x0:=hX2.cell 0;have x1:=hX2.cell 1;have x2:=hX2.cell 2;have XJ:=hX2.lt;simp at x0 x1 x2;clear hX2 hk2 kX HX qx HFD;have HG:Hid (dB k.n kp w a w2 a):=Lib.hid ((dB.same aW.out).trans (dB.same HS2.out));cases l with
  | some r =>
   repeat (any_goals (first | go_big_quiet_step (fail) | quiet_step (fail)))
   refine wpQuiet_nil ?_;go_wp2;go_ret;exact⟨rfl,a,HK2.out,HG.out⟩
  | none =>
   repeat (any_goals (first | go_big_quiet_step (fail) | quiet_step (fail)))
   refine wpQuiet_nil ?_;go_wp2_with (fail)
   refine(HTK.out trivial _ HK2.out).mono ?_;rintro e w3 ⟨rfl,a3,hk3,hg3⟩;have GI:=Lib.hid hk3;have CL:=Lib.hid (HG.out.trans hg3);clear hk3 hg3;go_wp2;go_ret;exact⟨rfl,a3,GI.out,CL.out⟩
end
def o5 (k:KS) (r:Int) (n:Nd):KS:={ k with ls:=k.ls.set r.toNat ⟨n,true,0⟩ }
section
variable {w:World} {kp:Nat} {k:KS} {a:KA} {ext:List Int} {X:List bP} {n:Nd}
theorem CR (h:KW w kp k a) (hn:n.ok) :
  Calls Tryz.prog 95 #[.pointer (some ⟨a.U.T,0,none⟩),n.val] w fun e w'=>e=.returned (.int .i64 (Jd k.n k.L n))∧KW w' kp (jo k n) a∧dB k.n kp w a w' a∧ah (UB a.U k.n) w w':=by
 refine(zg a.U _ _ n hn w h.ut).mono ?_;rintro e w' ⟨rfl,hu,hf⟩;obtain⟨g1,g2⟩:=h.table hu hf;exact⟨rfl,g1,g2,hf⟩
theorem Mo (h:KW w kp k a) (hn:n.ok) (r:Int) (h0:0≤r) (h1:r<4294967296) (hl:k.L.length<maxLen) :
  Calls Tryz.prog 93 #[.pointer (some ⟨a.U.T,0,none⟩),n.val,.int .u32 r] w fun e w'=>e=.returned (.int .i64 (Qa k.n k.L n))∧KW w' kp (qH k n r) a∧dB k.n kp w a w' a∧ah (UB a.U k.n) w w':=by
 have hrw:(Lit.int .u32 r).wf=true:=by simp[Lit.wf,IntKind.min,IntKind.max,IntKind.signed,IntKind.bits] <;> omega
 refine(ze a.U _ _ n hn r hrw hl w h.ut).mono ?_;rintro e w' ⟨rfl,hu,hf⟩;obtain⟨g1,g2⟩:=h.table hu hf;exact⟨rfl,g1,g2,hf⟩
theorem Mq (h:KW w kp k a) (hb:Bk k ext X) (hn:jO k n) {m:Nat} (h2:2≤m) {n0:Nd} (hm:k.ls[m]?=some ⟨n0,true,0⟩) :
  Calls Tryz.prog 100 #[.pointer (some ⟨a.g,0,none⟩),.int .u32 m,n.val] w fun e w'=>e=.returned (.int .i64 0)∧KW w' kp (o5 k m n) a∧dB k.n kp w a w' a∧ah (rR a.g a.A a.A') w w':=by
 have hlt:=hn.lt hb;have hml:=aQ hm;have hlim:=hb.lim;have Xo:=hb.cM;have hl0:=hn.l0;have hh0:=hn.h0;have htk:tk k.ls (m:Int)=true:=ko.2 ⟨_,hm,rfl⟩;have how:sD k.ls (m:Int)=0:=by
  unfold sD;rw[if_neg (by rw[htk];simp <;> omega)]
 refine(TS h.ar n (by omega) hl0 (by omega) hh0 (by omega) (hn.ck hb) how hm).mono ?_;rintro e w' ⟨rfl,hA,hf⟩;obtain⟨g1,g2⟩:=h.arena (ac:=k.ac) (A2:=a.A) (C2:=a.C) hA hf (fun b hb=>.inl hb);exact⟨rfl,by simpa [o5] using g1,g2,hf⟩
theorem KW.GN (h:KW w kp k a) {sb i:Nat} (hA:a.oA=some ⟨sb,0,none⟩) (hi:i<k.ord.length) (x:Int) :
  KW (w.setCell ⟨sb,i,none⟩ (.int .i64 x)) kp { k with ord:=k.ord.set i x } a∧dB k.n kp w a (w.setCell ⟨sb,i,none⟩ (.int .i64 x)) a:=by
 have hne:kp≠sb:=by
  intro he;exact h.dj 0 9 kp (by omega) rfl ⟨_,hA,he.symm⟩
 have hr:=h.ord;rw[hA] at hr;have hp:gm (w.setCell ⟨sb,i,none⟩ (.int .i64 x)) 3 (some ⟨sb,0,none⟩) k.ord.length a.oC (k.ord.set i x):=Go.Tk.Own.kS (c:=fun x=>Value.int .i64 x) hr hi x;have hb:av (w.setCell ⟨sb,i,none⟩ (.int .i64 x)) kp 100 (dw k a):=h.blk.far (p:=⟨sb,i,none⟩) hne _
 have:=h.EZ (w':=w.setCell ⟨sb,i,none⟩ (.int .i64 x)) (r:=k.ord.set i x) (A2:=a.oA) (C2:=a.oC) ((ah.refl _ w).setCell (p:=⟨sb,i,none⟩) (.inl (.inr ⟨_,hA,rfl⟩)) _)
  (by simpa [dw] using hb) (by rw[hA,List.length_set];exact hp) (fun b hb=>.inl hb)
 exact this
theorem KW.GR (h:KW w kp k a) {sb i:Nat} (hA:a.lA=some ⟨sb,0,none⟩) (hi:i<k.dN.length) (x:Int) :
  KW (w.setCell ⟨sb,i,none⟩ (.int .i64 x)) kp { k with dN:=k.dN.set i x } a∧dB k.n kp w a (w.setCell ⟨sb,i,none⟩ (.int .i64 x)) a:=by
 have hne:kp≠sb:=by
  intro he;exact h.dj 0 10 kp (by omega) rfl ⟨_,hA,he.symm⟩
 have hr:=h.dN;rw[hA] at hr;have hp:gm (w.setCell ⟨sb,i,none⟩ (.int .i64 x)) 3 (some ⟨sb,0,none⟩) k.dN.length a.lC (k.dN.set i x):=Go.Tk.Own.kS (c:=fun x=>Value.int .i64 x) hr hi x;have hb:av (w.setCell ⟨sb,i,none⟩ (.int .i64 x)) kp 100 (dw k a):=h.blk.far (p:=⟨sb,i,none⟩) hne _
 have:=h.TY (w':=w.setCell ⟨sb,i,none⟩ (.int .i64 x)) (r:=k.dN.set i x) (A2:=a.lA) (C2:=a.lC) ((ah.refl _ w).setCell (p:=⟨sb,i,none⟩) (.inl (.inr ⟨_,hA,rfl⟩)) _)
  (by simpa [dw] using hb) (by rw[hA,List.length_set];exact hp) (fun b hb=>.inl hb)
 exact this
end
end Go.Proofs.YtiomgckodmecbaaGreat
namespace Go.Proofs.YtiomgckodmecbaaGreat
open Go.RowKit Go.Tk Go.Maps
theorem Wm (vars:Int) (h:¬ (1≤vars∧vars≤64)) (w:World):Calls Tryz.prog 52 #[.int .i64 vars] w fun e w'=>e=.returned (.tuple #[.pointer none,.int .i64 1])∧w'=w:=by
 rcases Int.lt_or_le vars 1 with h1 | h1
 ·clear h;go_enter Tryz.func52,Tryz.ntmps52;go_wp2;go_ret2;exact⟨rfl,rfl⟩
 ·have h3:¬ vars<1:=by omega
  have h2:64<vars:=by omega
  clear h;go_enter Tryz.func52,Tryz.ntmps52;go_wp2;go_ret2;exact⟨rfl,rfl⟩
theorem Jl:(Tryz.prog.info? 132).map (fun i=>(i.zero,i.size,i.bytes))=some (some (.map none),1,8):=by kernel_rfl
structure UTp (w0 w:World) (U:nk) (n k:Nat):Prop where
 same:Same w0 w
 t:av w U.T 131 #[.slice (some ⟨U.sb,0,none⟩) n n]
 s:∃ cs,av w U.sb 132 cs∧cs.size=n∧∀ v,v<k→cs[v]?=some (.map (some (U.mb v)))
 m:∀ v,v<k→NM 28 .u32 w (U.mb v) []
 inj:∀ u v,u<k→v<k→U.mb u=U.mb v→u=v
 fT:w0.heap.size≤U.T
 fs:w0.heap.size≤U.sb
 fm:∀ v,v<k→w0.heap.size≤U.mb v∧U.T<U.mb v∧U.sb<U.mb v
theorem Mr {w w1:World} {T sb n k:Nat} {mb:Nat→Nat} (h:UTp w w1 ⟨T,sb,mb⟩ n k) (hk:k<n):UTp w ((w1.setCell ⟨sb,k,none⟩ (.map (some w1.heap.size))).alloc (.map #[] 0)) ⟨T,sb,fun v=>if v=k then w1.heap.size else mb v⟩ n (k+1):=by
 obtain⟨cs,hB,hcs,hck⟩:=h.s;have hTl:T<w1.heap.size:=h.t.lt;have hSl:sb<w1.heap.size:=hB.lt;have hne:sb≠T:=fun e=>by
  have h1:=h.t;simp only at h1 hB;rw[← e] at h1
  have:=(hB.inj h1).1
  revert this
  decide
 have hf:ah (fun x=>x=sb) w1 ((w1.setCell ⟨sb,k,none⟩ (.map (some w1.heap.size))).alloc (.map #[] 0)):=((ah.refl (fun x=>x=sb) w1).set k _ rfl).alloc _;refine⟨h.same.trans hf (fun i hi (e:i=sb)=>by have:=h.fs;simp only at this;omega),h.t.ag hf (fun e=>hne e.symm),⟨_,(hB.set k (.map (some w1.heap.size))).alloc _,by simp[hcs],fun v hv=>?_⟩,fun v hv=>?_,fun u v hu hv e=>?_,h.fT,h.fs,fun v hv=>?_⟩
 ·by_cases e:v=k
  ·subst e;simp[hcs,hk]
  ·rw[Array.getElem?_setIfInBounds_ne (fun e2=>e e2.symm)];simp only[if_neg e];exact hck v (by omega)
 ·by_cases e:v=k
  ·simp only[if_pos e]
   have:=NM.made 28 .u32 (w1.setCell ⟨sb,k,none⟩ (.map (some w1.heap.size)))
   rwa [size_setCell] at this
  ·simp only[if_neg e];refine(h.m v (by omega)).ag hf (fun e2=>?_)
   have:=(h.fm v (by omega)).2.2
   simp only at this e2;omega
 ·have lv:=fun x (hx:x<k)=>(h.m x hx).lt
  simp only at e lv;by_cases e1:u=k <;> by_cases e2:v=k
  ·rw[e1,e2]
  ·rw[if_pos e1,if_neg e2] at e;have:=lv v (by omega);omega
  ·rw[if_neg e1,if_pos e2] at e;have:=lv u (by omega);omega
  ·rw[if_neg e1,if_neg e2] at e;exact h.inj u v (by omega) (by omega) e
 ·by_cases e:v=k
  ·simp only[if_pos e];exact⟨h.same.size,hTl,hSl⟩
  ·simp only[if_neg e];exact h.fm v (by omega)
theorem Jm (n:Nat) (h1:1≤n) (h2:n≤64) (w:World) :
  Calls Tryz.prog 52 #[.int .i64 n] w fun e w'=>∃ U,e=.returned (.tuple #[.pointer (some ⟨U.T,0,none⟩),.int .i64 0])∧Same w w'∧UT w' U n []∧w.heap.size≤U.T∧w.heap.size≤U.sb∧∀ v,v<n→w.heap.size≤U.mb v:=by
 have h3:¬ (n:Int)<1:=by omega
 have h4:¬ (64:Int)<n:=by omega
 have hmk:=fun w=>eU (P:=Tryz.prog) Tryz.underlying129 Jl .i64 .i64 n (by omega) (by omega) w
 have hmm:=@run_makeMap Tryz.prog;go_enter Tryz.func52,Tryz.ntmps52;go_upto_region 4 with fail
 refine ai fun w1 hw1=>?_
 have hs1:Same w w1:=by rw[hw1];exact((ah.refl _ _).alloc _).alloc _
 have hT:av w1 (w.heap.size+1) 131 #[.slice (some ⟨w.heap.size,0,none⟩) n n]:=by
  rw[hw1]
  have:=av.new (w.alloc (.cells (madeCells #[.map none] n) 132)) 131 #[.slice (some ⟨w.heap.size,0,none⟩) n n]
  rwa [World.size_alloc] at this
 have hS:av w1 w.heap.size 132 (madeCells #[.map none] n):=by rw[hw1];exact(av.new _ _ _).alloc _
 have hsz:(madeCells #[.map none] n).size=n:=by simp[madeCells]
 have h0:=Lib.hid (show UTp w w1 ⟨w.heap.size+1,w.heap.size,fun _=>0⟩ n 0 from⟨hs1,hT,⟨_,hS,hsz,fun v hv=>absurd hv (Nat.not_lt_zero v)⟩,fun v hv=>absurd hv (Nat.not_lt_zero v),fun u v hu=>absurd hu (Nat.not_lt_zero u),Nat.le_succ _,Nat.le_refl _,fun v hv=>absurd hv (Nat.not_lt_zero v)⟩);clear hs1 hT hS hsz hw1 hmk;obtain⟨T,hT⟩:∃ T,T=w.heap.size+1:=⟨_,rfl⟩;obtain⟨sb,hsb⟩:∃ T,T=w.heap.size:=⟨_,rfl⟩;rw[← hT,← hsb] at h0 ⊢;clear hT hsb;go_wp2;go_loopw [17] (fun i wr=>∃ (k:Nat) (mb:Nat→Nat),i=.int .i64 k∧k≤n∧UTp w wr ⟨T,sb,mb⟩ n k) (fun i _=>n-(intOf i).toNat)
 case atStart=>exact⟨0,_,rfl,Nat.zero_le _,h0.out⟩
 case round =>
  clear h0;obtain⟨k,mb,rfl,hk,hp⟩:=hrel;by_cases hlt:k<n
  ·have hk0:(0:Int)≤k:=by omega
   have hk1:(k:Int)<n:=by omega
   have HP:=Lib.hid hp;have cT:wr.cell? ⟨T,0,none⟩=some (.slice (some ⟨sb,0,none⟩) n n):=hp.t.cell 0;have lT:T<wr.heap.size:=hp.t.lt;obtain⟨cs,hB,hcs,hck⟩:=hp.s;simp only at hB;have lS:sb<wr.heap.size:=hB.lt;have fS:wr.frozen? ⟨sb,k,none⟩=false:=hB.free k;obtain⟨u,hu⟩:∃ u,cs[k]?=some u:=⟨_,Array.getElem?_eq_getElem (by rw[hcs];exact hlt)⟩;have cS:wr.cell? ⟨sb,k,none⟩=some u:=(hB.cell k).trans hu;have HB:=Lib.hid hB;have HC:=Lib.hid hck;have Ms:=Lib.hid hcs;clear hB hcs hck hu hp;go_wp2;go_roundw
   case rel=>exact⟨k+1,_,by go_num,hlt,Mr HP.out hlt⟩
   case measure=>simp[intOf] <;> omega
  ·obtain rfl:k=n:=by omega
   obtain⟨cs,hB,hcs,hck⟩:=hp.s;have hU:UT wr ⟨T,sb,mb⟩ k []:=⟨⟨h1,h2⟩,hp.t,fun v hv=>(hB.cell v).trans (hck v hv),hB.lt,fun v hv=>hp.m v hv,hp.inj,fun v hv=>⟨Nat.ne_of_gt (hp.fm v hv).2.1,Nat.ne_of_gt (hp.fm v hv).2.2⟩,by simp,List.nodup_nil⟩;have HU:=Lib.hid hU;have HP:=Lib.hid hp;clear hU hp hB hcs hck;go_wp2;go_ret2;exact⟨⟨T,sb,mb⟩,rfl,HP.out.same,HU.out,HP.out.fT,HP.out.fs,fun v hv=>(HP.out.fm v hv).1⟩
end Go.Proofs.YtiomgckodmecbaaGreat
namespace Go.Proofs.YtiomgckodmecbaaGreat
open Go.RowKit Go.Sort Go.Shelf
def Tryz.Jn:Go.Shelf.Ren:=⟨fun | 5=>136 | 8=>141 | 7=>140 | 19=>152 | 20=>153 | 10=>143 | 11=>144 | 12=>145 | 13=>146 | 14=>147 | 15=>148 | 16=>149 | 17=>150 | 18=>151 | 30=>154 | 31=>155 | 32=>156 | 33=>157 | 34=>158 | 35=>159 | 40=>160 | n=>n,fun | 23=>40 | 25=>28 | 3=>3 | 32=>183 | 22=>40 | 0=>0 | 44=>27 | 46=>123 | 4=>4 | 36=>192 | 35=>191 | 41=>197 | 5=>5 | 9=>9 | 53=>201 | 57=>205 | 63=>207 | 64=>118 | n=>n,fun | n=>n⟩
theorem Tryz.Sw:Go.Proofs.YtiomgckodmecbaaGreat.bn.n5 Tryz.prog Tryz.Jn:={
 mixed:=by kernel_rfl
 f5:=⟨Tryz.f136.name,by decide,Tryz.func136.trans (congrArg some (by kernel_rfl))⟩
 f7:=⟨Tryz.f140.name,by decide,Tryz.func140.trans (congrArg some (by kernel_rfl))⟩
 f8:=Tryz.func141.trans (congrArg some (by kernel_rfl))
 f10:=⟨Tryz.f143.name,by decide,Tryz.func143.trans (congrArg some (by kernel_rfl))⟩
 f11:=⟨Tryz.f144.name,by decide,Tryz.func144.trans (congrArg some (by kernel_rfl))⟩
 f12:=⟨Tryz.f145.name,by decide,Tryz.func145.trans (congrArg some (by kernel_rfl))⟩
 f13:=⟨Tryz.f146.name,by decide,Tryz.func146.trans (congrArg some (by kernel_rfl))⟩
 f14:=⟨Tryz.f147.name,by decide,Tryz.func147.trans (congrArg some (by kernel_rfl))⟩
 f15:=⟨Tryz.f148.name,by decide,Tryz.func148.trans (congrArg some (by kernel_rfl))⟩
 f16:=⟨Tryz.f149.name,by decide,Tryz.func149.trans (congrArg some (by kernel_rfl))⟩
 f17:=⟨Tryz.f150.name,by decide,Tryz.func150.trans (congrArg some (by kernel_rfl))⟩
 f18:=⟨Tryz.f151.name,by decide,Tryz.func151.trans (congrArg some (by kernel_rfl))⟩
 f19:=Tryz.func152.trans (congrArg some (by kernel_rfl))
 f20:=Tryz.func153.trans (congrArg some (by kernel_rfl))
 f30:=⟨Tryz.f154.name,by decide,Tryz.func154.trans (congrArg some (by kernel_rfl))⟩
 f31:=Tryz.func155.trans (congrArg some (by kernel_rfl))
 f32:=Tryz.func156.trans (congrArg some (by kernel_rfl))
 f33:=⟨Tryz.f157.name,by decide,Tryz.func157.trans (congrArg some (by kernel_rfl))⟩
 f34:=⟨Tryz.f158.name,by decide,Tryz.func158.trans (congrArg some (by kernel_rfl))⟩
 f35:=⟨Tryz.f159.name,by decide,Tryz.func159.trans (congrArg some (by kernel_rfl))⟩
 f40:=⟨Tryz.f160.name,by decide,Tryz.func160.trans (congrArg some (by kernel_rfl))⟩
 t0:=Tryz.underlying0
 a0:=Tryz.isAgg0
 z0:=Tryz.sizeOf0
 v0:=Tryz.zeroValue0
 t3:=Tryz.underlying3
 a3:=Tryz.isAgg3
 z3:=Tryz.sizeOf3
 v3:=Tryz.zeroValue3
 t4:=Tryz.underlying4
 a4:=Tryz.isAgg4
 z4:=Tryz.sizeOf4
 v4:=Tryz.zeroValue4
 t5:=Tryz.underlying5
 a5:=Tryz.isAgg5
 z5:=Tryz.sizeOf5
 v5:=Tryz.zeroValue5
 t9:=Tryz.underlying9
 a9:=Tryz.isAgg9
 z9:=Tryz.sizeOf9
 v9:=Tryz.zeroValue9
 t22:=Tryz.underlying40
 a22:=Tryz.isAgg40
 z22:=Tryz.sizeOf40
 v22:=Tryz.zeroValue40
 t23:=Tryz.underlying40
 a23:=Tryz.isAgg40
 z23:=Tryz.sizeOf40
 v23:=Tryz.zeroValue40
 t25:=Tryz.underlying28
 a25:=Tryz.isAgg28
 z25:=Tryz.sizeOf28
 v25:=Tryz.zeroValue28
 t32:=Tryz.underlying183
 a32:=Tryz.isAgg183
 z32:=Tryz.sizeOf183
 v32:=Tryz.zeroValue183
 t35:=Tryz.underlying191
 a35:=Tryz.isAgg191
 z35:=Tryz.sizeOf191
 v35:=Tryz.zeroValue191
 t36:=Tryz.underlying192
 a36:=Tryz.isAgg192
 z36:=Tryz.sizeOf192
 v36:=Tryz.zeroValue192
 t41:=Tryz.underlying197
 a41:=Tryz.isAgg197
 z41:=Tryz.sizeOf197
 v41:=Tryz.zeroValue197
 t44:=Tryz.underlying27
 a44:=Tryz.isAgg27
 z44:=Tryz.sizeOf27
 v44:=Tryz.zeroValue27
 t46:=Tryz.underlying123
 a46:=Tryz.isAgg123
 z46:=Tryz.sizeOf123
 v46:=Tryz.zeroValue123
 t53:=Tryz.underlying201
 a53:=Tryz.isAgg201
 z53:=Tryz.sizeOf201
 v53:=Tryz.zeroValue201
 t57:=Tryz.underlying205
 a57:=Tryz.isAgg205
 z57:=Tryz.sizeOf205
 v57:=Tryz.zeroValue205
 t63:=Tryz.underlying207
 a63:=Tryz.isAgg207
 z63:=Tryz.sizeOf207
 v63:=Tryz.zeroValue207
 t64:=Tryz.underlying118
 a64:=Tryz.isAgg118
 z64:=Tryz.sizeOf118
 v64:=Tryz.zeroValue118 }
end Go.Proofs.YtiomgckodmecbaaGreat
namespace Go.Proofs.YtiomgckodmecbaaGreat
open Go.RowKit Go.Tk Go.Maps Go.Sort Go.Shelf
structure qL (D:DataW Unit) (left:Lit→Bool) (ps:List bP):Prop where
 nd:(keys ps).Nodup
 mem:∀ n:Nd,n.ok→(n∈keys ps↔Maps.has D n.key=true∧left n.key=false)
 val:∀ p∈ps,p.1.ok∧∀ zd,D.atKey p.1.key zd=.lit (.int .u32 p.2)
theorem qL.start (D:DataW Unit):qL D (Maps.has D) []:=⟨List.nodup_nil,fun n _=>by cases Maps.has D n.key <;> simp[keys],by simp⟩
theorem qL.step {D:DataW Unit} {left:Lit→Bool} {ps:List bP} (h:qL D left ps) {n:Nd} {c:Int} (hn:n.ok) (hlk:left n.key=true) (hat:∀ zd,D.atKey n.key zd=.lit (.int .u32 c)):qL D (fun z=>left z&&!z.sameKey n.key) (ps++[(n,c)]):=by
 have hhas:Maps.has D n.key=true:=has_true_of_atKey hat;have hnew:n∉keys ps:=fun hx=>by have:=((h.mem n hn).1 hx).2;rw[hlk] at this;cases this
 have hk:keys (ps++[(n,c)])=keys ps++[n]:=by simp[keys]
 refine⟨?_,fun m hm=>?_,fun p hp=>?_⟩
 ·rw[hk,List.nodup_append];exact⟨h.nd,by simp,fun a ha b hb e=>hnew (by simp at hb;rw[← hb,← e];exact ha)⟩
 ·rw[hk,List.mem_append,List.mem_singleton];by_cases e:m=n
  ·subst e;have hsk:m.key.sameKey m.key=true:=by simp[Nd.key,Lit.sameKey]
   rw[hsk,hhas];simp
  ·rw[sameKey_ne (fun e2=>e (lY hm hn e2)),h.mem m hm];simp[e]
 ·rcases List.mem_append.1 hp with hp | hp
  ·exact h.val p hp
  ·obtain rfl:=List.mem_singleton.1 hp;exact⟨hn,hat⟩
theorem pF {L:List bP} (h:(keys L).Nodup):L.Nodup:=by
 induction L with
 | nil=>exact List.nodup_nil
 | cons a L ih =>
  obtain⟨h1,h2⟩:=List.nodup_cons.1 (show(a.1::keys L).Nodup from h);exact List.nodup_cons.2 ⟨fun hm=>h1 (List.mem_map_of_mem hm),ih h2⟩
theorem qL.perm {D:DataW Unit} {left:Lit→Bool} {ps L:List bP} (h:qL D left ps) (hr:pX .u32 D L) (hl:∀ kl,left kl=false):ps.Perm L:=by
 refine(List.perm_ext_iff_of_nodup (pF h.nd) (pF hr.nd)).2 fun p=>⟨fun hp=>?_,fun hp=>?_⟩
 ·obtain⟨h1,h2⟩:=h.val p hp;have hk:=((h.mem p.1 h1).1 (List.mem_map_of_mem hp)).1;obtain⟨r,hm⟩:=mem_keys.1 ((hr.dom p.1 h1).1 hk);have h3:=hr.val _ hm (.lit (.int .u32 0));rw[h2] at h3
  have:=kU h3
  rw[show p=(p.1,p.2) from rfl,this];exact hm
 ·obtain⟨h1,h2⟩:=hr.ok p hp;have hk:=(hr.dom p.1 h1).2 (List.mem_map_of_mem hp);obtain⟨r,hm⟩:=mem_keys.1 ((h.mem p.1 h1).2 ⟨hk,hl _⟩);have h3:=(h.val _ hm).2 (.lit (.int .u32 0));rw[hr.val p hp] at h3
  have:=kU h3
  rw[show p=(p.1,p.2) from rfl,this];exact hm
theorem Mt (F:Fence) (n:Nat) (h8:F.fn 137) (hro:F.round=none) (hn:1≤n) (l Bm b:Nat) (L:List bP) (J:List Int→World→Prop)
  (hY:∀ pre x W,J pre W→pre.length<L.length→YieldAt F (n-1) Tryz.prog l #[.int .u32 x] W fun e W'=>e=.returned (.bool true)∧J (pre++[x]) W'∧KeepsWalks W W')
  (W:World) (hJ:AbidesFrom W.heap.size J) (hm:W.cell? ⟨Bm,0,none⟩=some (.map (some b))) (hown:NM 28 .u32 W b L) (h0:J [] W) :
  CallsIn F n Tryz.prog 137 #[.func (.yield l) #[] #[],.pointer (some ⟨Bm,0,none⟩)] W fun e W'=>(∃ v,e=.returned v)∧∃ ps:List bP,ps.Perm L∧J (ps.map (·.2)) W':=by
 obtain⟨D0,hown,Sy⟩:=hown;have hsz:Maps.size D0=L.length:=Sy.size;rw[← hsz] at hY;clear hsz;refine callsIn_of_wp Tryz.func137 rfl h8 ?_ hro;simp only[Tryz.ntmps137,List.size_toArray,List.length_cons,List.length_nil,Nat.reduceAdd,Nat.reduceSub,Array.replicate_succ,Array.replicate_zero,List.push_toArray,List.append_toArray,List.nil_append,List.cons_append]
 gi_wp2_with (first
  | (gi_at_range;refine wpListIn_range_own _ rfl _ 132 rfl 37 28 KN Tryz.underlying132 _ b _ _ rfl hown ?_;intro w0 hrg0 hg0 hs0)
  | gi_in)
 go_frame
 gi_loopw [4] (fun _ wr=>∃ (left:Lit→Bool) (cnt:Nat) (ps:List bP),wr.ranges Tryz.prog 37 (P9 28) b W.heap.size L.length D0 left cnt∧ps.length+cnt≤Maps.size D0∧qL D0 left ps∧J (ps.map (·.2)) wr)
  (fun _ wr=>wr.rangeLeft b W.heap.size)
 case atStart =>
  exact⟨_,_,[],hrg0,by simp,qL.start D0,hJ [] W w0 none h0 hg0 (fun r e=>by cases e)⟩
 case round =>
  obtain⟨left,cnt,ps,hrg,hcs,hC,hJs⟩:=hrel
  gi_wp2_with (first
   | (gi_at_next;refine wpListIn_next_ranges _ rfl _ rfl 37 KN (P9 28) Nd.val (Value.int .u32) (fun key kl hk=>by obtain⟨x,_,hx,_⟩:=wm hk;exact⟨x,hx⟩) (fun v y hv=>by obtain⟨c,rfl,_⟩:=plainElem_int_inv Tryz.underlying28 hv;exact⟨c,rfl⟩) b W.heap.size L.length _ _ _ rfl hrg ?_ ?_)
   | gi_in)
  ·intro hc0 hl0
   gi_wp2
   go_end0
   exact⟨⟨_,rfl⟩,ps,hC.perm Sy hl0,hJs⟩
  ·intro x c kl yd yp w2 cnt2 hkey hlk hv hat hrg2 hlt hg2 hs2 hen;obtain⟨x',hxo,ex,rfl⟩:=wm hkey;obtain rfl:x=x':=by cases x;cases x';simpa [Nd.val] using ex
   obtain⟨c',ec,ez,_⟩:=plainElem_int_inv Tryz.underlying28 hv;obtain rfl:c=c':=by simpa using ec
   obtain rfl:yd=.lit (.int .u32 c):=(Prod.mk.inj ez).1;have hJ2:J (ps.map (·.2)) w2:=hJ _ wr w2 (some W.heap.size) hJs hg2 (fun r e=>by cases e;exact⟨Nat.le_refl _,hrg.iter_walk⟩);obtain⟨fn,tmps,assign,body,hy,hR⟩:=hY (ps.map (·.2)) c w2 hJ2 (by simp <;> omega);clear hs2
   gi_wp2
   refine hR.mono ?_;have hC2:=hC.step hxo hlk hat;rintro e W3 ⟨rfl,hJ3,hk3⟩
   gi_wp2
   have hrg3:=hrg2.of_walks hk3;go_roundw
   case rel=>exact⟨_,cnt2,ps++[(x,c)],hrg3,by simp <;> omega,hC2,by simpa using hJ3⟩
   case measure=>rw[hrg3.left_eq,hrg.left_eq];exact hlt
end Go.Proofs.YtiomgckodmecbaaGreat
namespace Go.Proofs.YtiomgckodmecbaaGreat
open Go.RowKit Go.Sort Go.Shelf
def Tryz.um:Go.Shelf.Ren:=⟨fun | 6=>131 | 8=>135 | 9=>136 | 11=>139 | 13=>141 | 12=>140 | 23=>152 | 24=>153 | 14=>143 | 15=>144 | 16=>145 | 17=>146 | 18=>147 | 19=>148 | 20=>149 | 21=>150 | 22=>151 | 25=>154 | 26=>155 | 27=>156 | 28=>157 | 29=>158 | 30=>159 | 31=>160 | n=>n,fun | 26=>28 | 28=>179 | 24=>40 | 0=>0 | 3=>3 | 37=>183 | 48=>27 | 50=>123 | 4=>4 | 40=>192 | 39=>191 | 45=>197 | 5=>5 | 9=>9 | 51=>201 | 55=>205 | 57=>207 | 58=>118 | 33=>103 | n=>n,fun | n=>n⟩
theorem Tryz.Qk:Go.Proofs.YtiomgckodmecbaaGreat.vR.n6 Tryz.prog Tryz.um:={
 mixed:=by kernel_rfl
 f6:=⟨Tryz.f131.name,by decide,Tryz.func131.trans (congrArg some (by kernel_rfl))⟩
 f8:=⟨Tryz.f135.name,by decide,Tryz.func135.trans (congrArg some (by kernel_rfl))⟩
 f11:=⟨Tryz.f139.name,by decide,Tryz.func139.trans (congrArg some (by kernel_rfl))⟩
 t0:=Tryz.underlying0
 a0:=Tryz.isAgg0
 z0:=Tryz.sizeOf0
 v0:=Tryz.zeroValue0
 t24:=Tryz.underlying40
 a24:=Tryz.isAgg40
 z24:=Tryz.sizeOf40
 v24:=Tryz.zeroValue40
 t26:=Tryz.underlying28
 a26:=Tryz.isAgg28
 z26:=Tryz.sizeOf28
 v26:=Tryz.zeroValue28
 t28:=Tryz.underlying179
 a28:=Tryz.isAgg179
 z28:=Tryz.sizeOf179
 v28:=Tryz.zeroValue179
 i26:=by kernel_rfl }
end Go.Proofs.YtiomgckodmecbaaGreat
namespace Go.Proofs.YtiomgckodmecbaaGreat
open Go.RowKit Go.Tk Go.Maps Go.Sort Go.Shelf
theorem Ff (F:Fence) (n:Nat) (h8:F.fn 137) (hro:F.round=none) (hn:1≤n) (Bm b:Nat) (L:List bP) (w:World) (hBm:Bm<w.heap.size) (hm:w.cell? ⟨Bm,0,none⟩=some (.map (some b))) (hown:NM 28 .u32 w b L) :
    SeqGives F n Tryz.prog 137 #[.pointer (some ⟨Bm,0,none⟩)] aJ (fun ss=>∃ ps:List bP,ps.Perm L∧ss=ps.map (·.2)) L.length w:=fun l J W hW hJ hY h0=>by
  have hown':NM 28 .u32 W b L:=by
    have hbl:=hown.lt;obtain⟨D,h1,h2⟩:=hown;obtain⟨es,clock,hb,Ft,hs,hD⟩:=h1;exact⟨D,⟨es,clock,(hW.block b hbl).trans hb,Ft,hs,hD⟩,h2⟩
  refine(Mt F n h8 hro hn l Bm b L J hY W hJ ((hW.cell (p:=⟨Bm,0,none⟩) hBm).trans hm) hown' h0).mono ?_;rintro e W' ⟨hv,ps,hp,hJ'⟩;exact⟨hv,_,⟨ps,hp,rfl⟩,hJ'⟩
theorem Ql (F:Fence) (n:Nat) (hf:F.fn 132) (hro:F.round=none) (mb:Option Nat) (w:World) :
    CallsIn F n Tryz.prog 132 #[.map mb] w fun e w'=>e=.returned (.func (.func 137) #[] #[.pointer (some ⟨w.heap.size,0,none⟩)])∧w'=w.alloc (.cells #[.map mb] 132):=by
  refine callsIn_of_wp Tryz.func132 rfl hf ?_ hro;simp only[Tryz.ntmps132,List.size_toArray,List.length_cons,List.length_nil,Nat.reduceAdd,Nat.reduceSub,Array.replicate_succ,Array.replicate_zero,List.push_toArray,List.append_toArray,List.nil_append,List.cons_append]
  gi_wp2
  go_ret;exact⟨rfl,rfl⟩
theorem Ud (m:Nat):bY.SortsIn Tryz.prog Tryz.um Fence.wide m :=
  ⟨fun blk off cap ss W hH hblk hsz=>callsIn_wide.2 (TG.slices_Sort_int Tryz.Sw blk off cap ss W hH hblk hsz),
   fun p cap W=>callsIn_wide.2 (TG.slices_Sort_int_none Tryz.Sw p cap W)⟩
def rising (L:List bP):List Int:=(L.map (·.2)).mergeSort fun x y=>decide (x≤y)
theorem CS {L L':List bP} (h:L.Perm L'):rising L=rising L':=by
  unfold rising;have tr:∀ a b c:Int,decide (a≤b)=true→decide (b≤c)=true→decide (a≤c)=true:=by
    intro a b c h1 h2;simp at h1 h2 ⊢;omega
  have tot:∀ a b:Int,(decide (a≤b)||decide (b≤a))=true:=by
    intro a b;simp <;> omega
  refine List.Perm.eq_of_pairwise (le:=fun a b=>decide (a≤b)=true) ?_ (List.pairwise_mergeSort tr tot _) (List.pairwise_mergeSort tr tot _) ?_
  · intro a b _ _ h1 h2;simp at h1 h2;omega
  · exact((List.mergeSort_perm _ _).trans (h.map _)).trans (List.mergeSort_perm _ _).symm
theorem jP (L:List bP):(rising L).length=L.length:=by unfold rising;rw[List.length_mergeSort,List.length_map]
def Ue (lo:Nat) (w':World) (v:Value) (xs:List Int):Prop:=∃ A C,v=.slice A xs.length C∧Row1 w' 28 (Value.int .u32) A xs.length C xs∧bG lo A∧(xs=[]↔A=none)
theorem Qm {lo:Nat} {w':World} {v:Value} {xs:List Int} (h:w'.ownsRow lo 28 1 v xs.length (xs.map aJ)) (hn:v=.slice none 0 0↔xs=[]):Ue lo w' v xs:=by
  have h0:=ownsRow_base_a h (Nat.zero_le lo);rcases h.2 with⟨rfl,hz⟩ | ⟨g,cap,cur,rfl,hb,hg,_⟩
  · obtain rfl:=List.eq_nil_of_length_eq_zero hz
    exact⟨none,0,rfl,Own.nil _ _ _ _,aL _,by simp⟩
  · refine⟨some ⟨g,0,none⟩,cap,rfl,⟨rfl,?_⟩,bR hb,?_⟩
    · rw[WX];exact h0
    · simp at hn ⊢;exact fun h=>hn h
theorem wK (b:Nat) (L:List bP) (w:World) (hm:NM 28 .u32 w b L) (hmax:L.length*4≤140737488355328) :
    ∃ w1,w1=w.alloc (.cells #[.map (some b)] 132)∧Calls Tryz.prog 131 #[.func (.func 137) #[] #[.pointer (some ⟨w.heap.size,0,none⟩)]] w1 fun e w'=>∃ v,e=.returned v∧Ue w.heap.size w' v (rising L)∧Same w w':=by
  obtain⟨w1,hw1⟩:∃ z,z=w.alloc (.cells #[.map (some b)] 132):=⟨_,rfl⟩;have hs1:Same w w1:=by rw[hw1];exact(ah.refl _ _).alloc _
  have hX:av w1 w.heap.size 132 #[.map (some b)]:=by rw[hw1];exact av.new _ _ _
  have hseq:=Ff Fence.wide (5-1-1-1) trivial rfl (by omega) w.heap.size b L w1 hX.lt (hX.cell 0) (hm.ag hs1 id);have cS:=bY.sorted_in Tryz.Qk Fence.wide 5 trivial trivial trivial trivial rfl (by omega) (Ud _) (enters_of Tryz.func136 (by kernel_rfl) rfl) 137 #[.pointer (some ⟨w.heap.size,0,none⟩)] trivial (enters_of Tryz.func137 (by kernel_rfl) rfl) _ _ (by show L.length≤9223372036854775807;omega) hmax w1 hseq;refine⟨w1,hw1,(callsIn_wide.1 cS).mono ?_⟩;rintro e w' ⟨v,ss,rfl,⟨ps,hp,rfl⟩,hrow,hnil,hb⟩;have hsz:w.heap.size≤w1.heap.size:=hs1.size;have hlen:(rising ps).length=(ps.map (·.2)).length:=by rw[jP,List.length_map]
  refine⟨v,rfl,?_,hs1.trans (ah.of_below hb _) (fun _ _ h=>h)⟩;rw[← CS hp];have hrow':w'.ownsRow w.heap.size 28 1 v (rising ps).length ((rising ps).map aJ):=by
    rw[hlen];exact ownsRow_base_a hrow hsz
  refine Qm hrow' ?_;rw[hnil];constructor
  · intro h;rw[List.map_eq_nil_iff] at h;subst h;simp[rising]
  · intro h;rw[List.map_eq_nil_iff];exact List.eq_nil_of_length_eq_zero (by rw[← jP,h];rfl)
theorem Fg (U:nk) (vars:Nat) (L:List bP) (v:Nat) (hv:v<vars) (w:World) (h:UT w U vars L) (hmax:L.length*4≤140737488355328) :
    Calls Tryz.prog 121 #[.pointer (some ⟨U.T,0,none⟩),.int .i64 v] w fun e w'=>∃ x,e=.returned (.tuple #[x,.int .i64 0])∧Ue w.heap.size w' x (rising (jE L v))∧Same w w':=by
  have HC:=Lib.hid (iQ U vars L v w h);have ct:w.cell? ⟨U.T,0,none⟩=some (.slice (some ⟨U.sb,0,none⟩) vars vars):=h.t.cell 0;have lt:=h.t.lt;have hE:oW vars v=0:=if_pos ⟨by omega,by omega⟩;have cs:=h.s v hv;have ls:=h.sl;have hk0:(0:Int)≤v:=by omega
  have hk1:(v:Int)<vars:=by omega
  have hlen:(jE L v).length*4≤140737488355328:=by
    have:=List.length_filter_le (fun p:bP=>decide (p.1.v=(v:Int))) L
    have h2:(jE L v).length≤L.length:=this;omega
  obtain⟨w1,hw1,hS⟩:=wK (U.mb v) (jE L v) w (h.m v hv) hlen;have HS:=Lib.hid hS;have HV:=Lib.hid (fun w=>callsIn_wide.1 (Ql Fence.wide 5 trivial rfl (some (U.mb v)) w));rw[hE] at HC;clear h hE hv hlen hmax hS;go_enter Tryz.func121,Tryz.ntmps121;go_wp2_with (fail)
  refine HC.out.mono ?_;rintro e w2 ⟨rfl,rfl⟩;clear HC;go_wp2_with (fail)
  refine(HV.out _).mono ?_;rintro e w3 ⟨rfl,hw3⟩;rw[← hw1] at hw3;subst hw3;clear hw1 HV;go_wp2_with (fail)
  refine HS.out.mono ?_;rintro e w4 ⟨x,rfl,hx,hs⟩;have HX:=Lib.hid hx;have HW:=Lib.hid hs;clear hx hs HS;go_wp2;go_ret2;exact⟨x,rfl,HX.out,HW.out⟩
end Go.Proofs.YtiomgckodmecbaaGreat
namespace Go.Proofs.YtiomgckodmecbaaGreat
open Go.RowKit Go.Tk
structure gI where
 r:Int
 n:Nd
 jU:Int
 jG:Int
 jV:Int
 jH:Int
deriving Inhabited,DecidableEq
def gI.cells (c:gI):List Value:=[.int .u32 c.r,.int .i64 c.n.v,.int .u32 c.n.lo,.int .u32 c.n.hi,.int .u32 c.jU,.int .u32 c.jG,.int .u32 c.jV,.int .u32 c.jH]
theorem gI.ak (c:gI):c.cells.length=8:=rfl
def aaQ:gI:=⟨0,⟨0,0,0⟩,0,0,0,0⟩
theorem CU:(Tryz.prog.info? 147).map (fun i=>(i.zero,i.size,i.bytes))=some (some (.agg aaQ.cells.toArray),8,40):=by kernel_rfl
def aS (k:KS) (r y:Int):Int×Int:=if (aH k.ls r).v=y then ((aH k.ls r).lo,(aH k.ls r).hi) else (r,r)
def qM (k:KS) (y:Int) (r:Int):Bool:=decide ((aH k.ls (aH k.ls r).lo).v=y)||decide ((aH k.ls (aH k.ls r).hi).v=y)
def uo (k:KS) (y:Int) (r:Int):gI:=⟨r,aH k.ls r,(aS k (aH k.ls r).lo y).1,(aS k (aH k.ls r).lo y).2,(aS k (aH k.ls r).hi y).1,(aS k (aH k.ls r).hi y).2⟩
def dO (k:KS) (y:Int) (rs:List Int):List gI:=(rs.filter (qM k y)).map (uo k y)
theorem Fh (k:KS) (y:Int) (rs:List Int) (r:Int):dO k y (rs++[r])=if qM k y r then dO k y rs++[uo k y r] else dO k y rs:=by
 unfold dO;rw[List.filter_append];by_cases h:qM k y r=true
 ·rw[if_pos h];simp[h]
 ·rw[if_neg h];simp[h]
section
variable {w:World} {kp:Nat} {k:KS} {a:KA}
theorem wL (h:KW w kp k a) (r y:Int) (h0:0≤r) (h1:r<4294967296) :
  Calls Tryz.prog 122 #[.pointer (some ⟨kp,0,none⟩),.int .u32 r,.int .i64 y] w fun e w'=>e=.returned (.tuple #[.int .u32 (aS k r y).1,.int .u32 (aS k r y).2])∧Same w w':=by
 have hkl:=h.blk.lt;have H:=Lib.hid h;clear h;unfold aS;obtain⟨n,hn⟩:∃ n,aH k.ls r=n:=⟨_,rfl⟩;have hcall:=fun w' (hw:Same w w')=>iH (H.out.same hw) r h0 h1
 rw[hn] at hcall ⊢;have HC:=Lib.hid hcall;clear hcall hn;have hcase:∀ (b:Bool),decide (n.v=y)=b→Calls Tryz.prog 122 #[.pointer (some ⟨kp,0,none⟩),.int .u32 r,.int .i64 y] w fun e w'=>e=.returned (.tuple #[.int .u32 (if b=true then n.lo else r),.int .u32 (if b=true then n.hi else r)])∧Same w w':=by
  intro b hb;have hbe:(n.v == y)=b:=by rw[← hb];cases h:decide (n.v=y) <;> simp_all
  clear hb;go_enter Tryz.func122,Tryz.ntmps122;go_wp2_with (fail)
  refine(HC.out _ (ah.refl _ _)).mono ?_;rintro e w1 ⟨rfl,hs1⟩;unfold Nd.val;have aW:=Lib.hid hs1;clear hs1;cases b with
  | true =>
   go_upto_region 3 with fail
   refine dZ (by kernel_rfl) (by kernel_rfl) ?_;repeat (any_goals (first | go_big_quiet_step (fail) | quiet_step (fail)))
   refine wpQuiet_nil ?_;rintro _ ⟨q,rfl⟩;go_wp2;go_ret2;exact⟨rfl,(aW.out.alloc _).trans (ay _ _) (fun _ _ h=>h)⟩
  | false =>
   go_wp2;go_ret2;exact⟨rfl,aW.out.alloc _⟩
 refine(hcase _ rfl).mono ?_;rintro e w' ⟨rfl,hs⟩;refine⟨?_,hs⟩;by_cases hv:n.v=y
 ·simp[hv]
 ·simp[hv]
theorem Qn (n:Nd) (w:World):(Instr.field 37 n.val 0).run Tryz.prog w=.ok (.int .i64 n.v) w:=rfl
structure Sz (k:KS) (r:Int):Prop where
 r0:0≤r
 r1:r<4294967296
 l0:0≤(aH k.ls r).lo
 l1:(aH k.ls r).lo<4294967296
 h0:0≤(aH k.ls r).hi
 h1:(aH k.ls r).hi<4294967296
theorem wM (h:KW w kp k a) (x:Nat) (y:Int) (hx:x<k.n) (hR:∀ r∈rising (jE k.L x),Sz k r) (hlen:k.L.length≤4000000) :
  Calls Tryz.prog 97 #[.pointer (some ⟨kp,0,none⟩),.int .i64 x,.int .i64 y] w fun e w'=>∃ A C,e=.returned (.slice A (dO k y (rising (jE k.L x))).length C)∧Go.Tk.Own w' 147 8 gI.cells A (dO k y (rising (jE k.L x))).length C (dO k y (rising (jE k.L x)))∧bG w.heap.size A∧Same w w':=by
 have hkl:=h.blk.lt;have c1:=h.c1;have hrefs:=fun w' (hw:Same w w')=>Fg a.U k.n k.L x hx w' (h.same hw).ut (by omega)
 have Mv:=Lib.hid hrefs;have H:=Lib.hid h;have hrl:=jP (jE k.L x);have hol:(jE k.L x).length≤k.L.length:=List.length_filter_le _ _;obtain⟨rs,hrs⟩:∃ rs,rising (jE k.L x)=rs:=⟨_,rfl⟩;rw[hrs] at Mv hR hrl ⊢;have acD:rs.length≤4000000:=by omega
 have HR:=Lib.hid hR;clear h hrefs hrs hrl hlen hR hol;go_enter Tryz.func97,Tryz.ntmps97;go_wp2_with (fail)
 refine(Mv.out _ (ah.refl _ _)).mono ?_;rintro e w1 ⟨xv,rfl,⟨A,C,rfl,hrow,hfr,_⟩,hs1⟩;have sM:=Lib.hid hrow;have aW:=Lib.hid hs1;clear hrow hs1 hfr c1 Mv;go_wp2_with (fail)
 go_loopw [26,7] (fun i l wr=>∃ n A' C',n≤rs.length∧i=.int .i64 n∧l=.slice A' (dO k y (rs.take n)).length C'∧Go.Tk.Own wr 147 8 gI.cells A' (dO k y (rs.take n)).length C' (dO k y (rs.take n))∧bG w1.heap.size A'∧Same w1 wr) (fun i _ _=>rs.length-(intOf i).toNat)
 case atStart=>exact⟨0,none,0,by omega,rfl,rfl,Own.nil _ _ _ _,aL _,ah.refl _ _⟩
 case round =>
  obtain⟨n,A',C',hn,rfl,rfl,hO,hF,hS⟩:=hrel;have HO:=Lib.hid hO;have HF:=Lib.hid hF;have HS:=Lib.hid hS;clear hO hF hS;by_cases hlt:n<rs.length
  ·obtain⟨r,hr⟩:∃ r,rs[n]?=some r:=⟨_,List.getElem?_eq_getElem hlt⟩;have hrow:=sM.out.ag HS.out (fun _ _=>id);obtain⟨sb,rfl,hsb,hsc⟩:=hrow.dV hr;have hRr:=HR.out r (List.mem_of_getElem? hr);have hcr:dO k y (rs.take (n+1))=if qM k y r then dO k y (rs.take n)++[uo k y r] else dO k y (rs.take n):=by
    rw[List.take_add_one,hr];exact Fh k y _ r
   have HCR:=Lib.hid hcr;obtain⟨nd,hnd⟩:∃ nd,aH k.ls r=nd:=⟨_,rfl⟩;obtain⟨r0,r1,l0,l1,h0,h1⟩:=hRr;rw[hnd] at l0 l1 h0 h1;have Jo:=Lib.hid hnd;have hI:(n:Int)<(rs.length:Int):=by omega
   have hk:=H.out.same (aW.out.trans HS.out (fun _ _ h=>h));have nD:=fun w' (hw:Same wr w')=>iH (hk.same hw) r r0 r1
   rw[hnd] at nD;have hn1:=fun w' (hw:Same wr w')=>iH (hk.same hw) nd.lo l0 l1
   have hn2:=fun w' (hw:Same wr w')=>iH (hk.same hw) nd.hi h0 h1
   have hp1:=fun w' (hw:Same wr w')=>wL (hk.same hw) nd.lo y l0 l1
   have hp2:=fun w' (hw:Same wr w')=>wL (hk.same hw) nd.hi y h0 h1
   obtain⟨m1,hm1⟩:∃ m1,aH k.ls nd.lo=m1:=⟨_,rfl⟩;obtain⟨m2,hm2⟩:∃ m2,aH k.ls nd.hi=m2:=⟨_,rfl⟩;rw[hm1] at hn1;rw[hm2] at hn2;obtain⟨q1,hq1⟩:∃ q,aS k nd.lo y=q:=⟨_,rfl⟩;obtain⟨q2,hq2⟩:∃ q,aS k nd.hi y=q:=⟨_,rfl⟩;rw[hq1] at hp1;rw[hq2] at hp2;have hci:uo k y r=⟨r,nd,q1.1,q1.2,q2.1,q2.2⟩:=by unfold uo;rw[hnd,hq1,hq2]
   have hic:qM k y r=(decide (m1.v=y)||decide (m2.v=y)):=by unfold qM;rw[hnd,hm1,hm2]
   have HCI:=Lib.hid hci;have GU:=Lib.hid hic;have HN:=Lib.hid nD;have CV:=Lib.hid hn1;have GK:=Lib.hid hn2;have BP:=Lib.hid hp1;have Au:=Lib.hid hp2;have hkl':=hk.blk.lt;replace hsc:wr.cell? ⟨sb,n,none⟩=some (.int .u32 r):=hsc;clear hr hcr hnd nD hn1 hn2 hp1 hp2 hm1 hm2 hq1 hq2 hci hic hk hrow;obtain⟨b1,hb1⟩:∃ b,decide (m1.v=y)=b:=⟨_,rfl⟩;obtain⟨b2,hb2⟩:∃ b,decide (m2.v=y)=b:=⟨_,rfl⟩;rw[hb1,hb2] at GU;have e1:(m1.v != y) = !b1:=by rw[← hb1];cases h:decide (m1.v=y) <;> simp_all
   have e2:(m2.v != y) = !b2:=by rw[← hb2];cases h:decide (m2.v=y) <;> simp_all
   clear hb1 hb2;go_wp2_with (fail)
   refine(HN.out _ (ah.refl _ _)).mono ?_;rintro e w2 ⟨rfl,hs2⟩;unfold Nd.val;go_upto_region 7 with fail
   refine ai fun w3 hw3=>?_
   have hX:=av.new w2 37 #[.int .i64 nd.v,.int .u32 nd.lo,.int .u32 nd.hi];have hs3:Same wr w3:=by rw[hw3];exact hs2.alloc _
   rw[← hw3] at hX;clear hw3;have x0:=hX.cell 0;have x1:=hX.cell 1;have x2:=hX.cell 2;have hxl:=hX.lt;simp at x0 x1 x2;have HX:=Lib.hid hX;have dX:=Lib.hid hs3;have HWZ:Hid (wr.heap.size≤w2.heap.size):=Lib.hid hs2.size;clear hX hs3 hs2;have hq:∀ (b:Bool),b1=b→b2=b2→True:=fun _ _ _=>trivial
   have acE:=Qn;have hmain:∀ (bb:Bool),(b1||b2)=bb→True:=fun _ _=>trivial
   clear hmain hq;refine dZ (by kernel_rfl) (by kernel_rfl) ?_;cases b1 with
   | true =>
    have e1':(m1.v != y)=false:=by simpa using e1
    clear e1;repeat (any_goals (first | go_big_quiet_step ((go_at_call 62;exact aX (CV.out _ (dX.out.trans (ay _ _) (fun _ _ h=>h))))) | quiet_step ((go_at_call 62;exact aX (CV.out _ (dX.out.trans (ay _ _) (fun _ _ h=>h)))))))
    refine wpQuiet_nil ?_;rintro _ ⟨qq,rfl⟩;have hs4:Same w3 (more w3 qq):=ay _ _;generalize more w3 qq=w4 at *
    have kP:=HX.out.ag hs4 id;have x0:=kP.cell 0;have x1:=kP.cell 1;have x2:=kP.cell 2;have XK:=kP.lt;simp at x0 x1 x2;have uY:=Lib.hid kP;have gH:=Lib.hid (dX.out.trans hs4 (fun _ _ h=>h));clear kP hs4 HX dX;go_upto_region 9 with fail
    refine ai fun w5 kW=>?_
    have hY:=av.new w4 147 #[.int .u32 r,.int .i64 nd.v,.int .u32 nd.lo,.int .u32 nd.hi,.int .u32 0,.int .u32 0,.int .u32 0,.int .u32 0];have hs5:Same wr w5:=by rw[kW];exact gH.out.alloc _
    have Jp:av w5 w2.heap.size 37 #[.int .i64 nd.v,.int .u32 nd.lo,.int .u32 nd.hi]:=by rw[kW];exact uY.out.alloc _
    rw[← kW] at hY;have hwz:=uY.out.lt;clear kW;have x0:=Jp.cell 0;have x1:=Jp.cell 1;have x2:=Jp.cell 2;have aaR:=Jp.lt;simp at x0 x1 x2;have Mw:=Lib.hid Jp;have XL:=Lib.hid hY;have nE:=Lib.hid hs5;clear Jp hY hs5 uY gH;go_wp2_with (fail)
    refine(BP.out _ nE.out).mono ?_;rintro e w6 ⟨rfl,hs6⟩;have Jq:=XL.out.ag hs6 id;have uV:=Mw.out.ag hs6 id;have y4:=Jq.cell 4;have y5:=Jq.cell 5;have aaS:=Jq.lt;have yf:=fun i=>Jq.free i
    simp at y4 y5;have qK:=Lib.hid uV;have XM:=Lib.hid Jq;have wN:=Lib.hid (nE.out.trans hs6 (fun _ _ h=>h));clear uV Jq hs6 Mw XL nE;go_upto_region 10 with fail
    refine ai fun w7 hw7=>?_
    have XN:w2.heap.size≠w4.heap.size:=by omega
    have XO:av w7 w4.heap.size 147 #[.int .u32 r,.int .i64 nd.v,.int .u32 nd.lo,.int .u32 nd.hi,.int .u32 q1.1,.int .u32 q1.2,.int .u32 0,.int .u32 0]:=by
     rw[hw7]
     have:=(XM.out.set 4 (.int .u32 q1.1)).set 5 (.int .u32 q1.2)
     simpa using this
    have sK:av w7 w2.heap.size 37 #[.int .i64 nd.v,.int .u32 nd.lo,.int .u32 nd.hi]:=by
     rw[hw7];exact(qK.out.far (p:=⟨w4.heap.size,4,none⟩) XN _).far (p:=⟨w4.heap.size,5,none⟩) XN _
    have hwr:wr.heap.size≤w4.heap.size:=by have:=HWZ.out;omega
    have hs7:Same wr w7:=by
     rw[hw7];exact(wN.out.aj _ _ hwr).aj _ _ hwr
    clear hw7 y4 y5 yf;have x0:=sK.cell 0;have x1:=sK.cell 1;have x2:=sK.cell 2;have Xv:=sK.lt;simp at x0 x1 x2;have Ld:=Lib.hid sK;have XP:=Lib.hid XO;have jZ:=Lib.hid hs7;clear sK XO hs7 qK XM wN;go_wp2_with (fail)
    refine(Au.out _ jZ.out).mono ?_;rintro e w8 ⟨rfl,oD⟩;have Jr:=XP.out.ag oD id;have y6:=Jr.cell 6;have y7:=Jr.cell 7;have aaT:=Jr.lt;have yf:=fun i=>Jr.free i
    simp at y6 y7;have XQ:=Lib.hid Jr;have mO:=Lib.hid (jZ.out.trans oD (fun _ _ h=>h));clear Jr oD Ld XP jZ;go_upto_region 11 with fail
    refine ai fun w9 Mx=>?_
    have wO:av w9 w4.heap.size 147 #[.int .u32 r,.int .i64 nd.v,.int .u32 nd.lo,.int .u32 nd.hi,.int .u32 q1.1,.int .u32 q1.2,.int .u32 q2.1,.int .u32 q2.2]:=by
     rw[Mx]
     have:=(XQ.out.set 6 (.int .u32 q2.1)).set 7 (.int .u32 q2.2)
     simpa using this
    have mP:Same wr w9:=by
     rw[Mx];exact(mO.out.aj _ _ hwr).aj _ _ hwr
    clear Mx y6 y7 yf;have y0:=wO.cell 0;have y1:=wO.cell 1;have y2:=wO.cell 2;have y3:=wO.cell 3;have y4:=wO.cell 4;have y5:=wO.cell 5;have y6:=wO.cell 6;have y7:=wO.cell 7;have aaU:=wO.lt;simp at y0 y1 y2 y3 y4 y5 y6 y7;have HY9:=Lib.hid wO;have CW:=Lib.hid mP;clear wO mP XQ mO;refine aR 2 ?_;simp only[List.take_succ_cons,List.take_zero,List.drop_succ_cons,List.drop_zero];repeat (any_goals (first | go_big_quiet_step (fail) | quiet_step (fail)))
    refine wpQuiet_nil ?_;refine wpList_plain rfl fun K hK=>?_
    go_simp;refine hK _ _ ?_;clear hK K;refine aK fun wa dJ=>?_
    have hM:=av.new w9 147 #[.int .u32 r,.int .i64 nd.v,.int .u32 nd.lo,.int .u32 nd.hi,.int .u32 q1.1,.int .u32 q1.2,.int .u32 q2.1,.int .u32 q2.2];have hsa:Same wr wa:=by rw[dJ];exact CW.out.alloc _
    rw[← dJ] at hM;have aaV:w9.heap.size<wa.heap.size:=hM.lt;clear dJ;have hil:(dO k y (rs.take n)).length≤4000000:=by
     have h1:(dO k y (rs.take n)).length≤(rs.take n).length:=by unfold dO;rw[List.length_map];exact List.length_filter_le _ _
     rw[List.length_take] at h1;omega
    refine Own.aI rfl (.tmp 78) (.tmp 80) _ rfl Tryz.underlying143 CU rfl (by omega) rfl (HO.out.ag hsa (fun _ _=>id)) gI.ak ⟨r,nd,q1.1,q1.2,q2.1,q2.2⟩ w9.heap.size 1 rfl hM (by simp[Value.oneCell',gI.cells]) (by unfold maxLen;omega) (by omega) ?_;intro gg cap wb hOb hgb hat;have hSb:Same w1 wb:=by
     refine(HS.out.trans hsa (fun _ _ h=>h)).grown hgb (fun g hg=>.inr ?_);exact HF.out g (af.1 hg)
    have SA:bG w1.heap.size (some ⟨gg,0,none⟩):=by
     refine bR ?_;rcases hat with h | h
     ·exact HF.out gg (af.1 h)
     ·have:=HS.out.size;have:=hsa.size;omega
    have Av:=Lib.hid hOb;have l7:=Lib.hid hSb;have GY:=Lib.hid SA;clear hOb hSb SA hgb hat hM hsa;go_wp2;go_roundw
    case rel =>
     have hcc:dO k y (rs.take (n+1))=dO k y (rs.take n)++[⟨r,nd,q1.1,q1.2,q2.1,q2.2⟩]:=by
      rw[HCR.out,GU.out,if_pos (by simp),HCI.out]
     refine⟨n+1,some ⟨gg,0,none⟩,cap,by omega,by go_num,?_,?_,GY.out,l7.out⟩
     ·rw[hcc,List.length_append];rfl
     ·rw[hcc,List.length_append];exact Av.out
    case measure=>simp[intOf] <;> omega
   | false =>
    have e1':(m1.v != y)=true:=by simpa using e1
    clear e1;cases b2 with
    | true =>
     have e2':(m2.v != y)=false:=by simpa using e2
     clear e2;repeat (any_goals (first | go_big_quiet_step ((first | (go_at_call_of 62 (Value.int IntKind.u32 nd.lo);exact aX (CV.out _ (dX.out.trans (ay _ _) (fun _ _ h=>h)))) | (go_at_call 62;exact aX (GK.out _ (dX.out.trans (ay _ _) (fun _ _ h=>h)))))) | quiet_step ((first | (go_at_call_of 62 (Value.int IntKind.u32 nd.lo);exact aX (CV.out _ (dX.out.trans (ay _ _) (fun _ _ h=>h)))) | (go_at_call 62;exact aX (GK.out _ (dX.out.trans (ay _ _) (fun _ _ h=>h))))))))
     refine wpQuiet_nil ?_;rintro _ ⟨qq,rfl⟩;have hs4:Same w3 (more w3 qq):=ay _ _;generalize more w3 qq=w4 at *
     have kP:=HX.out.ag hs4 id;have x0:=kP.cell 0;have x1:=kP.cell 1;have x2:=kP.cell 2;have XK:=kP.lt;simp at x0 x1 x2;have uY:=Lib.hid kP;have gH:=Lib.hid (dX.out.trans hs4 (fun _ _ h=>h));clear kP hs4 HX dX;go_upto_region 9 with fail
     refine ai fun w5 kW=>?_
     have hY:=av.new w4 147 #[.int .u32 r,.int .i64 nd.v,.int .u32 nd.lo,.int .u32 nd.hi,.int .u32 0,.int .u32 0,.int .u32 0,.int .u32 0];have hs5:Same wr w5:=by rw[kW];exact gH.out.alloc _
     have Jp:av w5 w2.heap.size 37 #[.int .i64 nd.v,.int .u32 nd.lo,.int .u32 nd.hi]:=by rw[kW];exact uY.out.alloc _
     rw[← kW] at hY;have hwz:=uY.out.lt;clear kW;have x0:=Jp.cell 0;have x1:=Jp.cell 1;have x2:=Jp.cell 2;have aaR:=Jp.lt;simp at x0 x1 x2;have Mw:=Lib.hid Jp;have XL:=Lib.hid hY;have nE:=Lib.hid hs5;clear Jp hY hs5 uY gH;go_wp2_with (fail)
     refine(BP.out _ nE.out).mono ?_;rintro e w6 ⟨rfl,hs6⟩;have Jq:=XL.out.ag hs6 id;have uV:=Mw.out.ag hs6 id;have y4:=Jq.cell 4;have y5:=Jq.cell 5;have aaS:=Jq.lt;have yf:=fun i=>Jq.free i
     simp at y4 y5;have qK:=Lib.hid uV;have XM:=Lib.hid Jq;have wN:=Lib.hid (nE.out.trans hs6 (fun _ _ h=>h));clear uV Jq hs6 Mw XL nE;go_upto_region 10 with fail
     refine ai fun w7 hw7=>?_
     have XN:w2.heap.size≠w4.heap.size:=by omega
     have XO:av w7 w4.heap.size 147 #[.int .u32 r,.int .i64 nd.v,.int .u32 nd.lo,.int .u32 nd.hi,.int .u32 q1.1,.int .u32 q1.2,.int .u32 0,.int .u32 0]:=by
      rw[hw7]
      have:=(XM.out.set 4 (.int .u32 q1.1)).set 5 (.int .u32 q1.2)
      simpa using this
     have sK:av w7 w2.heap.size 37 #[.int .i64 nd.v,.int .u32 nd.lo,.int .u32 nd.hi]:=by
      rw[hw7];exact(qK.out.far (p:=⟨w4.heap.size,4,none⟩) XN _).far (p:=⟨w4.heap.size,5,none⟩) XN _
     have hwr:wr.heap.size≤w4.heap.size:=by have:=HWZ.out;omega
     have hs7:Same wr w7:=by
      rw[hw7];exact(wN.out.aj _ _ hwr).aj _ _ hwr
     clear hw7 y4 y5 yf;have x0:=sK.cell 0;have x1:=sK.cell 1;have x2:=sK.cell 2;have Xv:=sK.lt;simp at x0 x1 x2;have Ld:=Lib.hid sK;have XP:=Lib.hid XO;have jZ:=Lib.hid hs7;clear sK XO hs7 qK XM wN;go_wp2_with (fail)
     refine(Au.out _ jZ.out).mono ?_;rintro e w8 ⟨rfl,oD⟩;have Jr:=XP.out.ag oD id;have y6:=Jr.cell 6;have y7:=Jr.cell 7;have aaT:=Jr.lt;have yf:=fun i=>Jr.free i
     simp at y6 y7;have XQ:=Lib.hid Jr;have mO:=Lib.hid (jZ.out.trans oD (fun _ _ h=>h));clear Jr oD Ld XP jZ;go_upto_region 11 with fail
     refine ai fun w9 Mx=>?_
     have wO:av w9 w4.heap.size 147 #[.int .u32 r,.int .i64 nd.v,.int .u32 nd.lo,.int .u32 nd.hi,.int .u32 q1.1,.int .u32 q1.2,.int .u32 q2.1,.int .u32 q2.2]:=by
      rw[Mx]
      have:=(XQ.out.set 6 (.int .u32 q2.1)).set 7 (.int .u32 q2.2)
      simpa using this
     have mP:Same wr w9:=by
      rw[Mx];exact(mO.out.aj _ _ hwr).aj _ _ hwr
     clear Mx y6 y7 yf;have y0:=wO.cell 0;have y1:=wO.cell 1;have y2:=wO.cell 2;have y3:=wO.cell 3;have y4:=wO.cell 4;have y5:=wO.cell 5;have y6:=wO.cell 6;have y7:=wO.cell 7;have aaU:=wO.lt;simp at y0 y1 y2 y3 y4 y5 y6 y7;have HY9:=Lib.hid wO;have CW:=Lib.hid mP;clear wO mP XQ mO;refine aR 2 ?_;simp only[List.take_succ_cons,List.take_zero,List.drop_succ_cons,List.drop_zero];repeat (any_goals (first | go_big_quiet_step (fail) | quiet_step (fail)))
     refine wpQuiet_nil ?_;refine wpList_plain rfl fun K hK=>?_
     go_simp;refine hK _ _ ?_;clear hK K;refine aK fun wa dJ=>?_
     have hM:=av.new w9 147 #[.int .u32 r,.int .i64 nd.v,.int .u32 nd.lo,.int .u32 nd.hi,.int .u32 q1.1,.int .u32 q1.2,.int .u32 q2.1,.int .u32 q2.2];have hsa:Same wr wa:=by rw[dJ];exact CW.out.alloc _
     rw[← dJ] at hM;have aaV:w9.heap.size<wa.heap.size:=hM.lt;clear dJ;have hil:(dO k y (rs.take n)).length≤4000000:=by
      have h1:(dO k y (rs.take n)).length≤(rs.take n).length:=by unfold dO;rw[List.length_map];exact List.length_filter_le _ _
      rw[List.length_take] at h1;omega
     refine Own.aI rfl (.tmp 78) (.tmp 80) _ rfl Tryz.underlying143 CU rfl (by omega) rfl (HO.out.ag hsa (fun _ _=>id)) gI.ak ⟨r,nd,q1.1,q1.2,q2.1,q2.2⟩ w9.heap.size 1 rfl hM (by simp[Value.oneCell',gI.cells]) (by unfold maxLen;omega) (by omega) ?_;intro gg cap wb hOb hgb hat;have hSb:Same w1 wb:=by
      refine(HS.out.trans hsa (fun _ _ h=>h)).grown hgb (fun g hg=>.inr ?_);exact HF.out g (af.1 hg)
     have SA:bG w1.heap.size (some ⟨gg,0,none⟩):=by
      refine bR ?_;rcases hat with h | h
      ·exact HF.out gg (af.1 h)
      ·have:=HS.out.size;have:=hsa.size;omega
     have Av:=Lib.hid hOb;have l7:=Lib.hid hSb;have GY:=Lib.hid SA;clear hOb hSb SA hgb hat hM hsa;go_wp2;go_roundw
     case rel =>
      have hcc:dO k y (rs.take (n+1))=dO k y (rs.take n)++[⟨r,nd,q1.1,q1.2,q2.1,q2.2⟩]:=by
       rw[HCR.out,GU.out,if_pos (by simp),HCI.out]
      refine⟨n+1,some ⟨gg,0,none⟩,cap,by omega,by go_num,?_,?_,GY.out,l7.out⟩
      ·rw[hcc,List.length_append];rfl
      ·rw[hcc,List.length_append];exact Av.out
     case measure=>simp[intOf] <;> omega
    | false =>
     have e2':(m2.v != y)=true:=by simpa using e2
     clear e2;repeat (any_goals (first | go_big_quiet_step ((first | (go_at_call_of 62 (Value.int IntKind.u32 nd.lo);exact aX (CV.out _ (dX.out.trans (ay _ _) (fun _ _ h=>h)))) | (go_at_call 62;exact aX (GK.out _ (dX.out.trans (ay _ _) (fun _ _ h=>h)))))) | quiet_step ((first | (go_at_call_of 62 (Value.int IntKind.u32 nd.lo);exact aX (CV.out _ (dX.out.trans (ay _ _) (fun _ _ h=>h)))) | (go_at_call 62;exact aX (GK.out _ (dX.out.trans (ay _ _) (fun _ _ h=>h))))))))
     refine wpQuiet_nil ?_;rintro _ ⟨qq,rfl⟩;go_wp2;go_roundw
     case rel =>
      have hcc:dO k y (rs.take (n+1))=dO k y (rs.take n):=by
       rw[HCR.out,GU.out,if_neg (by simp)]
      have SC:Same wr (more w3 qq):=dX.out.trans (ay _ _) (fun _ _ h=>h);refine⟨n+1,A',C',by omega,by go_num,by rw[hcc],?_,HF.out,HS.out.trans SC (fun _ _ h=>h)⟩;rw[hcc];exact HO.out.ag SC (fun _ _=>id)
     case measure=>simp[intOf] <;> omega
  ·obtain rfl:n=rs.length:=by omega
   have hI:¬ ((rs.length:Nat):Int)<(rs.length:Int):=by omega
   go_wp2;go_ret;have ht:rs.take rs.length=rs:=List.take_length;rw[ht] at HO;refine⟨A',C',rfl,HO.out,?_,aW.out.trans HS.out (fun _ _ h=>h)⟩;intro b hb;exact Nat.le_trans aW.out.size (HF.out b hb)
end
end Go.Proofs.YtiomgckodmecbaaGreat
namespace Go.Proofs.YtiomgckodmecbaaGreat
open Go.RowKit Go.Tk Go.Maps Go.ChangeMaps Go.WideElems Go.MapKept
def wP (L:List bP) (n:Nd) (r:Int):List bP:=if n∈keys L then L.map (fun p=>if p.1=n then (n,r) else p) else L++[(n,r)]
theorem zn (L:List bP) (n:Nd) (r:Int):keys (wP L n r)=if n∈keys L then keys L else keys L++[n]:=by
 unfold wP;split
 ·unfold keys;rw[List.map_map];apply List.map_congr_left;intro p _;simp only[Function.comp];split
  ·rename_i h;exact h.symm
  ·rfl
 ·simp[keys]
section
variable {e:TypeId} {q:IntKind} {w:World} {b:Nat} {L:List bP}
theorem Uf:WideMaps.KeyLaw Tryz.prog 37:=deep_law_laid GA (m:=2) (by omega) EW (by kernel_rfl) Ak
theorem NM.of_heap {w':World} (h:NM e q w b L) (hh:w'.heap[b]?=w.heap[b]?):NM e q w' b L:=by
 obtain⟨D,⟨es,clock,h1,h2,h3,h4⟩,h5⟩:=h;exact⟨D,⟨es,clock,hh.trans h1,h2,h3,h4⟩,h5⟩
theorem NM.upd (h:NM e q w b L) {t:TypeId} (ht:Tryz.prog.underlying t=some (.map 37 e)) (he:Tryz.prog.underlying e=some (.int q)) (hlen:L.length<maxLen) {n:Nd} (hn:n.ok) {r:Int} (hr:(Lit.int q r).wf=true) :
  ∃ w',(Instr.mapUpdate t (.map (some b)) n.val (.int q r)).run Tryz.prog w=.ok () w'∧NM e q w' b (wP L n r):=by
 obtain⟨D,h1,h2,h3,h4⟩:=h.tidy;obtain⟨w',hrun,r1,r2⟩:=h1.store KN ht hlen (gX hn) (plainElem_int (H:=Unit) he hr);refine⟨w',hrun,?_⟩;unfold wP;split
 ·rename_i hold;have h5:=h2.set h3 h4 hn hr hold rfl;exact⟨_,by rw[← h5.size];exact pE r1,h5⟩
 ·rename_i hnew;exact⟨_,by rw[List.length_append];exact r1,h2.put h3 h4 hn hr hnew⟩
theorem MB {n:Nd} {r d:Int} (hn:(keys L).Nodup):(look (wP L n r) n).getD d=r:=by
 have hk:(keys (wP L n r)).Nodup:=by
  rw[zn];split
  ·exact hn
  ·rename_i h;rw[List.nodup_append];exact⟨hn,by simp,by rintro a ha c hc rfl;simp at hc;subst hc;exact h ha⟩
 have hm:(n,r)∈wP L n r:=by
  unfold wP;split
  ·rename_i h;obtain⟨s,hs⟩:=mem_keys.1 h;exact List.mem_map.2 ⟨(n,s),hs,by simp⟩
  ·simp
 rw[za hk hm];rfl
theorem NM.MC (h:NM e q w b L) {t:TypeId} (ht:Tryz.prog.underlying t=some (.map 37 e)) (he:Tryz.prog.underlying e=some (.int q)) (hz:(zeroValue e).run Tryz.prog w=.ok (.int q 0) w) {n:Nd} (hn:n.ok) :
  (Instr.lookup t (.map (some b)) n.val false).run Tryz.prog w=.ok (.int q ((look L n).getD 0)) w:=by
 obtain⟨D,h1,h2⟩:=h;obtain⟨c,hrun,hc1,_⟩:=h1.lookup_int KN ht he hz (gX hn);have hc:c=(look L n).getD 0:=by
  rcases hl:look L n with _ | r
  ·have hno:Maps.has D n.key=false:=by
    rcases hh:Maps.has D n.key with _ | _
    ·rfl
    ·exact absurd ((h2.dom n hn).1 hh) (cB.1 hl)
   rw[atKey_of_not_has hno] at hc1;exact(kU hc1).symm
  ·rw[h2.val _ (gp hl)] at hc1;exact(kU hc1).symm
 rw[← hc];exact hrun
theorem NM.entry (h:NM e q w b L) {t:TypeId} (ht:Tryz.prog.underlying t=some (.map 37 e)) (he:Tryz.prog.underlying e=some (.int q)) (hz:∀ u:World,(zeroValue e).run Tryz.prog u=.ok (.int q 0) u) (hlen:L.length<maxLen) {n:Nd} (hn:n.ok) :
  ∃ (v0:Value) (st:Nat) (w1:World),(Instr.mapEntry t (.map (some b)) n.val).run Tryz.prog w=.ok (.tuple #[v0,goInt st]) w1∧ah (fun x=>x=b) w w1∧
   (∀ w2,w2.heap[b]?=w1.heap[b]?→(Instr.lookup t (.map (some b)) n.val false).run Tryz.prog w2=.ok (.int q ((look L n).getD 0)) w2)∧
   ∀ (w2:World) (r:Int),(Lit.int q r).wf=true→w2.heap[b]?=w1.heap[b]?→∃ w3,(Instr.entryStore t (.map (some b)) (goInt st) (.int q r)).run Tryz.prog w2=.ok () w3∧NM e q w3 b (wP L n r)∧ah (fun x=>x=b) w2 w3:=by
 have hfr:∀ (u:World) (es:Array MapEntry) (clock:Nat) (o:Obj),u.heap[b]?=some (.map es clock)→ah (fun x=>x=b) u (setBlock u b o):=by
  intro u es clock o hu;refine⟨rfl,rfl,rfl,?_,fun i _ hi=>heap_setBlock_other hu o hi⟩;simp[setBlock]
 obtain⟨D,hown,hrel⟩:=id h;obtain⟨es,clock,hb,F,hs,hD⟩:=hown;obtain⟨v0,st,es1,clock1,hrun,_,hst⟩:=entry_then_store Uf ht hz hb F (gX hn);have hb1:(setBlock w b (.map es1 clock1)).heap[b]?=some (.map es1 clock1):=heap_setBlock_same hb _;refine⟨v0,st,_,hrun,hfr w es clock _ hb,?_,?_⟩
 ·-- the look-up behind it
  have hN:∃ L',NM e q (setBlock w b (.map es1 clock1)) b L'∧(look L' n).getD 0=(look L n).getD 0:=by
   rcases Uf.find w (gX hn) es.toList F.keys with⟨f1,_⟩ | ⟨j,e0,f1,f2,f3⟩
   ·have hr2:(Instr.mapEntry t (.map (some b)) n.val).run Tryz.prog w=.ok (.tuple #[.int q 0,goInt clock]) (setBlock w b (.map (es.push ⟨n.val,.int q 0,clock⟩) (clock+1))):=by
     simp[Instr.mapEntry,run_underlying ht,MapKept.run_getObj_map hb,Uf.check w false (gX hn),f1,hz,run_setObj_map _ hb,Result.andThen,setBlock]
    have hu2:(Instr.mapUpdate t (.map (some b)) n.val (.int q 0)).run Tryz.prog w=.ok () (setBlock w b (.map (es.push ⟨n.val,.int q 0,clock⟩) (clock+1))):=by
     simp[Instr.mapUpdate,run_underlying ht,MapKept.run_getObj_map hb,Uf.check w false (gX hn),f1,run_setObj_map _ hb,Result.andThen,setBlock]
    rw[hr2] at hrun;injection hrun with _ hw
    obtain⟨w',hu,hN⟩:=h.upd ht he hlen hn (r:=0) (wf0 q);rw[hu2] at hu;injection hu with _ hu
    rw[← hw,hu];refine⟨_,hN,?_⟩;have hl1:(Instr.lookup t (.map (some b)) n.val false).run Tryz.prog w=.ok (.int q 0) w:=by
     simp[Instr.lookup,run_underlying ht,MapKept.run_getObj_map hb,Uf.check w es.isEmpty (gX hn),f1,hz,Result.andThen]
    rw[h.MC ht he (hz w) hn] at hl1;injection hl1 with hl1
    injection hl1 with _ hl1
    rw[MB hrel.nd,hl1]
   ·have hj:es[j]?=some e0:=by simpa using f2
    have hsame:es.modify j (fun e=>{ e with key:=n.val })=es:=by
     apply Array.ext';rw[Array.toList_modify,modify_eq_set _ _ _ _ f2]
     have:({ e0 with key:=n.val }:MapEntry)=e0:=by rw[← f3]
     rw[this];exact WideElems.set_self _ _ _ f2
    have hr2:(Instr.mapEntry t (.map (some b)) n.val).run Tryz.prog w=.ok (.tuple #[e0.val,goInt e0.born]) (setBlock w b (.map es clock)):=by
     simp[Instr.mapEntry,run_underlying ht,MapKept.run_getObj_map hb,Uf.check w false (gX hn),f1,hj,f3,Uf.stays w (gX hn),hsame,run_setObj_map _ hb,Result.andThen,setBlock]
    rw[hr2] at hrun;injection hrun with _ hw
    rw[← hw];exact⟨L,h.of_heap ((heap_setBlock_same hb _).trans hb.symm),rfl⟩
  obtain⟨L',hN,hl⟩:=hN;intro w2 hw2;rw[← hl];exact(hN.of_heap hw2).MC ht he (hz w2) hn
 ·intro w2 r hr hw2;rw[hb1] at hw2;obtain⟨es',clock',hs1,hs2⟩:=hst w2 (.int q r) hw2;obtain⟨w',hu,hN⟩:=h.upd ht he hlen hn hr;rw[hs2] at hu;injection hu with _ hu
  refine⟨_,hs1,?_,hfr w2 es1 clock1 _ hw2⟩;exact hN.of_heap ((heap_setBlock_same hw2 _).trans (by rw[← hu];exact(heap_setBlock_same hb _).symm))
end
end Go.Proofs.YtiomgckodmecbaaGreat
namespace Go.Proofs.YtiomgckodmecbaaGreat
open Go.RowKit Go.Tk
def aP (k:KS) (l:List Nd) (n:Nd):List Nd:=if look k.L n=none∧n.lo≠n.hi then (if n∈l then l else l++[n]) else l
def dP (x:Int) (c:gI):List Nd:=[⟨x,c.jU,c.jV⟩,⟨x,c.jG,c.jH⟩]
def bI (k:KS) (x:Int) (cs:List gI):List Nd:=(cs.flatMap (dP x)).foldl (aP k) []
theorem Fj (k:KS):∀ (l:List Nd) (s:List Nd),(l.foldl (aP k) s).length≤s.length+l.length:=by
 intro l
 induction l with
 | nil=>intro s;simp
 | cons q l ih =>
  intro s;rw[List.foldl_cons]
  have:=ih (aP k s q)
  have h4:(aP k s q).length≤s.length+1:=by
   unfold aP;split
   ·split <;> simp
   ·omega
  simp only[List.length_cons];omega
theorem Fp (k:KS) (x:Int) (cs:List gI):(bI k x cs).length≤2*cs.length:=by
 have h6:=Fj k (cs.flatMap (dP x)) [];have h7:(cs.flatMap (dP x)).length=2*cs.length:=by
  clear h6
  induction cs with
  | nil=>rfl
  | cons q l ih=>rw[List.flatMap_cons,List.length_append,ih];simp[dP] <;> omega
 simp only[List.length_nil] at h6;unfold bI;omega
structure SE (c:gI):Prop where
 p0:0≤c.jU∧c.jU<4294967296
 p1:0≤c.jG∧c.jG<4294967296
 p2:0≤c.jV∧c.jV<4294967296
 p3:0≤c.jH∧c.jH<4294967296
theorem wQ (w:World):(zeroValue 3).run Tryz.prog w=.ok (.int .i64 0) w:=by kernel_rfl
structure Ug (M:List bP) (l:List Nd) (b:Nat):Prop where
 keys:keys M=l
 lo:∀ p∈M,0≤p.2∧p.2≤(b:Int)
theorem Ug.look {M:List bP} {l:List Nd} {b:Nat} (h:Ug M l b) (n:Nd):0≤(look M n).getD 0∧(look M n).getD 0≤(b:Int):=by
 cases hl:Proofs.YtiomgckodmecbaaGreat.look M n with
 | none=>simp
 | some r=>exact h.lo _ (gp hl)
theorem Ug.put {M:List bP} {l:List Nd} {b:Nat} (h:Ug M l b) (n:Nd):Ug (wP M n ((Proofs.YtiomgckodmecbaaGreat.look M n).getD 0+1)) (if n∈l then l else l++[n]) (b+1):=by
 have hb:=h.look n;refine⟨by rw[zn,h.keys],fun p hp=>?_⟩;unfold wP at hp;split at hp
 ·obtain⟨q,hq,rfl⟩:=List.mem_map.1 hp
  have:=h.lo q hq
  split
  ·simp only;omega
  ·omega
 ·rcases List.mem_append.1 hp with hp | hp
  ·have:=h.lo p hp;omega
  ·simp at hp;subst hp;simp only;omega
section
variable {w:World} {kp:Nat} {k:KS} {a:KA}
theorem Fq (h:KW w kp k a) (x:Nat) (hx:x<64) (A:Option Addr) (C:Nat) (cs:List gI) (hO:Go.Tk.Own w 147 8 gI.cells A cs.length C cs) (hcs:∀ c∈cs,SE c) (hlen:cs.length≤4000000) :
  Calls Tryz.prog 98 #[.pointer (some ⟨kp,0,none⟩),.int .i64 x,.slice A cs.length C] w fun e w'=>e=.returned (.int .i64 (bI k x cs).length)∧Same w w':=by
 have hkl:=h.blk.lt;have hfind:=fun (n:Nd) (hn:n.ok) w' (hw:Same w w')=>pY a.U k.n k.L n hn w' (h.same hw).ut
 have HF:=Lib.hid hfind;have H:=Lib.hid h;have HO:=Lib.hid hO;have Ms:=Lib.hid hcs;have hmm:=@run_makeMap Tryz.prog;clear h hfind hO hcs;go_enter Tryz.func98,Tryz.ntmps98;go_wp2_with (fail)
 go_loopw [17] (fun i wr=>∃ n M,n≤cs.length∧i=.int .i64 n∧NM 3 .i64 wr w.heap.size M∧Ug M (bI k x (cs.take n)) (2*n)∧Same w wr) (fun i _=>cs.length-(intOf i).toNat)
 case atStart=>exact⟨0,[],by omega,rfl,NM.made _ _ _,⟨rfl,fun p hp=>by cases hp⟩,(ah.refl _ _).alloc _⟩
 case round =>
  rename World=>wo
  obtain⟨n,M,hn,rfl,hM,hC,hS⟩:=hrel;have HM:=Lib.hid hM;have HC:=Lib.hid hC;have HS:=Lib.hid hS;have hkk:=H.out.same hS;have hkl':=hkk.blk.lt;have c1:=hkk.c1;clear hM hC hS hkk;by_cases hlt:n<cs.length
  ·obtain⟨c,hc⟩:∃ c,cs[n]?=some c:=⟨_,List.getElem?_eq_getElem hlt⟩;have hrow:=HO.out.ag HS.out (fun _ _=>id);obtain⟨sb,rfl,hsb,hcell⟩:=hrow.get gI.ak hc;have Uh:=Ms.out c (List.mem_of_getElem? hc);have hft:bI k x (cs.take (n+1))=(dP x c).foldl (aP k) (bI k x (cs.take n)):=by
    rw[List.take_add_one,hc];unfold bI;simp
   have HFT:=Lib.hid hft;have XR:=Lib.hid Uh;have s0:wo.cell? ⟨sb,n*8,none⟩=some (.int .u32 c.r):=hcell 0 (by omega);have s1:wo.cell? ⟨sb,n*8+1,none⟩=some (.int .i64 c.n.v):=hcell 1 (by omega);have s2:wo.cell? ⟨sb,n*8+2,none⟩=some (.int .u32 c.n.lo):=hcell 2 (by omega);have s3:wo.cell? ⟨sb,n*8+3,none⟩=some (.int .u32 c.n.hi):=hcell 3 (by omega);have s4:wo.cell? ⟨sb,n*8+4,none⟩=some (.int .u32 c.jU):=hcell 4 (by omega);have s5:wo.cell? ⟨sb,n*8+5,none⟩=some (.int .u32 c.jG):=hcell 5 (by omega);have s6:wo.cell? ⟨sb,n*8+6,none⟩=some (.int .u32 c.jV):=hcell 6 (by omega);have s7:wo.cell? ⟨sb,n*8+7,none⟩=some (.int .u32 c.jH):=hcell 7 (by omega);have hI:(n:Int)<(cs.length:Int):=by omega
   clear hc hrow hcell Uh hft;go_wp2_with (fail)
   refine ai fun w2 hw2=>?_
   have hrow:=Go.Tk.Own.lit (wo.alloc (.cells #[.int .u32 c.r,.int .i64 c.n.v,.int .u32 c.n.lo,.int .u32 c.n.hi,.int .u32 c.jU,.int .u32 c.jG,.int .u32 c.jV,.int .u32 c.jH] 147)) 37 Nd.cells (fun _=>rfl) (m:=3) (dP x c) (by simp[maxLen,dP]) (cs:=#[.int .i64 x,.int .u32 c.jU,.int .u32 c.jV,.int .i64 x,.int .u32 c.jG,.int .u32 c.jH]) (by simp[dP,Nd.cells]);have hsz:(wo.alloc (.cells #[.int .u32 c.r,.int .i64 c.n.v,.int .u32 c.n.lo,.int .u32 c.n.hi,.int .u32 c.jU,.int .u32 c.jG,.int .u32 c.jV,.int .u32 c.jH] 147)).heap.size=wo.heap.size+1:=by simp
   rw[hsz,← hw2] at hrow;have hs2:Same wo w2:=by rw[hw2];exact((ah.refl _ _).alloc _).alloc _
   have hml:=HM.out.lt;have sM:=Lib.hid hrow;have HS2:=Lib.hid hs2;have HL:Hid ((dP (x:Int) c).length=2):=Lib.hid rfl;have XT:∀ nd∈dP (x:Int) c,nd.ok:=by
    intro nd hnd;obtain⟨p0,p1,p2,p3⟩:=XR.out;simp only[dP,List.mem_cons,List.not_mem_nil,or_false] at hnd;rcases hnd with rfl | rfl
    ·exact Nd.CK (by simp) (by simp <;> omega) p0.1 p0.2 p2.1 p2.2
    ·exact Nd.CK (by simp) (by simp <;> omega) p1.1 p1.2 p3.1 p3.2
   have XU:=Lib.hid XT;obtain⟨uZ,XV⟩:∃ uZ,dP (x:Int) c=uZ:=⟨_,rfl⟩;rw[XV] at sM HL XU HFT;clear hw2 hrow hsz hs2 XV XT s0 s1 s2 s3 s4 s5 s6 s7 XR c1 hkl';go_loopw [35] (fun j wq=>∃ (m:Nat) (M':List bP),m≤2∧j=.int .i64 m∧NM 3 .i64 wq w.heap.size M'∧Ug M' ((uZ.take m).foldl (aP k) (bI k x (cs.take n))) (2*n+m)∧Same w wq∧Go.Tk.Own wq 37 3 Nd.cells (some ⟨wo.heap.size+1,0,none⟩) uZ.length uZ.length uZ∧wo.heap.size+1<wq.heap.size) (fun j _=>2-(intOf j).toNat)
   case atStart =>
    refine⟨0,M,by omega,rfl,HM.out.ag HS2.out id,HC.out,HS.out.trans HS2.out (fun _ _ h=>h),sM.out,?_⟩
    have:=sM.out.form (by have:=HL.out;omega)
    obtain⟨_,h1,h2⟩:=this;injection h1 with h1
    injection h1 with h1
    omega
   case round =>
    rename World=>wq
    obtain⟨m,M',hm,rfl,hM',hC',hS',hrow',hgt⟩:=hrel;have Lg:=Lib.hid hM';have Ui:=Lib.hid hC';have Uj:=Lib.hid hS';have hkk:=H.out.same hS';have hkl':=hkk.blk.lt;have c1:=hkk.c1;have XW:=Lib.hid hrow';clear hM' hC' hS' hkk hrow';by_cases hm2:m<2
    ·obtain⟨nd,hnd⟩:∃ nd,uZ[m]?=some nd:=⟨_,List.getElem?_eq_getElem (by have:=HL.out;omega)⟩;have hok:=XU.out nd (List.mem_of_getElem? hnd);have hstep:(uZ.take (m+1)).foldl (aP k) (bI k x (cs.take n))=aP k ((uZ.take m).foldl (aP k) (bI k x (cs.take n))) nd:=by
      rw[List.take_add_one,hnd];simp
     obtain⟨sb2,he,_,hcell⟩:=XW.out.get (m:=3) (f:=Nd.cells) (fun _=>rfl) hnd;injection he with he
     injection he with he
     subst he;have s0:wq.cell? ⟨wo.heap.size+1,m*3,none⟩=some (.int .i64 nd.v):=hcell 0 (by omega);have s1:wq.cell? ⟨wo.heap.size+1,m*3+1,none⟩=some (.int .u32 nd.lo):=hcell 1 (by omega);have s2:wq.cell? ⟨wo.heap.size+1,m*3+2,none⟩=some (.int .u32 nd.hi):=hcell 2 (by omega);have HST:=Lib.hid hstep;have Fs:=Lib.hid hok;have Uc:(m:Int)<2:=by omega
     clear hnd hstep hok hcell;go_upto_region 8 with fail
     refine ai fun w3 hw3=>?_
     have hX:=av.new wq 37 #[.int .i64 nd.v,.int .u32 nd.lo,.int .u32 nd.hi];have hs3:Same wq w3:=by rw[hw3];exact(ah.refl _ _).alloc _
     rw[← hw3] at hX;clear hw3 s0 s1 s2;have hk3:=H.out.same (Uj.out.trans hs3 (fun _ _ h=>h));have c1:=hk3.c1;have XX:=hk3.blk.lt;have x0:=hX.cell 0;have x1:=hX.cell 1;have x2:=hX.cell 2;have hxl:=hX.lt;simp at x0 x1 x2;have HX:=Lib.hid hX;have dX:=Lib.hid hs3;clear hX hs3 hk3;refine aG (fun _=>False) [([0,1,2,3,4,5],6),([7,8,9,10],11)] (by kernel_rfl) (by kernel_rfl) ?_;simp only[di,pick,List.map_cons,List.map_nil,List.getD_cons_zero,List.getD_cons_succ];repeat (any_goals (first | go_big_quiet_step (fail) | quiet_step (fail)))
     refine wpQuiet_nil ?_;refine aa rfl fun K hK=>?_
     go_simp;have hsd:Same w w3.drew:=(Uj.out.trans dX.out (fun _ _ h=>h)).drew;refine(HF.out nd Fs.out _ hsd).mono ?_;rintro e w4 ⟨rfl,hs4⟩;have CX:Same w3 w4:=(ah.refl _ _).drew.trans hs4 (fun _ _ h=>h);refine hK _ _ (aY.bz CX) ?_;clear hK K hs4 hsd;repeat (any_goals (first | go_big_quiet_step (fail) | quiet_step (fail)))
     refine wpQuiet_nil ?_;have kP:=HX.out.ag CX id;have x0:=kP.cell 0;have x1:=kP.cell 1;have x2:=kP.cell 2;have XK:=kP.lt;simp at x0 x1 x2;have uY:=Lib.hid kP;have gH:=Lib.hid (dX.out.trans CX (fun _ _ h=>h));clear kP CX HX dX;obtain⟨l,hl⟩:∃ l,look k.L nd=l:=⟨_,rfl⟩;rw[hl];have EY:=Lib.hid hl;clear hl;cases l with
     | some r =>
      go_wp2;go_roundw
      case rel =>
       have hC2:=Ui.out;have he:(uZ.take (m+1)).foldl (aP k) (bI k x (cs.take n))=(uZ.take m).foldl (aP k) (bI k x (cs.take n)):=by
        rw[HST.out];unfold aP;rw[if_neg (by rw[EY.out];simp)]
       refine⟨m+1,M',by omega,by go_num,Lg.out.ag gH.out id,⟨by rw[he];exact hC2.keys,fun p hp=>by have:=hC2.lo p hp;omega⟩,Uj.out.trans gH.out (fun _ _ h=>h),XW.out.ag gH.out (fun _ _=>id),Nat.lt_of_lt_of_le hgt gH.out.size⟩
      case measure=>simp[intOf] <;> omega
     | none =>
      by_cases hee:nd.lo=nd.hi
      ·have Li:(nd.lo != nd.hi)=false:=by simpa using hee
       have HEE:=Lib.hid hee;clear hee;go_wp2;go_roundw
       case rel =>
        have hC2:=Ui.out;have he:(uZ.take (m+1)).foldl (aP k) (bI k x (cs.take n))=(uZ.take m).foldl (aP k) (bI k x (cs.take n)):=by
         rw[HST.out];unfold aP;rw[if_neg (by rw[EY.out];simp;exact HEE.out)]
        refine⟨m+1,M',by omega,by go_num,Lg.out.ag gH.out id,⟨by rw[he];exact hC2.keys,fun p hp=>by have:=hC2.lo p hp;omega⟩,Uj.out.trans gH.out (fun _ _ h=>h),XW.out.ag gH.out (fun _ _=>id),Nat.lt_of_lt_of_le hgt gH.out.size⟩
       case measure=>simp[intOf] <;> omega
      ·have Li:(nd.lo != nd.hi)=true:=by simpa using hee
       have HEE:=Lib.hid hee;clear hee;go_upto_region 10 with fail
       have hz:=wQ;have hMw:NM 3 .i64 w4.drew w.heap.size M':=(Lg.out.ag gH.out id).of_heap rfl;have Uk:M'.length<maxLen:=by
        have h1:=Ui.out.keys;have h2:(keys M').length=M'.length:=by simp[keys]
        have h3:∀ (l:List Nd) (s:List Nd),(l.foldl (aP k) s).length≤s.length+l.length:=by
         intro l
         induction l with
         | nil=>intro s;simp
         | cons q l ih =>
          intro s;rw[List.foldl_cons]
          have:=ih (aP k s q)
          have h4:(aP k s q).length≤s.length+1:=by
           unfold aP;split
           ·split <;> simp
           ·omega
          simp only[List.length_cons];omega
        have h5:=h3 (uZ.take m) (bI k x (cs.take n));have h6:=h3 ((cs.take n).flatMap (dP x)) [];have h7:((cs.take n).flatMap (dP (x:Int))).length=(cs.take n).length*2:=by
         clear h1 h2 h3 h5 h6
         induction cs.take n with
         | nil=>rfl
         | cons q l ih=>rw[List.flatMap_cons,List.length_append,ih];simp[dP] <;> omega
        rw[← h1,h2,List.length_take] at h5;rw[List.length_take] at h7;have h8:bI k x (cs.take n)=((cs.take n).flatMap (dP x)).foldl (aP k) []:=rfl;rw[← h8] at h6;simp only[List.length_nil] at h6;unfold maxLen;omega
       obtain⟨v0,st,w5,hent,XZ,ME,hst⟩:=hMw.entry Tryz.underlying171 Tryz.underlying3 wQ Uk Fs.out;have hlk:=Ui.out.look nd;obtain⟨cv,hcv⟩:∃ cv,(look M' nd).getD 0=cv:=⟨_,rfl⟩;have X0:=hMw.MC Tryz.underlying171 Tryz.underlying3 (wQ _) Fs.out;rw[hcv] at X0 ME hlk;have hwf:(Lit.int .i64 (cv+1)).wf=true:=by simp[Lit.wf,IntKind.min,IntKind.max,IntKind.signed,IntKind.bits] <;> omega
       have aaW:=ME w5 rfl;have X4:=Lib.hid hst;have GZ:=Lib.hid XZ;have Ul:=Lib.hid hcv;obtain⟨cv0,cv1⟩:=hlk;unfold Nd.val at X0 aaW hent;clear hst XZ hcv ME hMw Uk;have hXm:¬ (wq.heap.size=w.heap.size):=by have:=Lg.out.lt;omega
       refine Ci (fun b=>b=w.heap.size) (.q [0,1] (.fork 2 (.q [3] (.step 4 (.q [5] (.last 6)))) 4 (.q [5] (.step 2 (.q [3] (.last 6)))))) (by kernel_rfl) (by kernel_rfl) ?_;simp only[Et,pick,List.map_cons,List.map_nil,List.getD_cons_zero,List.getD_cons_succ];repeat (any_goals (first | go_big_quiet_step (fail) | quiet_step (fail)))
       refine wpQuiet_nil ?_;refine⟨?_,?_⟩
       ·refine aa rfl fun K hK=>?_
        go_simp;refine hK _ _ (aY.bz ((ah.refl _ _).drew)) ?_;clear hK K;repeat (any_goals (first | go_big_quiet_step (fail) | quiet_step (fail)))
        refine wpQuiet_nil ?_;refine aa rfl fun K hK=>?_
        go_simp;refine hK _ _ (aY.bz ((ah.refl _ _).drew.trans GZ.out (fun _ _ h=>h))) ?_;clear hK K;repeat (any_goals (first | go_big_quiet_step (fail) | quiet_step (fail)))
        refine wpQuiet_nil ?_;obtain⟨w6,MF,jW,Mm⟩:=X4.out w5 (cv+1) hwf rfl;unfold goInt at MF;refine wpList_plain rfl fun K hK=>?_
        go_simp;refine hK _ _ ?_;clear hK K;have X5:=Lib.hid jW;have Lj:=Lib.hid (GZ.out.trans Mm (fun _ _ h=>h));clear jW Mm MF;go_wp2;go_roundw
        case rel =>
         have hC2:=Ui.out;have he:(uZ.take (m+1)).foldl (aP k) (bI k x (cs.take n))=(if nd∈((uZ.take m).foldl (aP k) (bI k x (cs.take n))) then ((uZ.take m).foldl (aP k) (bI k x (cs.take n))) else ((uZ.take m).foldl (aP k) (bI k x (cs.take n)))++[nd]):=by
          rw[HST.out];unfold aP;rw[if_pos ⟨EY.out,HEE.out⟩]
         have X8:=hC2.put nd;rw[Ul.out,← he] at X8;have hwx:Same w w4.drew:=(Uj.out.trans gH.out (fun _ _ h=>h)).drew;have hfS:Same w w6:=hwx.trans Lj.out (fun i hi h=>by omega);refine⟨m+1,_,by omega,by go_num,X5.out,X8,hfS,?_,?_⟩
         ·have h1:=XW.out.ag gH.out (fun _ _=>id);refine Go.Tk.Own.ag (w:=w4.drew) (S:=fun x=>x=w.heap.size) (h1.ag ((ah.refl (fun _=>False) _).drew) (fun _ _=>id)) Lj.out ?_;intro ad had;injection had with had
          subst had
          have:=HM.out.lt
          simp only;omega
         ·have h1:=gH.out.size;have h2:=Lj.out.size;have h3:w4.drew.heap.size=w4.heap.size:=rfl;omega
        case measure=>simp[intOf] <;> omega
       ·refine aa rfl fun K hK=>?_
        go_simp;refine hK _ _ (aY.bz ((ah.refl _ _).drew.trans GZ.out (fun _ _ h=>h))) ?_;clear hK K;repeat (any_goals (first | go_big_quiet_step (fail) | quiet_step (fail)))
        refine wpQuiet_nil ?_;refine aa rfl fun K hK=>?_
        go_simp;refine hK _ _ (aY.bz ((ah.refl _ _).drew.trans GZ.out (fun _ _ h=>h))) ?_;clear hK K;repeat (any_goals (first | go_big_quiet_step (fail) | quiet_step (fail)))
        refine wpQuiet_nil ?_;obtain⟨w6,MF,jW,Mm⟩:=X4.out w5 (cv+1) hwf rfl;unfold goInt at MF;refine wpList_plain rfl fun K hK=>?_
        go_simp;refine hK _ _ ?_;clear hK K;have X5:=Lib.hid jW;have Lj:=Lib.hid (GZ.out.trans Mm (fun _ _ h=>h));clear jW Mm MF;go_wp2;go_roundw
        case rel =>
         have hC2:=Ui.out;have he:(uZ.take (m+1)).foldl (aP k) (bI k x (cs.take n))=(if nd∈((uZ.take m).foldl (aP k) (bI k x (cs.take n))) then ((uZ.take m).foldl (aP k) (bI k x (cs.take n))) else ((uZ.take m).foldl (aP k) (bI k x (cs.take n)))++[nd]):=by
          rw[HST.out];unfold aP;rw[if_pos ⟨EY.out,HEE.out⟩]
         have X8:=hC2.put nd;rw[Ul.out,← he] at X8;have hwx:Same w w4.drew:=(Uj.out.trans gH.out (fun _ _ h=>h)).drew;have hfS:Same w w6:=hwx.trans Lj.out (fun i hi h=>by omega);refine⟨m+1,_,by omega,by go_num,X5.out,X8,hfS,?_,?_⟩
         ·have h1:=XW.out.ag gH.out (fun _ _=>id);refine Go.Tk.Own.ag (w:=w4.drew) (S:=fun x=>x=w.heap.size) (h1.ag ((ah.refl (fun _=>False) _).drew) (fun _ _=>id)) Lj.out ?_;intro ad had;injection had with had
          subst had
          have:=HM.out.lt
          simp only;omega
         ·have h1:=gH.out.size;have h2:=Lj.out.size;have h3:w4.drew.heap.size=w4.heap.size:=rfl;omega
        case measure=>simp[intOf] <;> omega
    ·obtain rfl:m=2:=by omega
     have Uc:¬ (2:Int)<2:=by omega
     go_wp2;go_roundw
     case rel =>
      have hC2:=Ui.out;rw[show uZ.take 2=uZ from List.take_of_length_le (by have:=HL.out;omega),← HFT.out] at hC2;exact⟨n+1,M',by omega,by go_num,Lg.out,hC2,Uj.out⟩
     case measure=>simp[intOf] <;> omega
  ·obtain rfl:n=cs.length:=by omega
   have hI:¬ ((cs.length:Nat):Int)<(cs.length:Int):=by omega
   have hM:=HM.out;go_upto_region 13 with fail
   refine aR 1 ?_;simp only[List.take_succ_cons,List.take_zero,List.drop_succ_cons,List.drop_zero];repeat (any_goals (first | go_big_quiet_step (fail) | quiet_step (fail)))
   refine wpQuiet_nil ?_;refine wpList_plain rfl fun K hK=>?_
   refine Own.Sb (.tmp 66) _ rfl Tryz.underlying171 rfl hM ?_;refine hK _ _ ?_;clear hK K hM;go_wp2;go_ret;have hC2:=HC.out.keys;rw[List.take_length] at hC2;refine⟨?_,HS.out⟩;rw[← hC2];simp[keys]
end
def az (k:KS) (x y:Int):List gI:=dO k y (rising (jE k.L x.toNat))
def aZ (k:KS) (cs:List gI):KS:=cs.foldl (fun k c=>jo k c.n) k
def bX (k:KS) (x:Int) (c:gI):KS:=bN (dD k ⟨x,c.jU,c.jV⟩).2 (dD k ⟨x,c.jU,c.jV⟩).1
def bT (k:KS) (x:Int) (c:gI):KS:=bN (dD (bX k x c) ⟨x,c.jG,c.jH⟩).2 (dD (bX k x c) ⟨x,c.jG,c.jH⟩).1
def pG (k:KS) (x y:Int) (c:gI):Nd:=⟨y,(dD k ⟨x,c.jU,c.jV⟩).1,(dD (bX k x c) ⟨x,c.jG,c.jH⟩).1⟩
def ic (x y:Int) (k:KS) (c:gI):KS:=qH (o5 (bT k x c) c.r (pG k x y c)) (pG k x y c) c.r
def bW (k:KS) (x y:Int) (cs:List gI):KS:=cs.foldl (ic x y) k
def fA (k:KS) (cs:List gI):KS:=cs.foldl (fun k c=>jY (jY k c.n.lo) c.n.hi) k
def mH (k:KS) (l:Nat) (x y:Int):KS:={ k with ord:=(k.ord.set l y).set (l+1) x,dN:=(k.dN.set x.toNat (l+1)).set y.toNat l }
def gJ (k:KS) (x y:Int):Bool:=decide (k.ac+(bI k x (az k x y)).length≤k.c)
def dQ (k:KS) (l:Nat) (x y:Int):KS:=mH (fA (bW (aZ k (az k x y)) x y (az k x y)) (az k x y)) l x y
def dR (k:KS) (l:Nat):Bool×KS :=
 if gJ k (k.ord.getD l 0) (k.ord.getD (l+1) 0) then (true,dQ k l (k.ord.getD l 0) (k.ord.getD (l+1) 0)) else (false,k)
def CY (k:KS) (r:Int):Prop:=0≤r∧r<4294967296∧(1<r→∃ u:Int,k.us[r.toNat]?=some u∧0≤u∧u<100000000)
structure Aw (k:KS) (x y:Int) (c:gI):Prop where
 b1:∃ ext X,Bk k ext X
 n1:jO k ⟨x,c.jU,c.jV⟩
 r1:c.jU≠c.jV→look k.L ⟨x,c.jU,c.jV⟩=none→k.ac<k.c
 u1:CY (dD k ⟨x,c.jU,c.jV⟩).2 (dD k ⟨x,c.jU,c.jV⟩).1
 b2:∃ ext X,Bk (bX k x c) ext X
 n2:jO (bX k x c) ⟨x,c.jG,c.jH⟩
 r2:c.jG≠c.jH→look (bX k x c).L ⟨x,c.jG,c.jH⟩=none→(bX k x c).ac<(bX k x c).c
 u2:CY (dD (bX k x c) ⟨x,c.jG,c.jH⟩).2 (dD (bX k x c) ⟨x,c.jG,c.jH⟩).1
 b3:∃ ext X,Bk (bT k x c) ext X
 n3:jO (bT k x c) (pG k x y c)
 m3:∃ (m:Nat) (n0:Nd),c.r=m∧2≤m∧(bT k x c).ls[m]?=some ⟨n0,true,0⟩
structure wR (k:KS) (l x y:Nat):Prop where
 hx:k.ord[l]?=some (x:Int)
 hy:k.ord[l+1]?=some (y:Int)
 xn:x<k.n
 yn:y<k.n
 xy:x≠y
 n64:k.n≤64
 LL:k.L.length≤2000000
 c1:k.c≤4000000
 rin:∀ r∈rising (jE k.L x),Sz k r
 cok:∀ c∈az k x y,SE c∧c.n.ok∧0≤c.n.lo∧c.n.lo<4294967296∧0≤c.n.hi∧c.n.hi<4294967296
 s2:gJ k x y=true→∀ i c,(az k x y)[i]?=some c→Aw (bW (aZ k (az k x y)) x y ((az k x y).take i)) x y c
 s3:gJ k x y=true→∀ i c,(az k x y)[i]?=some c→(∃ ext,Bk (fA (bW (aZ k (az k x y)) x y (az k x y)) ((az k x y).take i)) (c.n.lo::ext) [])∧
  ∃ ext,Bk (jY (fA (bW (aZ k (az k x y)) x y (az k x y)) ((az k x y).take i)) c.n.lo) (c.n.hi::ext) []
 lx:x<k.dN.length
 ly:y<k.dN.length
section
variable {w:World} {kp:Nat} {k:KS} {a:KA} {ext:List Int} {X:List bP} {n:Nd}
theorem Fu (k:KS) (r:Int):(bN k r).n=k.n:=(jF (k:=k) (r:=r)).1
theorem Ay (k:KS) (n:Nd):(aT k n).n=k.n:=by rw[ek];rfl
theorem Az (k:KS) (n:Nd):(dD k n).2.n=k.n:=by
 unfold dD;split
 ·rfl
 ·cases look k.L n with
  | none=>exact Ay k n
  | some r=>rfl
theorem G5 (k:KS) (x:Int) (c:gI):(bX k x c).n=k.n:=by unfold bX;rw[Fu,Az]
theorem G6 (k:KS) (x:Int) (c:gI):(bT k x c).n=k.n:=by unfold bT;rw[Fu,Az,G5]
theorem Qo (x y:Int) (k:KS) (c:gI):(ic x y k c).n=k.n:=G6 k x c
theorem u6 (cs:List gI):∀ (k:KS),(aZ k cs).n=k.n:=by
 induction cs with
 | nil=>intro k;rfl
 | cons c cs ih=>intro k;exact ih (jo k c.n)
theorem AA (x y:Int) (cs:List gI):∀ (k:KS),(bW k x y cs).n=k.n:=by
 induction cs with
 | nil=>intro k;rfl
 | cons c cs ih=>intro k;exact(ih (ic x y k c)).trans (Qo x y k c)
theorem nG:∀ (f:Nat) (k:KS) (st:List Int),(iR f k st).n=k.n
 | 0,_,_=>rfl
 | _+1,_,[]=>rfl
 | f+1,k,r::st=>by
  unfold iR;split
  ·exact nG f k st
  ·split
   ·exact nG f _ st
   ·exact nG f _ _
theorem G7 (cs:List gI):∀ (k:KS),(fA k cs).n=k.n:=by
 induction cs with
 | nil=>intro k;rfl
 | cons c cs ih=>intro k;exact(ih _).trans ((nG _ _ _).trans (nG _ _ _))
def iw (k:KS):Nat×Nat×List Int×List Int×List Int:=(k.n,k.c,k.ord,k.dN,k.tr)
theorem kY (k:KS) (r:Int):iw (bN k r)=iw k:=by unfold bN;split <;> rfl
theorem oF (k:KS) (n:Nd):iw (aT k n)=iw k:=by rw[ek];rfl
theorem qN (k:KS) (n:Nd):iw (dD k n).2=iw k:=by
 unfold dD;split
 ·rfl
 ·cases look k.L n with
  | none=>exact oF k n
  | some r=>rfl
theorem oG (x y:Int) (k:KS) (c:gI):iw (ic x y k c)=iw k:=by
 show iw (bT k x c)=iw k;unfold bT;rw[kY,qN];unfold bX;rw[kY,qN]
theorem jQ:∀ (f:Nat) (k:KS) (st:List Int),iw (iR f k st)=iw k
 | 0,_,_=>rfl
 | _+1,_,[]=>rfl
 | f+1,k,r::st=>by
  unfold iR;split
  ·exact jQ f k st
  ·split
   ·exact jQ f _ st
   ·exact jQ f _ _
theorem qO {α:Type} (f:KS→α→KS) (h:∀ k c,iw (f k c)=iw k):∀ (cs:List α) (k:KS),iw (cs.foldl f k)=iw k
 | [],_=>rfl
 | c::cs,k=>(qO f h cs (f k c)).trans (h k c)
theorem kZ (k:KS) (cs:List gI):iw (aZ k cs)=iw k:=qO (fun k (c:gI)=>jo k c.n) (fun _ _=>rfl) cs k
theorem lg (k:KS) (x y:Int) (cs:List gI):iw (bW k x y cs)=iw k:=qO _ (oG x y) cs k
theorem iI (k:KS) (cs:List gI):iw (fA k cs)=iw k:=qO (fun k (c:gI)=>jY (jY k c.n.lo) c.n.hi) (fun _ _=>(jQ _ _ _).trans (jQ _ _ _)) cs k
theorem l8 {α β:Type} (f:β→α→β) (s:β) {l:List α} {i:Nat} {c:α} (h:l[i]?=some c):(l.take (i+1)).foldl f s=f ((l.take i).foldl f s) c:=by
 rw[List.take_add_one,h];simp
theorem zo (h:KW w kp k a) (l x y:Nat) (hl:l<4000000) (ok:wR k l x y) :
  Calls Tryz.prog 63 #[.pointer (some ⟨kp,0,none⟩),.int .i64 l] w fun e w'=>e=.returned (.bool (dR k l).1)∧∃ a',KW w' kp (dR k l).2 a'∧dB k.n kp w a w' a':=by
 have heK:dR k l=if gJ k x y then (true,dQ k l x y) else (false,k):=by
  unfold dR;have h1:k.ord.getD l 0=x:=by rw[List.getD_eq_getElem?_getD,ok.hx];rfl
  have h2:k.ord.getD (l+1) 0=y:=by rw[List.getD_eq_getElem?_getD,ok.hy];rfl
  rw[h1,h2]
 obtain⟨b,hb⟩:∃ b,gJ k x y=b:=⟨_,rfl⟩;rw[heK,hb];clear heK;have hkl:=h.blk.lt;have c5:=h.c5;have Fs:=Lib.hid ok;have Um:x<64:=by have:=ok.xn;have:=ok.n64;omega
 have acF:y<64:=by have:=ok.yn;have:=ok.n64;omega
 have hol:l+1<k.ord.length:=aQ ok.hy;obtain⟨ob,ho1,aaX,ho2⟩:=h.ord.dV ok.hx;obtain⟨ob2,ho3,_,ho4⟩:=h.ord.dV ok.hy;rw[ho1] at ho3;injection ho3 with ho3
 injection ho3 with ho3
 subst ho3;rw[ho1] at c5;have hoI:(l:Int)<k.ord.length:=by omega
 have Un:(l:Int)+1<k.ord.length:=by omega
 have hlw:IntKind.i64.wrap ((l:Int)+1)=l+1:=IntWalk.i64_in _ (by omega);have hl0:(0:Int)≤(l:Int)+1:=by omega
 have hlt:((l:Int)+1).toNat=l+1:=by omega
 have hcr:=fun w' (hw:Same w w')=>wM (h.same hw) x y ok.xn ok.rin (by have:=ok.LL;omega)
 have hfr:=fun w' (hw:Same w w') A C (hO:Go.Tk.Own w' 147 8 gI.cells A (az k x y).length C (az k x y)) (hlen:(az k x y).length≤4000000)=>Fq (h.same hw) x Um A C (az k x y) hO (fun c hc=>(ok.cok c hc).1) hlen
 have hrm:=fun w' (hw:Same w w') (m:Nat) (hm:m≤4000000)=>zk (h.same hw) m hm
 have hct:dO k y (rising (jE k.L x))=az k x y:=by unfold az;rw[Int.toNat_natCast]
 rw[hct] at hcr;have hcl:(az k x y).length≤2000000:=by
  rw[← hct];have h1:(dO k y (rising (jE k.L x))).length≤(rising (jE k.L x)).length:=by unfold dO;rw[List.length_map];exact List.length_filter_le _ _
  have h2:(jE k.L x).length≤k.L.length:=List.length_filter_le _ _;have h3:=jP (jE k.L x);have h4:=ok.LL;omega
 have hRm:b=decide (k.ac+(bI k x (az k x y)).length≤k.c):=hb.symm;have qP:=Lib.hid hb;clear hb;have hfl:(bI k x (az k x y)).length≤2*(az k x y).length:=Fp _ _ _;generalize hcs:az k x y=cs at *
 have HC:=Lib.hid hcr;have uX:=Lib.hid hfr;have Qi:=Lib.hid hrm;have HRR:=Lib.hid hRm;have Ms:=Lib.hid hcs;have H:=Lib.hid h;have HX:=Lib.hid ok.hx;clear h hcr hfr hrm hRm hct hcs ok;replace ho2:w.cell? ⟨ob,l,none⟩=some (.int .i64 x):=ho2;replace ho4:w.cell? ⟨ob,l+1,none⟩=some (.int .i64 y):=ho4;have X9:=Lib.hid ho1;clear ho1;go_enter Tryz.func63,Tryz.ntmps63;go_wp2_with (fail)
 refine dZ (by kernel_rfl) (by kernel_rfl) ?_;repeat (any_goals (first | go_big_quiet_step (fail) | quiet_step (fail)))
 refine wpQuiet_nil ?_;rintro _ ⟨qq,rfl⟩;have hs1:Same w (more w qq):=ay _ _;generalize more w qq=w1 at *
 have aW:=Lib.hid hs1;clear hs1 c5 ho2 ho4 hoI Un aaX hlw hl0 hlt hkl;go_wp2_with (fail)
 refine(HC.out _ aW.out).mono ?_;rintro e w2 ⟨A,C,rfl,hO,hFr,hs2⟩;have HS2:=Lib.hid (aW.out.trans hs2 (fun _ _ h=>h));have HO:=Lib.hid hO
 have Qp:Hid (∀ b,rowOf A b→¬ iF k.n kp a b∧w.heap.size≤b):=Lib.hid (by
  intro b hb;have h1:=hFr b hb;have h2:=aW.out.size
  exact⟨fun hk=>by have:=H.out.lt hk;omega,by omega⟩)
 clear hs2 hO hFr HC aW;go_wp2_with (fail)
 have hf2:∀ w',Same w2 w'→Calls Tryz.prog 98 #[.pointer (some ⟨kp,0,none⟩),.int .i64 x,.slice A cs.length C] w' fun e w''=>e=.returned (.int .i64 (bI k x cs).length)∧Same w' w'' :=
  fun w' hw=>uX.out w' (HS2.out.trans hw (fun _ _ h=>h)) A C (HO.out.ag hw (fun _ _=>id)) (by omega)
 have hr2:∀ w',Same w2 w'→Calls Tryz.prog 57 #[.pointer (some ⟨kp,0,none⟩),.int .i64 (bI k x cs).length] w' fun e w''=>e=.returned (.bool (decide (k.ac+(bI k x cs).length≤k.c)))∧Same w' w'' :=
  fun w' hw=>Qi.out w' (HS2.out.trans hw (fun _ _ h=>h)) _ (by omega)
 rw[← HRR.out] at hr2;have Pq:=Lib.hid hf2;have HR2:=Lib.hid hr2;clear hf2 hr2 uX Qi;have hkl:kp<w2.heap.size:=(H.out.same HS2.out).blk.lt;refine dZ (by kernel_rfl) (by kernel_rfl) ?_;repeat (any_goals (first | go_big_quiet_step ((first | (go_at_call 98;exact aX (Pq.out _ (ay _ _))) | (go_at_call 57;exact aX (HR2.out _ (ay _ _))))) | quiet_step ((first | (go_at_call 98;exact aX (Pq.out _ (ay _ _))) | (go_at_call 57;exact aX (HR2.out _ (ay _ _)))))))
 refine wpQuiet_nil ?_;rintro _ ⟨qq,rfl⟩;have hs3:Same w2 (more w2 qq):=ay _ _;generalize more w2 qq=w3 at *
 have hk3:=H.out.same (HS2.out.trans hs3 (fun _ _ h=>h));have Cx:=Lib.hid (HO.out.ag hs3 (fun _ _=>id));have GI:=Lib.hid hk3;have dX:=Lib.hid (HS2.out.trans hs3 (fun _ _ h=>h));clear hs3 hk3 HO HS2 Pq HR2 hkl;cases b with
 | false =>
  go_wp2;go_ret;exact⟨rfl,a,GI.out,dB.same dX.out⟩
 | true =>
  go_wp2_with (fail)
  simp only[Bool.not_true];go_loopw [47] (fun t wr=>∃ i:Nat,i≤cs.length∧t=.int .i64 i∧KW wr kp (aZ k (cs.take i)) a∧dB k.n kp w3 a wr a) (fun t _=>cs.length-(intOf t).toNat)
  case atStart=>exact⟨0,by omega,rfl,GI.out,dB.refl _ _ _ _⟩
  case round =>
   obtain⟨i,hi,rfl,hk1,hg1⟩:=hrel;obtain⟨a1,ha1⟩:∃ a1,a=a1:=⟨_,rfl⟩;rw[ha1] at hk1;have HA1:=Lib.hid ha1;clear ha1;have CV:Hid ((aZ k (cs.take i)).n=k.n):=Lib.hid (u6 _ _);have hkl:=hk1.blk.lt;have c1:=hk1.c1;by_cases hlt:i<cs.length
   ·obtain⟨c,hc⟩:∃ c,cs[i]?=some c:=⟨_,List.getElem?_eq_getElem hlt⟩;have hrow:=Cx.out.ag hg1.ag (fun ad had=>(Qp.out _ ⟨ad,had,rfl⟩).1);obtain⟨sb,rfl,hsb,hcell⟩:=hrow.get gI.ak hc;have s0:wr.cell? ⟨sb,i*8,none⟩=some (.int .u32 c.r):=hcell 0 (by omega);have s1:wr.cell? ⟨sb,i*8+1,none⟩=some (.int .i64 c.n.v):=hcell 1 (by omega);have s2:wr.cell? ⟨sb,i*8+2,none⟩=some (.int .u32 c.n.lo):=hcell 2 (by omega);have s3:wr.cell? ⟨sb,i*8+3,none⟩=some (.int .u32 c.n.hi):=hcell 3 (by omega);have s4:wr.cell? ⟨sb,i*8+4,none⟩=some (.int .u32 c.jU):=hcell 4 (by omega);have s5:wr.cell? ⟨sb,i*8+5,none⟩=some (.int .u32 c.jG):=hcell 5 (by omega);have s6:wr.cell? ⟨sb,i*8+6,none⟩=some (.int .u32 c.jV):=hcell 6 (by omega);have s7:wr.cell? ⟨sb,i*8+7,none⟩=some (.int .u32 c.jH):=hcell 7 (by omega);have hI:(i:Int)<(cs.length:Int):=by omega
    have HCE:=Lib.hid hc;clear hc hrow hcell;have qx:=Lib.hid hk1;have Am:=Lib.hid hg1;clear hk1 hg1;go_upto_region 8 with fail
    refine ai fun wb hwb=>?_
    have hBx:=av.new wr 147 #[.int .u32 c.r,.int .i64 c.n.v,.int .u32 c.n.lo,.int .u32 c.n.hi,.int .u32 c.jU,.int .u32 c.jG,.int .u32 c.jV,.int .u32 c.jH];have wS:Same wr wb:=by rw[hwb];exact(ah.refl _ _).alloc _
    rw[← hwb] at hBx;clear hwb s0 s1 s2 s3 s4 s5 s6 s7;have Pt:¬ iF k.n kp a1 wr.heap.size:=fun hx=>by
     have:=qx.out.lt (by rw[CV.out];exact hx)
     omega
    have HBF:=Lib.hid Pt;have l7:=Lib.hid wS;have hkb:=qx.out.same wS;have Qd:=hkb.blk.lt;have x0:=hBx.cell 0;have x1:=hBx.cell 1;have x2:=hBx.cell 2;have x3:=hBx.cell 3;have x4:=hBx.cell 4;have x5:=hBx.cell 5;have x6:=hBx.cell 6;have x7:=hBx.cell 7;have xl:=hBx.lt;simp at x0 x1 x2 x3 x4 x5 x6 x7;have yH:=Lib.hid hBx;have Lh:=Lib.hid hkb;clear hBx hkb wS Pt;have hUk:¬ UB a1.U k.n kp:=fun hx=>Lh.out.dj 6 0 kp (by omega) (by rw[CV.out];exact hx) rfl
    have hUX:¬ UB a1.U k.n wr.heap.size:=fun hx=>HBF.out ⟨6,hx⟩
    have c1:=Lh.out.c1;have hnk:c.n.ok:=(Fs.out.cok c (by rw[Ms.out];exact List.mem_of_getElem? HCE.out)).2.1;have hrm:=fun w' (hw:KW w' kp (aZ k (cs.take i)) a1)=>CR hw hnk
    rw[CV.out] at hrm;have Qi:=Lib.hid hrm;clear hrm hnk;refine aG (UB a1.U k.n) [([0,1,2,3,4,5,6],7)] (by kernel_rfl) (by kernel_rfl) ?_;simp only[di,pick,List.map_cons,List.map_nil,List.getD_cons_zero,List.getD_cons_succ];repeat (any_goals (first | go_big_quiet_step (fail) | quiet_step (fail)))
    refine wpQuiet_nil ?_;refine wpList_plain rfl fun K hK=>?_
    go_simp;refine(Qi.out _ (Lh.out.same ((ah.refl _ _).drew))).mono ?_;rintro e wc ⟨rfl,hkc,hgc,_⟩;refine hK _ _ ?_;clear hK K;have Wn:=Lib.hid hkc;have Ya:=Lib.hid ((dB.same (a:=a1) (kp:=kp) (n:=k.n) l7.out).trans ((dB.same ((ah.refl _ _).drew)).trans hgc));clear hkc hgc;go_wp2;go_roundw
    case rel =>
     have hst:aZ k (cs.take (i+1))=jo (aZ k (cs.take i)) c.n:=l8 _ _ HCE.out;refine⟨i+1,by omega,by go_num,?_,?_⟩
     ·rw[hst,HA1.out];exact Wn.out
     ·have:=Am.out.trans (HA1.out ▸ Ya.out)
      exact this
    case measure=>simp[intOf] <;> omega
   ·obtain rfl:i=cs.length:=by omega
    have hI:¬ ((cs.length:Nat):Int)<(cs.length:Int):=by omega
    rw[List.take_length] at hk1;have qx:=Lib.hid hk1;have Am:=Lib.hid hg1;clear hk1 hg1 c1
    rename World=>w4
    go_wp2_with (fail)
    go_loopw [62] (fun t wr=>∃ (i:Nat) (a1:KA),i≤cs.length∧t=.int .i64 i∧KW wr kp (bW (aZ k cs) x y (cs.take i)) a1∧dB k.n kp w3 a wr a1) (fun t _=>cs.length-(intOf t).toNat)
    case atStart=>exact⟨0,a,by omega,rfl,by rw[HA1.out];exact qx.out,Am.out⟩
    case round =>
     clear qx Am HA1 a1 CV;obtain⟨i,a1,hi,rfl,hk1,hg1⟩:=hrel;have hkl:=hk1.blk.lt;by_cases hlt:i<cs.length
     ·obtain⟨c,hc⟩:∃ c,cs[i]?=some c:=⟨_,List.getElem?_eq_getElem hlt⟩;have hrow:=Cx.out.ag hg1.ag (fun ad had=>(Qp.out _ ⟨ad,had,rfl⟩).1);obtain⟨sb,rfl,hsb,hcell⟩:=hrow.get gI.ak hc;have s0:wr.cell? ⟨sb,i*8,none⟩=some (.int .u32 c.r):=hcell 0 (by omega);have s1:wr.cell? ⟨sb,i*8+1,none⟩=some (.int .i64 c.n.v):=hcell 1 (by omega);have s2:wr.cell? ⟨sb,i*8+2,none⟩=some (.int .u32 c.n.lo):=hcell 2 (by omega);have s3:wr.cell? ⟨sb,i*8+3,none⟩=some (.int .u32 c.n.hi):=hcell 3 (by omega);have s4:wr.cell? ⟨sb,i*8+4,none⟩=some (.int .u32 c.jU):=hcell 4 (by omega);have s5:wr.cell? ⟨sb,i*8+5,none⟩=some (.int .u32 c.jG):=hcell 5 (by omega);have s6:wr.cell? ⟨sb,i*8+6,none⟩=some (.int .u32 c.jV):=hcell 6 (by omega);have s7:wr.cell? ⟨sb,i*8+7,none⟩=some (.int .u32 c.jH):=hcell 7 (by omega);have hI:(i:Int)<(cs.length:Int):=by omega
      have HCE:=Lib.hid hc;have hso:=(Fs.out.s2 qP.out i c (by rw[Ms.out];exact hc));rw[Ms.out] at hso;obtain⟨k2,hk2⟩:∃ k2,bW (aZ k cs) x y (cs.take i)=k2:=⟨_,rfl⟩;have hn2:k2.n=k.n:=by rw[← hk2,AA,u6]
      have hst:bW (aZ k cs) x y (cs.take (i+1))=ic x y k2 c:=by
       rw[← hk2];exact l8 _ _ hc
      have Uh:=(Fs.out.cok c (by rw[Ms.out];exact List.mem_of_getElem? hc));rw[hk2] at hk1 hso;rw[← hn2] at hg1;have qx:=Lib.hid hk1;have Am:=Lib.hid hg1;have GK:=Lib.hid hn2;have HST:=Lib.hid hst;have HSO:=Lib.hid hso;clear hc hrow hcell hk1 hg1 hn2 hst hso hk2;go_upto_region 13 with fail
      refine ai fun wb hwb=>?_
      have hBx:=av.new wr 147 #[.int .u32 c.r,.int .i64 c.n.v,.int .u32 c.n.lo,.int .u32 c.n.hi,.int .u32 c.jU,.int .u32 c.jG,.int .u32 c.jV,.int .u32 c.jH];have wS:Same wr wb:=by rw[hwb];exact(ah.refl _ _).alloc _
      rw[← hwb] at hBx;clear hwb s0 s1 s2 s3 s4 s5 s6 s7;have Pt:¬ iF k2.n kp a1 wr.heap.size:=fun hx=>by
       have:=qx.out.lt hx
       omega
      have hkb:=qx.out.same wS;have x0:=hBx.cell 0;have x1:=hBx.cell 1;have x2:=hBx.cell 2;have x3:=hBx.cell 3;have x4:=hBx.cell 4;have x5:=hBx.cell 5;have x6:=hBx.cell 6;have x7:=hBx.cell 7;have xl:=hBx.lt;simp at x0 x1 x2 x3 x4 x5 x6 x7;have yH:=Lib.hid hBx;have Lh:=Lib.hid hkb;have l7:=Lib.hid wS;obtain⟨⟨e1,X1,hb1⟩,n1,r1,u1,⟨e2,X2,hb2⟩,n2,r2,u2,⟨e3,X3,hb3⟩,n3,⟨m,n0,hcr,hm2,Fv⟩⟩:=HSO.out;have Uo:=fun w' (hw:KW w' kp k2 a1)=>CQ hw hb1 n1 r1
      have hgn1:(dD k2 ⟨x,c.jU,c.jV⟩).2.n=k2.n:=Az _ _;have Qq:=fun w' aq (hw:KW w' kp (dD k2 ⟨x,c.jU,c.jV⟩).2 aq)=>qJ hw _ u1.1 u1.2.1 u1.2.2
      have htA:bX k2 x c=bN (dD k2 ⟨x,c.jU,c.jV⟩).2 (dD k2 ⟨x,c.jU,c.jV⟩).1:=rfl;rw[← htA] at Qq;have Uq:(bX k2 x c).n=k2.n:=G5 _ _ _;have Ur:=fun w' aq (hw:KW w' kp (bX k2 x c) aq)=>CQ hw hb2 n2 r2
      have hgn2:(dD (bX k2 x c) ⟨x,c.jG,c.jH⟩).2.n=k2.n:=(Az _ _).trans Uq;have Qr:=fun w' aq (hw:KW w' kp (dD (bX k2 x c) ⟨x,c.jG,c.jH⟩).2 aq)=>qJ hw _ u2.1 u2.2.1 u2.2.2
      have htB:bT k2 x c=bN (dD (bX k2 x c) ⟨x,c.jG,c.jH⟩).2 (dD (bX k2 x c) ⟨x,c.jG,c.jH⟩).1:=rfl;rw[← htB] at Qr;have Yb:(bT k2 x c).n=k2.n:=G6 _ _ _;have MG:pG k2 x y c=⟨y,(dD k2 ⟨x,c.jU,c.jV⟩).1,(dD (bX k2 x c) ⟨x,c.jG,c.jH⟩).1⟩:=rfl;have htC:ic x y k2 c=qH (o5 (bT k2 x c) c.r (pG k2 x y c)) (pG k2 x y c) c.r:=rfl;have G8:=fun w' aq (hw:KW w' kp (bT k2 x c) aq)=>Mq hw hb3 n3 hm2 Fv
      rw[← hcr] at G8;have Yc:(o5 (bT k2 x c) c.r (pG k2 x y c)).L.length<maxLen:=by
       have h1:=hb3.cnt;have h2:=hb3.iG;have h3:=hb3.lim;have h4:=hb3.cM;simp only[List.length_append] at h1;show(bT k2 x c).L.length<_;unfold maxLen;omega
      have aaY:c.r<4294967296:=by
       have h1:=aQ Fv;have h3:=hb3.lim;have h4:=hb3.cM;omega
      have aaZ:0≤c.r:=by omega
      have G9:=fun w' aq (hw:KW w' kp (o5 (bT k2 x c) c.r (pG k2 x y c)) aq)=>Mo hw (n3.ok hb3) c.r aaZ aaY Yc
      rw[← htC] at G9;obtain⟨lo,hlo⟩:∃ lo,(dD k2 ⟨x,c.jU,c.jV⟩).1=lo:=⟨_,rfl⟩;obtain⟨hi',hhi⟩:∃ h,(dD (bX k2 x c) ⟨x,c.jG,c.jH⟩).1=h:=⟨_,rfl⟩;rw[hlo] at Uo Qq u1 MG;rw[hhi] at Ur Qr u2 MG;rw[MG] at G8 G9;have Yd:=Lib.hid Uo;have Ye:=Lib.hid Qq;have Yf:=Lib.hid Ur;have Yg:=Lib.hid Qr;have SF:=Lib.hid G8;have Yh:=Lib.hid G9;have aa0:=Lib.hid Uq;have Qs:=Lib.hid Yb;have aa1:=Lib.hid hgn1;have aa2:=Lib.hid hgn2;clear hb1 hb2 hb3 n1 n2 n3 r1 r2 u1 u2 hcr hm2 Fv Uo Qq Ur Qr G8 G9 htA htB MG htC hlo hhi Yc hBx hkb wS Uq Yb hgn1 hgn2;refine aG (iF k2.n kp a1) [([0,1,2,3,4,5,6,7],8),([],9)] (by kernel_rfl) (by kernel_rfl) ?_;simp only[di,pick,List.map_cons,List.map_nil,List.getD_cons_zero,List.getD_cons_succ];repeat (any_goals (first | go_big_quiet_step (fail) | quiet_step (fail)))
      refine wpQuiet_nil ?_;refine aa rfl fun K hK=>?_
      go_simp;refine(Yd.out _ (Lh.out.same ((ah.refl _ _).drew))).mono ?_;rintro e wc ⟨rfl,a2,hkc,hgc⟩;have yI:dB k2.n kp wb a1 wc a2:=(dB.same ((ah.refl _ _).drew)).trans hgc;refine hK _ _ (aY.bz yI.ag) ?_;clear hK K;refine wpQuiet_nil ?_;have hBx:=yH.out.ag yI.ag Pt;have MI:=yI.apart (T:=fun b=>b=wr.heap.size) (by rintro b rfl;exact Pt) (by rintro b rfl;exact yH.out.lt) _ rfl;have x0:=hBx.cell 0;have x1:=hBx.cell 1;have x2:=hBx.cell 2;have x3:=hBx.cell 3;have x4:=hBx.cell 4;have x5:=hBx.cell 5;have x6:=hBx.cell 6;have x7:=hBx.cell 7;have xl:=hBx.lt;simp at x0 x1 x2 x3 x4 x5 x6 x7;have Us:=Lib.hid hBx;have Wn:=Lib.hid hkc;have Ya:=Lib.hid ((dB.same (a:=a1) (kp:=kp) (n:=k2.n) l7.out).trans yI);clear hBx hkc hgc yI yH Lh Pt Yd;go_wp2_with (fail)
      refine(Ye.out _ _ Wn.out).mono ?_;rintro e wd ⟨rfl,hkd,hgd⟩;rw[aa1.out] at hgd;have hBx:=Us.out.ag hgd.ag MI;have x0:=hBx.cell 0;have x1:=hBx.cell 1;have x2:=hBx.cell 2;have x3:=hBx.cell 3;have x4:=hBx.cell 4;have x5:=hBx.cell 5;have x6:=hBx.cell 6;have x7:=hBx.cell 7;have xl:=hBx.lt;simp at x0 x1 x2 x3 x4 x5 x6 x7;have Ut:=Lib.hid hBx;have HKD:=Lib.hid hkd;have SG:=Lib.hid (Ya.out.trans hgd);clear hBx hkd hgd Us Wn Ye;go_upto_region 15 with fail
      refine aG (iF k2.n kp a2) [([0,1,2,3,4,5,6,7],8),([],9)] (by kernel_rfl) (by kernel_rfl) ?_;simp only[di,pick,List.map_cons,List.map_nil,List.getD_cons_zero,List.getD_cons_succ];repeat (any_goals (first | go_big_quiet_step (fail) | quiet_step (fail)))
      refine wpQuiet_nil ?_;refine aa rfl fun K hK=>?_
      go_simp;refine(Yf.out _ _ (HKD.out.same ((ah.refl _ _).drew))).mono ?_;rintro e we ⟨rfl,a3,hke,hge⟩;rw[aa0.out] at hge;have hge':dB k2.n kp wd a2 we a3:=(dB.same ((ah.refl _ _).drew)).trans hge;refine hK _ _ (aY.bz hge'.ag) ?_;clear hK K;refine wpQuiet_nil ?_;have hBx:=Ut.out.ag hge'.ag MI;have Qt:=hge'.apart (T:=fun b=>b=wr.heap.size) (by rintro b rfl;exact MI) (by rintro b rfl;exact Ut.out.lt) _ rfl;have x0:=hBx.cell 0;have x1:=hBx.cell 1;have x2:=hBx.cell 2;have x3:=hBx.cell 3;have x4:=hBx.cell 4;have x5:=hBx.cell 5;have x6:=hBx.cell 6;have x7:=hBx.cell 7;have xl:=hBx.lt;simp at x0 x1 x2 x3 x4 x5 x6 x7;have Yi:=Lib.hid hBx;have Pv:=Lib.hid hke;have HGE:=Lib.hid (SG.out.trans hge');clear hBx hke hge hge' Ut HKD MI Yf;go_wp2_with (fail)
      refine(Yg.out _ _ Pv.out).mono ?_;rintro e wf ⟨rfl,hkf,hgf⟩;rw[aa2.out] at hgf;have hBx:=Yi.out.ag hgf.ag Qt;have x0:=hBx.cell 0;have x1:=hBx.cell 1;have x2:=hBx.cell 2;have x3:=hBx.cell 3;have x4:=hBx.cell 4;have x5:=hBx.cell 5;have x6:=hBx.cell 6;have x7:=hBx.cell 7;have xl:=hBx.lt;simp at x0 x1 x2 x3 x4 x5 x6 x7;have Yj:=Lib.hid hBx;have HKF:=Lib.hid hkf;have HGF:=Lib.hid (HGE.out.trans hgf);have acG:=hkf.blk.lt;clear hBx hkf hgf Yi Pv Yg;go_upto_region 18 with fail
      refine ai fun wg hwg=>?_
      have hNb:=av.new wf 37 #[.int .i64 y,.int .u32 lo,.int .u32 hi'];have hsg:Same wf wg:=by rw[hwg];exact(ah.refl _ _).alloc _
      rw[← hwg] at hNb;clear hwg;have hkg:=HKF.out.same hsg;have hBx:=Yj.out.ag hsg id;have hNF:¬ iF k2.n kp a3 wf.heap.size:=fun hx=>by
       have:=HKF.out.lt (by rw[Qs.out];exact hx)
       omega
      have c0:=hkg.c0;have acH:=hkg.blk.lt;have hS0:¬ rR a3.g a3.A a3.A' kp:=by
       rintro(hx | hx | hx)
       ·exact hkg.dj 0 1 kp (by omega) rfl hx
       ·exact hkg.dj 0 2 kp (by omega) rfl hx
       ·exact hkg.dj 0 3 kp (by omega) rfl hx
      have hSA:∀ b,rR a3.g a3.A a3.A' b→iF k2.n kp a3 b:=by
       rintro b (hx | hx | hx)
       ·exact⟨1,hx⟩
       ·exact⟨2,hx⟩
       ·exact⟨3,hx⟩
      have hS1:¬ rR a3.g a3.A a3.A' wr.heap.size:=fun hx=>Qt (hSA _ hx)
      have hS2:¬ rR a3.g a3.A a3.A' wf.heap.size:=fun hx=>hNF (hSA _ hx)
      have y0:=hNb.cell 0;have y1:=hNb.cell 1;have y2:=hNb.cell 2;have yl:=hNb.lt;simp at y0 y1 y2;have x0:=hBx.cell 0;have x1:=hBx.cell 1;have x2:=hBx.cell 2;have x3:=hBx.cell 3;have x4:=hBx.cell 4;have x5:=hBx.cell 5;have x6:=hBx.cell 6;have x7:=hBx.cell 7;have xl:=hBx.lt;simp at x0 x1 x2 x3 x4 x5 x6 x7;have HNB:=Lib.hid hNb;have Yk:=Lib.hid hBx;have HKG:=Lib.hid hkg;have HGG:=Lib.hid (HGF.out.trans (dB.same hsg));clear hNb hBx hkg hsg hSA Yj;refine aG (rR a3.g a3.A a3.A') [([0,1,2,3,4,5,6,7],8)] (by kernel_rfl) (by kernel_rfl) ?_;simp only[di,pick,List.map_cons,List.map_nil,List.getD_cons_zero,List.getD_cons_succ];repeat (any_goals (first | go_big_quiet_step (fail) | quiet_step (fail)))
      refine wpQuiet_nil ?_;refine wpList_plain rfl fun K hK=>?_
      go_simp;refine(SF.out _ _ (HKG.out.same ((ah.refl _ _).drew))).mono ?_;rintro e wh ⟨rfl,hkh,hgh,_⟩;rw[Qs.out] at hgh;have Qu:dB k2.n kp wg a3 wh a3:=(dB.same ((ah.refl _ _).drew)).trans hgh;refine hK _ _ ?_;clear hK K;have hNb:=HNB.out.ag Qu.ag hNF;have hBx:=Yk.out.ag Qu.ag Qt;have c1:=hkh.c1;have acI:=hkh.blk.lt;have hU0:¬ UB a3.U k2.n kp:=fun hx=>hkh.dj 6 0 kp (by omega) (by show UB a3.U (o5 _ _ _).n kp;show UB a3.U (bT k2 x c).n kp;rw[Qs.out];exact hx) rfl
      have Uu:¬ UB a3.U k2.n wr.heap.size:=fun hx=>Qt ⟨6,hx⟩
      have hU2:¬ UB a3.U k2.n wf.heap.size:=fun hx=>hNF ⟨6,hx⟩
      have y0:=hNb.cell 0;have y1:=hNb.cell 1;have y2:=hNb.cell 2;have yl:=hNb.lt;simp at y0 y1 y2;have x0:=hBx.cell 0;have x1:=hBx.cell 1;have x2:=hBx.cell 2;have x3:=hBx.cell 3;have x4:=hBx.cell 4;have x5:=hBx.cell 5;have x6:=hBx.cell 6;have x7:=hBx.cell 7;have xl:=hBx.lt;simp at x0 x1 x2 x3 x4 x5 x6 x7;have Yl:=Lib.hid hkh;have HGH:=Lib.hid (HGG.out.trans Qu);clear hNb hBx hkh hgh Qu HNB Yk SF hS0 hS1 hS2 c0;go_upto_region 19 with fail
      refine aG (UB a3.U k2.n) [([0,1,2,3,4,5,6,7],8)] (by kernel_rfl) (by kernel_rfl) ?_;simp only[di,pick,List.map_cons,List.map_nil,List.getD_cons_zero,List.getD_cons_succ];repeat (any_goals (first | go_big_quiet_step (fail) | quiet_step (fail)))
      refine wpQuiet_nil ?_;refine wpList_plain rfl fun K hK=>?_
      go_simp;refine(Yh.out _ _ (Yl.out.same ((ah.refl _ _).drew))).mono ?_;rintro e wi ⟨rfl,hki,hgi,_⟩;have hsn:(o5 (bT k2 x c) c.r ⟨y,lo,hi'⟩).n=k2.n:=Qs.out;rw[hsn] at hgi;refine hK _ _ ?_;clear hK K;have HKI:=Lib.hid hki;have HGI:=Lib.hid (HGH.out.trans ((dB.same ((ah.refl _ _).drew)).trans hgi));clear hki hgi hsn;go_wp2;go_roundw
      case rel =>
       refine⟨i+1,a3,by omega,by go_num,?_,?_⟩
       ·rw[HST.out];exact HKI.out
       ·rw[← GK.out];exact Am.out.trans HGI.out
      case measure=>simp[intOf] <;> omega
     ·obtain rfl:i=cs.length:=by omega
      have hI:¬ ((cs.length:Nat):Int)<(cs.length:Int):=by omega
      rw[List.take_length] at hk1;have qx:=Lib.hid hk1;have Am:=Lib.hid hg1;clear hk1 hg1
      rename World=>w5
      obtain⟨k2,hk2⟩:∃ k2,bW (aZ k cs) x y cs=k2:=⟨_,rfl⟩;rw[hk2] at qx;have aa3:Hid (k2.n=k.n):=Lib.hid (by rw[← hk2,AA,u6]);have Jh:=Lib.hid hk2;clear hk2;go_wp2_with (fail)
      go_loopw [119] (fun t wr=>∃ (i:Nat) (a1:KA),i≤cs.length∧t=.int .i64 i∧KW wr kp (fA k2 (cs.take i)) a1∧dB k.n kp w3 a wr a1) (fun t _=>cs.length-(intOf t).toNat)
      case atStart=>exact⟨0,a1,by omega,rfl,qx.out,Am.out⟩
      case round =>
       clear qx Am hkl hi a1;obtain⟨i,a1,hi,rfl,hk1,hg1⟩:=hrel;have hkl:=hk1.blk.lt;by_cases hlt:i<cs.length
       ·obtain⟨c,hc⟩:∃ c,cs[i]?=some c:=⟨_,List.getElem?_eq_getElem hlt⟩;have hrow:=Cx.out.ag hg1.ag (fun ad had=>(Qp.out _ ⟨ad,had,rfl⟩).1);obtain⟨sb,rfl,hsb,hcell⟩:=hrow.get gI.ak hc;have s0:wr.cell? ⟨sb,i*8,none⟩=some (.int .u32 c.r):=hcell 0 (by omega);have s1:wr.cell? ⟨sb,i*8+1,none⟩=some (.int .i64 c.n.v):=hcell 1 (by omega);have s2:wr.cell? ⟨sb,i*8+2,none⟩=some (.int .u32 c.n.lo):=hcell 2 (by omega);have s3:wr.cell? ⟨sb,i*8+3,none⟩=some (.int .u32 c.n.hi):=hcell 3 (by omega);have s4:wr.cell? ⟨sb,i*8+4,none⟩=some (.int .u32 c.jU):=hcell 4 (by omega);have s5:wr.cell? ⟨sb,i*8+5,none⟩=some (.int .u32 c.jG):=hcell 5 (by omega);have s6:wr.cell? ⟨sb,i*8+6,none⟩=some (.int .u32 c.jV):=hcell 6 (by omega);have s7:wr.cell? ⟨sb,i*8+7,none⟩=some (.int .u32 c.jH):=hcell 7 (by omega);have hI:(i:Int)<(cs.length:Int):=by omega
        have Uv:=(Fs.out.s3 qP.out i c (by rw[Ms.out];exact hc));rw[Ms.out,Jh.out] at Uv;obtain⟨k3,hk3⟩:∃ k3,fA k2 (cs.take i)=k3:=⟨_,rfl⟩;have SH:k3.n=k.n:=by rw[← hk3,G7];exact aa3.out
        have hst:fA k2 (cs.take (i+1))=jY (jY k3 c.n.lo) c.n.hi:=by
         rw[← hk3];exact l8 _ _ hc
        obtain⟨_,_,l0,l1,h0,h1⟩:=(Fs.out.cok c (by rw[Ms.out];exact List.mem_of_getElem? hc));rw[hk3] at hk1 Uv;rw[← SH] at hg1;obtain⟨⟨e1,hb1⟩,⟨e2,hb2⟩⟩:=Uv;have hr1:=fun w' (hw:KW w' kp k3 a1)=>l6 hw hb1
        have hr2:=fun w' aq (hw:KW w' kp (jY k3 c.n.lo) aq)=>l6 hw hb2
        have hrn:(jY k3 c.n.lo).n=k3.n:=nG _ _ _;have qx:=Lib.hid hk1;have Am:=Lib.hid hg1;have MJ:=Lib.hid SH;have HST:=Lib.hid hst;have HR1:=Lib.hid hr1;have HR2:=Lib.hid hr2;have HRN:=Lib.hid hrn;have HCE:=Lib.hid hc;clear hc hrow hcell hk1 hg1 SH hst hk3 hr1 hr2 hrn hb1 hb2;go_upto_region 24 with fail
        refine ai fun wb hwb=>?_
        have hBx:=av.new wr 147 #[.int .u32 c.r,.int .i64 c.n.v,.int .u32 c.n.lo,.int .u32 c.n.hi,.int .u32 c.jU,.int .u32 c.jG,.int .u32 c.jV,.int .u32 c.jH];have wS:Same wr wb:=by rw[hwb];exact(ah.refl _ _).alloc _
        rw[← hwb] at hBx;clear hwb s0 s1 s2 s3 s4 s5 s6 s7;have Pt:¬ iF k3.n kp a1 wr.heap.size:=fun hx=>by
         have:=qx.out.lt hx
         omega
        have hkb:=qx.out.same wS;have x0:=hBx.cell 0;have x1:=hBx.cell 1;have x2:=hBx.cell 2;have x3:=hBx.cell 3;have x4:=hBx.cell 4;have x5:=hBx.cell 5;have x6:=hBx.cell 6;have x7:=hBx.cell 7;have xl:=hBx.lt;simp at x0 x1 x2 x3 x4 x5 x6 x7;have yH:=Lib.hid hBx;have Lh:=Lib.hid hkb;have l7:=Lib.hid wS;clear hBx hkb wS;refine aG (iF k3.n kp a1) [([0,1,2,3,4,5],6)] (by kernel_rfl) (by kernel_rfl) ?_;simp only[di,pick,List.map_cons,List.map_nil,List.getD_cons_zero,List.getD_cons_succ];repeat (any_goals (first | go_big_quiet_step (fail) | quiet_step (fail)))
        refine wpQuiet_nil ?_;refine wpList_plain rfl fun K hK=>?_
        go_simp;refine(HR1.out _ (Lh.out.same ((ah.refl _ _).drew))).mono ?_;rintro e wc ⟨rfl,a2,hkc,hgc⟩;have yI:dB k3.n kp wb a1 wc a2:=(dB.same ((ah.refl _ _).drew)).trans hgc;refine hK _ _ ?_;clear hK K;have hBx:=yH.out.ag yI.ag Pt;have MI:=yI.apart (T:=fun b=>b=wr.heap.size) (by rintro b rfl;exact Pt) (by rintro b rfl;exact yH.out.lt) _ rfl;have x0:=hBx.cell 0;have x1:=hBx.cell 1;have x2:=hBx.cell 2;have x3:=hBx.cell 3;have x4:=hBx.cell 4;have x5:=hBx.cell 5;have x6:=hBx.cell 6;have x7:=hBx.cell 7;have xl:=hBx.lt;simp at x0 x1 x2 x3 x4 x5 x6 x7;have Us:=Lib.hid hBx;have Wn:=Lib.hid hkc;have Ya:=Lib.hid ((dB.same (a:=a1) (kp:=kp) (n:=k3.n) l7.out).trans yI);clear hBx hkc hgc yI yH Lh Pt HR1;go_upto_region 25 with fail
        refine aG (iF k3.n kp a2) [([0,1,2,3,4,5],6)] (by kernel_rfl) (by kernel_rfl) ?_;simp only[di,pick,List.map_cons,List.map_nil,List.getD_cons_zero,List.getD_cons_succ];repeat (any_goals (first | go_big_quiet_step (fail) | quiet_step (fail)))
        refine wpQuiet_nil ?_;refine wpList_plain rfl fun K hK=>?_
        go_simp;refine(HR2.out _ _ (Wn.out.same ((ah.refl _ _).drew))).mono ?_;rintro e wd ⟨rfl,a3,hkd,hgd⟩;rw[HRN.out] at hgd;refine hK _ _ ?_;clear hK K;have HKD:=Lib.hid hkd;have SG:=Lib.hid (Ya.out.trans ((dB.same ((ah.refl _ _).drew)).trans hgd));clear hkd hgd;go_wp2;go_roundw
        case rel =>
         refine⟨i+1,a3,by omega,by go_num,?_,?_⟩
         ·rw[HST.out];exact HKD.out
         ·rw[← MJ.out];exact Am.out.trans SG.out
        case measure=>simp[intOf] <;> omega
       ·obtain rfl:i=cs.length:=by omega
        have hI:¬ ((cs.length:Nat):Int)<(cs.length:Int):=by omega
        rw[List.take_length] at hk1;obtain⟨k3,hk3⟩:∃ k3,fA k2 cs=k3:=⟨_,rfl⟩;have hkk:iw k3=iw k:=by rw[← hk3,iI,← Jh.out,lg,kZ]
        have ho3:k3.ord=k.ord:=congrArg (fun t=>t.2.2.1) hkk;have hl3:k3.dN=k.dN:=congrArg (fun t=>t.2.2.2.1) hkk;have SH:k3.n=k.n:=congrArg (fun t=>t.1) hkk;rw[hk3] at hk1;have SI:k3.ord[l]?=some (x:Int):=by rw[ho3];exact Fs.out.hx
        have MK:k3.ord[l+1]?=some (y:Int):=by rw[ho3];exact Fs.out.hy
        have hlx:x<k3.dN.length:=by rw[hl3];exact Fs.out.lx
        have Ym:y<k3.dN.length:=by rw[hl3];exact Fs.out.ly
        obtain⟨oq,hoq,acJ,hoc⟩:=hk1.ord.dV SI;obtain⟨oq2,Js,_,Uw⟩:=hk1.ord.dV MK;rw[hoq] at Js;injection Js with Js
        injection Js with Js
        subst Js;obtain⟨lq,hlq,acK,hlc⟩:=hk1.dN.dV (List.getElem?_eq_getElem hlx);obtain⟨lq2,Jt,_,Ju⟩:=hk1.dN.dV (List.getElem?_eq_getElem Ym);rw[hlq] at Jt;injection Jt with Jt
        injection Jt with Jt
        subst Jt;have acL:¬ (kp=oq):=fun h=>hk1.dj 0 9 kp (by omega) rfl ⟨_,hoq,h.symm⟩
        have acM:¬ (kp=lq):=fun h=>hk1.dj 0 10 kp (by omega) rfl ⟨_,hlq,h.symm⟩
        have acN:l+1<k3.ord.length:=aQ MK;have hz1:=hk1.GN hoq (i:=l) (by omega) y;have hz2:=hz1.1.GN (sb:=oq) hoq (i:=l+1) (by show l+1<(k3.ord.set l y).length;rw[List.length_set];omega) x;have hf0:wr.frozen? ⟨oq,l,none⟩=false:=by have:=hk1.ord;rw[hoq] at this;exact this.free _
        have hf1:wr.frozen? ⟨oq,l+1,none⟩=false:=by have:=hk1.ord;rw[hoq] at this;exact this.free _
        have c5:=hk1.c5;rw[hoq] at c5;have Jk:=hk1.blk.lt;have hoI:(l:Int)<k3.ord.length:=by omega
        have Un:(l:Int)+1<k3.ord.length:=by omega
        have hlw:IntKind.i64.wrap ((l:Int)+1)=l+1:=IntWalk.i64_in _ (by omega);have hl0:(0:Int)≤(l:Int)+1:=by omega
        have hlt:((l:Int)+1).toNat=l+1:=by omega
        replace hoc:wr.cell? ⟨oq,l,none⟩=some (.int .i64 x):=hoc;replace Uw:wr.cell? ⟨oq,l+1,none⟩=some (.int .i64 y):=Uw;have HZ:=Lib.hid hz2.1;have HZG:=Lib.hid (hg1.trans (by have:=hz1.2.trans hz2.2;rw[SH] at this;exact this));have HLQ:=Lib.hid hlq;have aa4:=Lib.hid hk3;have MJ:=Lib.hid SH;have HLX:=Lib.hid hlx;have HLY:=Lib.hid Ym;clear hz1 hz2 hk1 hg1 hlc Ju ho3 hl3 SH hkk hk3 SI MK hoq hlq hlx Ym;go_upto_region 27 with fail
        refine aG (fun b=>b=oq) [([0,1,2,3,4,5,6,7,8,9,10,11,12,13],14),([15],16)] (by kernel_rfl) (by kernel_rfl) ?_;simp only[di,pick,List.map_cons,List.map_nil,List.getD_cons_zero,List.getD_cons_succ];repeat (any_goals (first | go_big_quiet_step (fail) | quiet_step (fail)))
        refine wpQuiet_nil ?_;refine aa rfl fun K hK=>?_
        go_simp;refine hK _ _ (aY.bz ((ah.refl _ _).drew.set l _ rfl)) ?_;clear hK K;repeat (any_goals (first | go_big_quiet_step (fail) | quiet_step (fail)))
        refine wpQuiet_nil ?_;go_upto_region 28 with fail
        refine ai fun w6 Ua=>?_
        have Fe:KW w6 kp { k3 with ord:=(k3.ord.set l y).set (l+1) x } a1:=by
         rw[Ua];exact HZ.out.same ((ah.refl _ _).drew)
        have Wl:dB k.n kp w3 a w6 a1:=by
         rw[Ua];exact HZG.out.trans (dB.same ((ah.refl _ _).drew))
        clear Ua HZ HZG hoc Uw hf0 hf1 c5 hoI Un;have hlq:=HLQ.out;have acO:¬ (x=y):=Fs.out.xy;have acP:¬ (y=x):=fun h=>Fs.out.xy h.symm
        obtain⟨lx1,Jv,acr,Qv⟩:=Fe.dN.dV (i:=x) (List.getElem?_eq_getElem HLX.out);rw[hlq] at Jv;injection Jv with Jv
        injection Jv with Jv
        subst Jv;obtain⟨lx2,Jw,_,Ju⟩:=Fe.dN.dV (i:=y) (List.getElem?_eq_getElem HLY.out);rw[hlq] at Jw;injection Jw with Jw
        injection Jw with Jw
        subst Jw;have hz1:=Fe.GR hlq (i:=x) HLX.out ((l:Int)+1);have hz2:=hz1.1.GR (sb:=lq) hlq (i:=y) (by show y<(k3.dN.set x _).length;rw[List.length_set];exact HLY.out) l;have hf0:w6.frozen? ⟨lq,x,none⟩=false:=by have:=Fe.dN;rw[hlq] at this;exact this.free _
        have hf1:w6.frozen? ⟨lq,y,none⟩=false:=by have:=Fe.dN;rw[hlq] at this;exact this.free _
        have c6:=Fe.c6;rw[hlq] at c6;have acQ:=Fe.blk.lt;have hxI:(x:Int)<k3.dN.length:=by have:=HLX.out;omega
        have hyI:(y:Int)<k3.dN.length:=by have:=HLY.out;omega
        have HZ:=Lib.hid hz2.1;have HZG:=Lib.hid (Wl.trans (by have:=hz1.2.trans hz2.2;rw[show({ k3 with ord:=(k3.ord.set l y).set (l+1) x }:KS).n=k.n from MJ.out] at this;exact this));have Qv:∃ v,w6.cell? ⟨lq,x,none⟩=some v:=⟨_,Qv⟩;have Ju:∃ v,w6.cell? ⟨lq,y,none⟩=some v:=⟨_,Ju⟩;obtain⟨v1,Qv⟩:=Qv;obtain⟨v2,Ju⟩:=Ju;clear hz1 hz2 Fe Wl hlq;refine aG (fun b=>b=lq) [([0,1,2,3,4,5,6,7,8,9,10,11,12,13],14),([15],16)] (by kernel_rfl) (by kernel_rfl) ?_;simp only[di,pick,List.map_cons,List.map_nil,List.getD_cons_zero,List.getD_cons_succ];repeat (any_goals (first | go_big_quiet_step (fail) | quiet_step (fail)))
        refine wpQuiet_nil ?_;refine aa rfl fun K hK=>?_
        go_simp;refine hK _ _ (aY.bz ((ah.refl _ _).drew.set x _ rfl)) ?_;clear hK K;repeat (any_goals (first | go_big_quiet_step (fail) | quiet_step (fail)))
        refine wpQuiet_nil ?_;go_wp2_with (fail)
        refine bM fun w7 hw7=>?_
        have hT:dQ k l x y={ k3 with ord:=(k3.ord.set l y).set (l+1) x,dN:=(k3.dN.set x (l+1)).set y l }:=by
         unfold dQ;rw[Ms.out,Jh.out,aa4.out];rfl
        go_ret;refine⟨rfl,a1,?_,?_⟩
        ·show KW w7 kp (dQ k l x y) a1;rw[hT,hw7];exact HZ.out.same ((ah.refl _ _).drew)
        ·rw[hw7];exact(dB.same dX.out).trans (HZG.out.trans (dB.same ((ah.refl _ _).drew)))
end
structure Lv (k:KS):Prop where
 ol:k.ord.length=k.n
 ll:k.dN.length=k.n
 o2:∀ (l:Nat) v,k.ord[l]?=some v→∃ m:Nat,v=m∧m<k.n∧k.dN[m]?=some (l:Int)
 l2:∀ (m:Nat) l,k.dN[m]?=some l→∃ i:Nat,l=i∧i<k.n∧k.ord[i]?=some (m:Int)
def bJ (k:KS) (r:Int):Int:=if 0≤(aH k.ls r).v then k.dN.getD (aH k.ls r).v.toNat 0 else k.n
def bH (k:KS) (v:Int):Int:=k.dN.getD v.toNat 0
def iB (k:KS) (n:Nd):Int:=if ¬ (0≤n.v∧n.v<k.n) then 2 else if tk k.ls n.lo=false∨tk k.ls n.hi=false then 3 else if n.lo≠n.hi∧min (bJ k n.lo) (bJ k n.hi)≤bH k n.v then 4 else 0
def fD (k:KS) (n:Nd):Option Int:=if n.lo=n.hi then some n.lo else look k.L n
section
variable {w:World} {kp:Nat} {k:KS} {a:KA} {ext:List Int} {X:List bP} {n:Nd}
theorem Bk.ML (h:Bk k ext X) (r:Int) (hX:X=[]):-1≤(aH k.ls r).v∧(aH k.ls r).v<k.n∧0≤(aH k.ls r).lo∧0≤(aH k.ls r).hi∧(aH k.ls r).lo<1048576∧(aH k.ls r).hi<1048576:=by
 subst hX;have hn1:=h.n1;unfold aH;cases hp:k.ls[r.toNat]? with
 | none=>simp[Ph] <;> omega
 | some p =>
  simp only;split
  ·rename_i ht;by_cases h2:2≤r.toNat
   ·have hm:=h.conv _ p h2 hp ht;rw[List.append_nil] at hm;obtain⟨a,b,c,d,e,f,_⟩:=h.eZ _ _ hm;exact⟨by omega,b,c,d,h.lt c e,h.lt d f⟩
   ·rcases Nat.lt_or_ge r.toNat 1 with h1 | h1
    ·have:r.toNat=0:=by omega
     rw[this,h.l0] at hp;injection hp with hp
     subst hp;simp[Sa] <;> omega
    ·have:r.toNat=1:=by omega
     rw[this,h.l1] at hp;injection hp with hp
     subst hp;simp[Sa] <;> omega
  ·simp[Ph] <;> omega
theorem kI (h:KW w kp k a) (v:Int) :
  Calls Tryz.prog 81 #[.pointer (some ⟨kp,0,none⟩),.int .i64 v] w fun e w'=>e=.returned (.bool (decide (0≤v∧v<k.n)))∧w=w':=by
 have c4:=h.c4;have hkl:=h.blk.lt;clear h;by_cases h0:0≤v
 ·by_cases h1:v<k.n
  ·go_enter Tryz.func81,Tryz.ntmps81;go_wp2;go_ret;exact⟨gT (by simp <;> omega),rfl⟩
  ·go_enter Tryz.func81,Tryz.ntmps81;go_wp2;go_ret;exact⟨gT (by simp <;> omega),rfl⟩
 ·go_enter Tryz.func81,Tryz.ntmps81;go_wp2;go_ret;exact⟨gT (by simp <;> omega),rfl⟩
theorem wT (h:KW w kp k a) (hb:Bk k ext []) (hl:Lv k) (r:Int) (h0:0≤r) (h1:r<4294967296) :
  Calls Tryz.prog 89 #[.pointer (some ⟨kp,0,none⟩),.int .u32 r] w fun e w'=>e=.returned (.int .i64 (bJ k r))∧Same w w':=by
 have hkl:=h.blk.lt;have nD:=iH h r h0 h1;unfold bJ;obtain⟨v0,v1,_⟩:=hb.ML r rfl;have hL:∀ v:Nat,v<k.n→∃ l,k.dN[v]?=some l:=fun v hv=>⟨_,List.getElem?_eq_getElem (by rw[hl.ll];exact hv)⟩
 have hll:=hl.ll;generalize aH k.ls r=n at *
 have HN:=Lib.hid nD;have H:=Lib.hid h;have Pw:=Lib.hid hll;by_cases hv:0≤n.v
 ·obtain⟨m,hm⟩:=Int.eq_ofNat_of_zero_le hv;obtain⟨l,hlv⟩:=hL m (by omega);have hvI:n.v≥0:=hv;have hres:(if 0≤n.v then k.dN.getD n.v.toNat 0 else (k.n:Int))=l:=by
   rw[if_pos hv,hm,Int.toNat_natCast,List.getD_eq_getElem?_getD,hlv];rfl
  rw[hres];have HM:=Lib.hid hm;have AB:=Lib.hid hlv;have hmn:m<k.n:=by omega
  clear nD h hL hll hm hlv hres hl hb v0 v1;go_enter Tryz.func89,Tryz.ntmps89;go_wp2_with (fail)
  refine HN.out.mono ?_;rintro e w1 ⟨rfl,hs1⟩;unfold Nd.val;rw[HM.out];have hm0:((m:Nat):Int)≥0:=by omega
  go_upto_region 3 with fail
  refine ai fun w2 hw2=>?_
  have hX:=av.new w1 37 #[.int .i64 m,.int .u32 n.lo,.int .u32 n.hi];have hs2:Same w w2:=by rw[hw2];exact hs1.alloc _
  rw[← hw2] at hX;clear hw2;have hk2:=H.out.same hs2;have c6:=hk2.c6;obtain⟨lb,Wo,hlb,hlc⟩:=hk2.dN.dV AB.out;rw[Wo] at c6;replace hlc:w2.cell? ⟨lb,m,none⟩=some (.int .i64 l):=hlc;have Jy:=hk2.blk.lt;have x0:=hX.cell 0;have hxl:=hX.lt;simp at x0;have Uc:(m:Int)<(k.dN.length:Int):=by have:=Pw.out;omega
  have HS2:=Lib.hid hs2;clear hX hk2 hs2 hs1 hv hvI;refine dZ (by kernel_rfl) (by kernel_rfl) ?_;repeat (any_goals (first | go_big_quiet_step (fail) | quiet_step (fail)))
  refine wpQuiet_nil ?_;rintro _ ⟨q,rfl⟩;go_wp2;go_ret;exact⟨rfl,HS2.out.trans (ay _ _) (fun _ _ h=>h)⟩
 ·have hvI:¬ n.v≥0:=hv;rw[if_neg hv];clear nD h hL hll hl hb v0 v1;go_enter Tryz.func89,Tryz.ntmps89;go_wp2_with (fail)
  refine HN.out.mono ?_;rintro e w1 ⟨rfl,hs1⟩;unfold Nd.val;have hk2:=H.out.same (hs1.alloc (.cells #[.int .i64 n.v,.int .u32 n.lo,.int .u32 n.hi] 37));have c4:=hk2.c4;have Jy:=hk2.blk.lt;simp at Jy;have aW:=Lib.hid hs1;clear hk2 hs1;go_wp2;go_ret;exact⟨rfl,aW.out.alloc _⟩
theorem zq (hb:Bk k ext []) (hl:Lv k) (r:Int):0≤bJ k r∧bJ k r≤k.n:=by
 unfold bJ;obtain⟨_,v1,_⟩:=hb.ML r rfl;split
 ·rename_i h;have hlt:(aH k.ls r).v.toNat<k.dN.length:=by rw[hl.ll];omega
  obtain⟨i,hi,hin,_⟩:=hl.l2 _ _ (List.getElem?_eq_getElem hlt);rw[List.getD_eq_getElem?_getD,List.getElem?_eq_getElem hlt,Option.getD_some,hi];omega
 ·omega
theorem Jz (h:KW w kp k a) (hb:Bk k ext []) (hl:Lv k) (n:Nd) (l0:0≤n.lo) (l1:n.lo<4294967296) (h0:0≤n.hi) (h1:n.hi<4294967296) :
  Calls Tryz.prog 55 #[.pointer (some ⟨kp,0,none⟩),.int .i64 n.v,.int .u32 n.lo,.int .u32 n.hi] w fun e w'=>e=.returned (.int .i64 (iB k n))∧Same w w':=by
 have hkl:=h.blk.lt;have Qw:=fun w' (hw:Same w w')=>kI (h.same hw) n.v
 have hlo:=fun w' (hw:Same w w')=>oz (h.same hw) n.lo l0 l1
 have hhi:=fun w' (hw:Same w w')=>oz (h.same hw) n.hi h0 h1
 have hdl:=fun w' (hw:Same w w')=>wT (h.same hw) hb hl n.lo l0 l1
 have hdh:=fun w' (hw:Same w w')=>wT (h.same hw) hb hl n.hi h0 h1
 unfold iB bH;obtain⟨dl0,dl1⟩:=zq hb hl n.lo;obtain⟨dh0,dh1⟩:=zq hb hl n.hi;have Qh:=hb.n64;have hLL:=hl.ll;have hLV:0≤n.v→n.v<k.n→∃ lv:Nat,k.dN[n.v.toNat]?=some (lv:Int)∧lv<k.n:=fun a b=>by
  obtain⟨i,hi,hin,_⟩:=hl.l2 n.v.toNat _ (List.getElem?_eq_getElem (by rw[hl.ll];omega));exact⟨i,by rw[List.getElem?_eq_getElem (by rw[hl.ll];omega),hi],hin⟩
 generalize bJ k n.lo=dl at *
 generalize bJ k n.hi=dh at *
 have HV:=Lib.hid Qw;have AJ:=Lib.hid hlo;have BQ:=Lib.hid hhi;have Ex:=Lib.hid hdl;have HDH:=Lib.hid hdh;have H:=Lib.hid h;have Pw:=Lib.hid hLL;clear Qw hlo hhi hdl hdh h hb hl hLL;by_cases hv:0≤n.v∧n.v<k.n
 ·obtain⟨lv,hlv,acR⟩:=hLV hv.1 hv.2;have Ux:=Lib.hid hlv;rw[if_neg (by simpa using hv)];have hvb:decide (0≤n.v∧n.v<k.n)=true:=by simpa using hv
  have HVV:=Lib.hid hv;clear hLV hlv;obtain⟨b1,hb1⟩:∃ b,tk k.ls n.lo=b:=⟨_,rfl⟩;obtain⟨b2,hb2⟩:∃ b,tk k.ls n.hi=b:=⟨_,rfl⟩;rw[hb1] at AJ ⊢;rw[hb2] at BQ ⊢;rw[hvb] at HV;clear hb1 hb2 hvb hv;cases b1 with
  | false =>
   rw[if_pos (.inl rfl)];go_enter Tryz.func55,Tryz.ntmps55;go_wp2_with (fail)
   refine(HV.out _ (ah.refl _ _)).mono ?_;rintro e w1 ⟨rfl,rfl⟩;go_wp2_with (fail)
   refine(AJ.out _ (ah.refl _ _)).mono ?_;rintro e w1 ⟨rfl,hs1⟩;go_wp2;go_ret;exact⟨rfl,hs1⟩
  | true =>
   cases b2 with
   | false =>
    rw[if_pos (.inr rfl)];go_enter Tryz.func55,Tryz.ntmps55;go_wp2_with (fail)
    refine(HV.out _ (ah.refl _ _)).mono ?_;rintro e w1 ⟨rfl,rfl⟩;go_wp2_with (fail)
    refine(AJ.out _ (ah.refl _ _)).mono ?_;rintro e w1 ⟨rfl,hs1⟩;have aW:=Lib.hid hs1;clear hs1;go_wp2_with (fail)
    refine(BQ.out _ aW.out).mono ?_;rintro e w2 ⟨rfl,hs2⟩;have HS2:=Lib.hid (aW.out.trans hs2 (fun _ _ h=>h));clear hs2;go_wp2;go_ret;exact⟨rfl,HS2.out⟩
   | true =>
    rw[if_neg (by simp)];have Yn:k.dN.getD n.v.toNat 0=(lv:Int):=by rw[List.getD_eq_getElem?_getD,Ux.out];rfl
    rw[Yn];clear Yn;by_cases hee:n.lo=n.hi
    ·rw[if_neg (by simp[hee])];have Li:(n.lo != n.hi)=false:=by simpa using hee
     clear hee;go_enter Tryz.func55,Tryz.ntmps55;go_wp2_with (fail)
     refine(HV.out _ (ah.refl _ _)).mono ?_;rintro e w1 ⟨rfl,rfl⟩;go_wp2_with (fail)
     refine(AJ.out _ (ah.refl _ _)).mono ?_;rintro e w1 ⟨rfl,hs1⟩;have aW:=Lib.hid hs1;clear hs1;go_wp2_with (fail)
     refine(BQ.out _ aW.out).mono ?_;rintro e w2 ⟨rfl,hs2⟩;have HS2:=Lib.hid (aW.out.trans hs2 (fun _ _ h=>h));clear hs2;go_upto_region 5 with fail
     refine dZ (by kernel_rfl) (by kernel_rfl) ?_;repeat (any_goals (first | go_big_quiet_step (fail) | quiet_step (fail)))
     refine wpQuiet_nil ?_;rintro _ ⟨q,rfl⟩;go_wp2;go_ret;exact⟨rfl,HS2.out.trans (ay _ _) (fun _ _ h=>h)⟩
    ·have Li:(n.lo != n.hi)=true:=by simpa using hee
     obtain⟨m,hm⟩:=Int.eq_ofNat_of_zero_le HVV.out.1;have hmn:m<k.n:=by have:=HVV.out.2;omega
     have Yo:k.dN[m]?=some (lv:Int):=by have:=Ux.out;rwa [hm,Int.toNat_natCast] at this
     have Uc:(m:Int)<(k.dN.length:Int):=by have:=Pw.out;omega
     have HLM:=Lib.hid Yo;have hfin:(if n.lo≠n.hi∧min dl dh≤(lv:Int) then 4 else 0:Int)=if min dl dh≤(lv:Int) then 4 else 0:=by
      by_cases hc:min dl dh≤(lv:Int)
      ·rw[if_pos ⟨hee,hc⟩,if_pos hc]
      ·rw[if_neg (fun h=>hc h.2),if_neg hc]
     rw[hfin];generalize n.v=nv at *
     subst hm;clear hee Yo hfin Ux HVV;go_enter Tryz.func55,Tryz.ntmps55;go_wp2_with (fail)
     refine(HV.out _ (ah.refl _ _)).mono ?_;rintro e w1 ⟨rfl,rfl⟩;go_wp2_with (fail)
     refine(AJ.out _ (ah.refl _ _)).mono ?_;rintro e w1 ⟨rfl,hs1⟩;have aW:=Lib.hid hs1;clear hs1;go_wp2_with (fail)
     refine(BQ.out _ aW.out).mono ?_;rintro e w2 ⟨rfl,hs2⟩;have kX:=aW.out.trans hs2 (fun _ _ h=>h);have hk2:=H.out.same kX;have c6:=hk2.c6;obtain⟨lb,Wo,hlb,hlc⟩:=hk2.dN.dV HLM.out;rw[Wo] at c6;replace hlc:w2.cell? ⟨lb,m,none⟩=some (.int .i64 lv):=hlc;have Jy:=hk2.blk.lt;have HS2:=Lib.hid kX;clear hs2 kX hk2;go_upto_region 5 with fail
     refine dZ (by kernel_rfl) (by kernel_rfl) ?_;repeat (any_goals (first | go_big_quiet_step ((first | (go_at_call_of 89 (Value.int IntKind.u32 n.lo);exact aX (Ex.out _ (HS2.out.trans (ay _ _) (fun _ _ h=>h)))) | (go_at_call 89;exact aX (HDH.out _ (HS2.out.trans (ay _ _) (fun _ _ h=>h)))))) | quiet_step ((first | (go_at_call_of 89 (Value.int IntKind.u32 n.lo);exact aX (Ex.out _ (HS2.out.trans (ay _ _) (fun _ _ h=>h)))) | (go_at_call 89;exact aX (HDH.out _ (HS2.out.trans (ay _ _) (fun _ _ h=>h))))))))
     refine wpQuiet_nil ?_;rintro _ ⟨q,rfl⟩;by_cases hc:min dl dh≤(lv:Int)
     ·have HC:=Lib.hid hc;go_wp2;go_ret;exact⟨rfl,HS2.out.trans (ay _ _) (fun _ _ h=>h)⟩
     ·have HC:=Lib.hid hc;go_wp2;go_ret;exact⟨rfl,HS2.out.trans (ay _ _) (fun _ _ h=>h)⟩
 ·rw[if_pos hv];have hvb:decide (0≤n.v∧n.v<k.n)=false:=by simpa using hv
  rw[hvb] at HV;clear hvb hv hLV;go_enter Tryz.func55,Tryz.ntmps55;go_wp2_with (fail)
  refine(HV.out _ (ah.refl _ _)).mono ?_;rintro e w1 ⟨rfl,rfl⟩;go_wp2;go_ret;exact⟨rfl,ah.refl _ _⟩
theorem JA (h:KW w kp k a) (n:Nd) (hn:n.ok) :
  Calls Tryz.prog 56 #[.pointer (some ⟨kp,0,none⟩),.int .i64 n.v,.int .u32 n.lo,.int .u32 n.hi] w fun e w'=>e=.returned (.tuple #[.int .u32 ((fD k n).getD 0),.bool (fD k n).isSome])∧Same w w':=by
 have hkl:=h.blk.lt;have c1:=h.c1;have hf:=pY a.U k.n k.L n hn w h.ut;unfold fD;have HF:=Lib.hid hf;clear h hf hn;by_cases hee:n.lo=n.hi
 ·rw[if_pos hee];have Li:(n.lo == n.hi)=true:=by simpa using hee
  clear hee;go_enter Tryz.func56,Tryz.ntmps56;go_wp2;go_ret2;exact⟨rfl,ah.refl _ _⟩
 ·rw[if_neg hee];have Li:(n.lo == n.hi)=false:=by simpa using hee
  clear hee;go_enter Tryz.func56,Tryz.ntmps56;go_wp2_with (fail)
  refine HF.out.mono ?_;rintro e w1 ⟨rfl,hs1⟩;go_wp2;go_ret2;exact⟨rfl,hs1⟩
theorem sN (h:KW w kp k a) (r:Int) (h0:0≤r) (h1:r<4294967296) (hv:∀ x,k.hs[r.toNat]?=some x→0≤x∧x≤65535) :
  Calls Tryz.prog 17 #[.pointer (some ⟨kp,0,none⟩),.int .u32 r] w fun e w'=>e=.returned (.int .i64 (k.hs.getD r.toNat 0))∧w=w':=by
 obtain⟨m,rfl⟩:=Int.eq_ofNat_of_zero_le h0;rw[Int.toNat_natCast] at hv ⊢;have hkl:=h.blk.lt;have c3:=h.c3;by_cases hlt:m<k.hs.length
 ·have hx:=List.getElem?_eq_getElem hlt;obtain⟨sb,hA,hsb,_,hc,_⟩:=h.CG hx;rw[hA] at c3;obtain⟨v0,v1⟩:=hv _ hx;have hd:k.hs.getD m 0=k.hs[m]:=by rw[List.getD_eq_getElem?_getD,hx];rfl
  rw[hd];generalize k.hs[m]=x at *
  have hI:¬ (m:Int)≥(k.hs.length:Int):=by omega
  have hI2:(m:Int)<(k.hs.length:Int):=by omega
  clear h hx hd hv hA;go_enter Tryz.func17,Tryz.ntmps17;go_wp2;go_ret;exact⟨rfl,rfl⟩
 ·have hd:k.hs.getD m 0=0:=by rw[List.getD_eq_getElem?_getD,List.getElem?_eq_none (by omega)];rfl
  rw[hd];have hI:(m:Int)≥(k.hs.length:Int):=by omega
  clear h hv hd;go_enter Tryz.func17,Tryz.ntmps17;go_wp2;go_ret;exact⟨rfl,rfl⟩
theorem l9 (h:KW w kp k a) (r:Int) (h0:0≤r) (h1:r<4294967296) :
  Calls Tryz.prog 20 #[.pointer (some ⟨kp,0,none⟩),.int .u32 r] w fun e w'=>e=.returned (.tuple #[(aH k.ls r).val,.int .i64 (fO k.ls r)])∧Same w w':=by
 have hkl:=h.blk.lt;have hlv:=fun w' (hw:Same w w')=>oz (h.same hw) r h0 h1
 have hnd:=fun w' (hw:Same w w')=>iH (h.same hw) r h0 h1
 have HL:=Lib.hid hlv;have HN:=Lib.hid hnd;obtain⟨b,hb⟩:∃ b,tk k.ls r=b:=⟨_,rfl⟩;rw[hb] at HL;have hgE:fO k.ls r=if b then 0 else 3:=by unfold fO;rw[hb]
 have hgN:b=false→aH k.ls r=Ph:=by
  intro h;rw[h] at hb;unfold tk at hb;unfold aH;cases hp:k.ls[r.toNat]? with
  | none=>rfl
  | some p=>rw[hp] at hb;simp only at hb ⊢;rw[hb];rfl
 rw[hgE];have Wp:=Lib.hid hgN;clear h hlv hnd hb hgE hgN;have hle:w.heap.size≤w.heap.size:=Nat.le_refl _;cases b with
 | false =>
  rw[Wp.out rfl];clear HN;go_enter Tryz.func20,Tryz.ntmps20;go_wp2_with (fail)
  refine eF fun w1 hw1=>?_
  have hs1:Same w w1:=by rw[hw1];exact(ah.refl _ _).alloc _
  have hX:=av.new w 37 #[.int .i64 0,.int .u32 0,.int .u32 0];rw[← hw1] at hX;clear hw1;refine(HL.out _ hs1).mono ?_;rintro e w2 ⟨rfl,hs2⟩;have hX2:=hX.ag hs2 id;have x0:=hX2.cell 0;have x1:=hX2.cell 1;have x2:=hX2.cell 2;have f0:=hX2.free 0;have f1:=hX2.free 1;have f2:=hX2.free 2;have hxl:=hX2.lt;simp at x0 x1 x2;have HX:=Lib.hid hX2;have HS:=Lib.hid (hs1.trans hs2 (fun _ _ h=>h));clear hX hX2 hs1 hs2;go_wp2;refine bodyPost_ret (v:=.tuple #[Ph.val,.int .i64 3]) ?_ rfl ⟨rfl,?_⟩
  ·have hY:=((HX.out.set 0 (.int .i64 0)).set 1 (.int .u32 0)).set 2 (.int .u32 0);generalize ((w2.setCell ⟨w.heap.size,0,none⟩ (.int .i64 0)).setCell ⟨w.heap.size,1,none⟩ (.int .u32 0)).setCell ⟨w.heap.size,2,none⟩ (.int .u32 0)=W at hY ⊢;have y0:=hY.cell 0;have y1:=hY.cell 1;have y2:=hY.cell 2;simp at y0 y1 y2;simp[results,Tryz.results20,go_sem,Nd.val,Ph,y0,y1,y2]
  ·exact((HS.out.aj _ _ hle).aj _ _ hle).aj _ _ hle
 | true =>
  clear Wp;generalize aH k.ls r=n at *
  go_enter Tryz.func20,Tryz.ntmps20;go_wp2_with (fail)
  refine eF fun w1 hw1=>?_
  have hs1:Same w w1:=by rw[hw1];exact(ah.refl _ _).alloc _
  have hX:=av.new w 37 #[.int .i64 0,.int .u32 0,.int .u32 0];rw[← hw1] at hX;clear hw1;refine(HL.out _ hs1).mono ?_;rintro e w2 ⟨rfl,hs2⟩;have hX2:=hX.ag hs2 id;have HX:=Lib.hid hX2;have HS:=Lib.hid (hs1.trans hs2 (fun _ _ h=>h));clear hX hX2 hs1 hs2;go_wp2_with (fail)
  refine(HN.out _ HS.out).mono ?_;rintro e w3 ⟨rfl,hs3⟩;unfold Nd.val;have hX2:=HX.out.ag hs3 id;have x0:=hX2.cell 0;have x1:=hX2.cell 1;have x2:=hX2.cell 2;have f0:=hX2.free 0;have f1:=hX2.free 1;have f2:=hX2.free 2;have hxl:=hX2.lt;simp at x0 x1 x2;have yh:=Lib.hid hX2;have dX:=Lib.hid (HS.out.trans hs3 (fun _ _ h=>h));clear hX2 hs3 HX HS;go_wp2;refine bodyPost_ret (v:=.tuple #[n.val,.int .i64 0]) ?_ rfl ⟨rfl,?_⟩
  ·have hY:=((yh.out.set 0 (.int .i64 n.v)).set 1 (.int .u32 n.lo)).set 2 (.int .u32 n.hi);generalize ((w3.setCell ⟨w.heap.size,0,none⟩ (.int .i64 n.v)).setCell ⟨w.heap.size,1,none⟩ (.int .u32 n.lo)).setCell ⟨w.heap.size,2,none⟩ (.int .u32 n.hi)=W at hY ⊢;have y0:=hY.cell 0;have y1:=hY.cell 1;have y2:=hY.cell 2;simp at y0 y1 y2;simp[results,Tryz.results20,go_sem,Nd.val,y0,y1,y2]
  ·exact((dX.out.aj _ _ hle).aj _ _ hle).aj _ _ hle
end
section
variable {k:KS} {ext ext':List Int} {X:List bP}
theorem MM (h:Bk k ext X) {n:Nd} {r h':Int} (hm:(n,r)∈k.L++X) (h0:0≤h') (h1:h'≤65535)
  (hc:(if h'=0 then 0 else 1)+ext'.count r=(if k.hs.getD r.toNat 0=0 then 0 else 1)+ext.count r) (ho:∀ q,q≠r→ext'.count q=ext.count q)
  (he:∀ q∈ext',q=r∨q∈ext) (hb:ext'.length+k.L.length≤8000000):Bk { k with hs:=k.hs.set r.toNat h' } ext' X:=by
 obtain⟨m,rfl,m2,mu,ml⟩:=h.mem _ _ hm;have hlt:m<k.hs.length:=by rw[← h.ul];exact mu
 rw[Int.toNat_natCast] at hc ⊢;refine⟨h.n1,h.n64,h.c2,h.cM,h.l0,h.l1,h.mem,h.conv,h.kn,h.rn,h.E5,h.fn,h.cnt,h.iG,h.lim,by show k.us.length=(k.hs.set m h').length;rw[List.length_set];exact h.ul,h.E8,h.eZ,?_,?_,?_,hb⟩
 ·intro n' q hq;obtain⟨i,rfl,i2,iu,il⟩:=h.mem _ _ hq;rw[h.use n' i hq];show _=some ((par k.L (i:Int)+(if (k.hs.set m h').getD (i:Int).toNat 0=0 then 0 else 1)+ext'.count (i:Int):Nat):Int);rw[Int.toNat_natCast,iU hlt];by_cases Le:m=i
  ·subst Le;rw[if_pos rfl];congr 2;omega
  ·rw[if_neg Le,ho _ (by omega)]
 ·intro i x hx;replace hx:(k.hs.set m h')[i]?=some x:=hx;rw[List.getElem?_set] at hx;by_cases Le:m=i
  ·subst Le;rw[if_pos rfl,if_pos hlt] at hx;injection hx with hx
   subst hx;exact⟨h0,h1,fun _=>⟨n,hm⟩⟩
  ·rw[if_neg Le] at hx;exact h.hol i x hx
 ·intro q hq;rcases he q hq with rfl | hq
  ·exact⟨by omega,(h.jq hm).2.2⟩
  ·exact h.BN q hq
theorem Qx {r:Int} (h:Bk k (r::ext) X) {n:Nd} (hm:(n,r)∈k.L++X) (h0:k.hs.getD r.toNat 0=0):Bk { k with hs:=k.hs.set r.toNat 1 } ext X:=by
 have hbd:=h.bd;simp only[List.length_cons] at hbd;refine MM (ext':=ext) h hm (by omega) (by omega) ?_ ?_ (fun q hq=>.inr (List.mem_cons_of_mem _ hq)) (by omega)
 ·rw[h0,List.count_cons_self];simp <;> omega
 ·intro q hq;rw[List.count_cons_of_ne (fun h=>hq h.symm)]
theorem zu {r:Int} (h:Bk k ext X) {n:Nd} (hm:(n,r)∈k.L++X) (h0:k.hs.getD r.toNat 0≠0) (hb:ext.length+1+k.L.length≤8000000):Bk { k with hs:=k.hs.set r.toNat 0 } (r::ext) X:=by
 refine MM (ext':=r::ext) h hm (by omega) (by omega) ?_ ?_ (fun q hq=>(List.mem_cons.1 hq).elim .inl .inr) (by simp only[List.length_cons];omega)
 ·rw[if_neg h0,List.count_cons_self];simp <;> omega
 ·intro q hq;rw[List.count_cons_of_ne (fun h=>hq h.symm)]
theorem He {r h':Int} (h:Bk k ext X) {n:Nd} (hm:(n,r)∈k.L++X) (h0:k.hs.getD r.toNat 0≠0) (h1:0<h') (h2:h'≤65535):Bk { k with hs:=k.hs.set r.toNat h' } ext X:=by
 refine MM (ext':=ext) h hm (by omega) (by omega) ?_ (fun _ _=>rfl) (fun q hq=>.inr hq) h.bd;rw[if_neg h0,if_neg (by omega)]
theorem Bk.tr (h:Bk k ext X) (t:List Int):Bk { k with tr:=t } ext X:=⟨h.n1,h.n64,h.c2,h.cM,h.l0,h.l1,h.mem,h.conv,h.kn,h.rn,h.E5,h.fn,h.cnt,h.iG,h.lim,h.ul,h.E8,h.eZ,h.use,h.hol,h.BN,h.bd⟩
end
def jh (k:KS) (r:Int):KS:={ (if k.hs.getD r.toNat 0=0 then bN k r else k) with hs:=k.hs.set r.toNat (k.hs.getD r.toNat 0+1) }
def bE (k:KS) (r:Int):Int×KS:=if tk k.ls r=false then (3,k) else if 1<r then (if k.hs.getD r.toNat 0=65535 then (8,k) else (0,{ jh k r with tr:=[] })) else (0,{ k with tr:=[] })
def ig (k:KS) (r:Int):KS:=if k.hs.getD r.toNat 0=1 then jY { k with hs:=k.hs.set r.toNat 0 } r else { k with hs:=k.hs.set r.toNat (k.hs.getD r.toNat 0-1) }
def dF (k:KS) (r:Int):Int×KS:=if 1<r then (if k.hs.getD r.toNat 0=0 then (3,k) else (0,{ ig k r with tr:=[] })) else (0,{ k with tr:=[] })
theorem nH {k:KS} {ext:List Int} {X:List bP} (h:Bk k ext X) {r:Int} (h0:0≤r) (hh:k.hs.getD r.toNat 0≠0):∃ n,(n,r)∈k.L++X:=by
 obtain⟨m,rfl⟩:=Int.eq_ofNat_of_zero_le h0;rw[Int.toNat_natCast,List.getD_eq_getElem?_getD] at hh;cases hx:k.hs[m]? with
 | none=>rw[hx] at hh;exact absurd rfl hh
 | some x =>
  rw[hx] at hh;exact(h.hol m x hx).2.2 hh
end Go.Proofs.YtiomgckodmecbaaGreat
