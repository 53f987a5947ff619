/- Contracts and plain laws, put together in one file. No condition. -/
import Derived.Test.YtiomgckodmecbaaGreatJKernelNames11
import Derived.Test.YtiomgckodmecbaaGreatRows

set_option maxRecDepth 100000
set_option maxHeartbeats 32000000
namespace Go.Proofs.YtiomgckodmecbaaGreat
open Go.RowKit Go.Tk
section
variable {w w':World} {B:Nat→Prop} {pp:Nat} {p:PS} {q:PA}
set_option maxRecDepth 100000
theorem O8:KI (iD uO 0).k:=Hw Gp 0
theorem yc:PC (iD uO 0):=⟨by unfold eT;decide +kernel,by unfold tH;decide +kernel,by decide +kernel,by decide +kernel,by decide +kernel,by decide +kernel,by decide +kernel,by decide +kernel,by decide +kernel,by decide +kernel⟩
theorem RZ:(iD uO 0).refs.length=4:=by decide +kernel
theorem VW:(iD uO 0).k.tr.length=1:=by decide +kernel
theorem Gr:(iD uO 0).k.ac=4:=by decide +kernel
theorem R3:(iD uO 0).k.ord.length≤64:=by decide +kernel
theorem Gs (w:World):Calls Tryz.prog 12 #[] w fun e w'=>e=.returned (.bool true)∧Same w w':=by
 have hbg:=Kj 2 5 (by decide) (by decide) (by decide) (by decide) w;have HBG:=Lib.hid hbg;clear hbg;go_enter Tryz.func12,Tryz.ntmps12;go_wp2_with (fail)
 refine HBG.out.mono ?_;rintro e w1 ⟨pp,q1,rfl,hP1,hs1⟩;have BP:=Lib.hid hP1;have aW:=Lib.hid hs1;clear hP1 hs1;go_wp2_with (fail)
 refine ai fun w2 hw2=>?_
 have hSB:=av.new w1 60 #[.int .i64 1,.int .i64 1,.int .i64 0,.int .i64 1,.int .i64 1,.int .i64 0,.int .i64 0,.int .i64 2,.int .i64 3,.int .i64 2,.int .i64 0,.int .i64 0,.int .i64 4,.int .i64 0,.int .i64 0,.int .i64 0];have hs2:Same w1 w2:=by rw[hw2];exact(ah.refl _ _).alloc _
 rw[← hw2] at hSB;clear hw2
 have hP2:PW (fun b=>b<w.heap.size∨b=w1.heap.size) w2 pp (xM 2 5) q1:=(BP.out.same hs2).NZ (fun b hb hn=>by
  rcases hn with hn | hn
  ·exact BP.out.base b hb hn
  ·have:=BP.out.N8 b hb
   omega)
 have hW1:=aW.out.size;obtain⟨SB,aay⟩:∃ z,w1.heap.size=z:=⟨_,rfl⟩;rw[aay] at hSB hP2 ⊢;have aaz:Same w w2:=aW.out.trans hs2 (fun _ _ h=>h);have hB2:∀ b,(b<w.heap.size∨b=SB)→b<w2.heap.size:=fun b hb=>by
  have:=hSB.lt
  have:=hs2.size
  omega
 have l7:=Lib.hid hSB;have Au:=Lib.hid hP2;have J4:=Lib.hid aaz;have HB2:=Lib.hid hB2;clear hSB hP2 aaz hB2 hs2 aay hW1;go_loopw [17] (fun i wr=>∃ k:Nat,k≤4∧i=.int .i64 k∧(∃ q',PW (fun b=>b<w.heap.size∨b=SB) wr pp (OX k) q')∧Up (fun b=>b<w.heap.size∨b=SB) w2 wr) (fun i _=>4-(intOf i).toNat)
 case atStart=>exact⟨0,by omega,rfl,⟨q1,Au.out⟩,ah.refl _ _⟩
 case round =>
  obtain⟨k,hk,rfl,⟨q',lI⟩,hU⟩:=hrel;have VX:=hU.kept l7.out (.inr rfl);have hBr:∀ b,(b<w.heap.size∨b=SB)→b<wr.heap.size:=fun b hb=>Nat.lt_of_lt_of_le (HB2.out b hb) hU.size
  by_cases hlt:k<4
  ·have hI:(k:Int)<4:=by omega
   obtain⟨o,ho⟩:∃ o,KT[k]?=some o:=⟨_,List.getElem?_eq_getElem (by exact hlt)⟩;have hrow:Go.Tk.Own wr 60 4 VT (some ⟨SB,0,none⟩) KT.length KT.length KT:=Own.zO IM VX KT (by decide) rfl;obtain⟨b',hb',hbl,hc⟩:=hrow.get IM ho;injection hb' with hb'
   injection hb' with hb'
   subst hb';have c0:wr.cell? ⟨SB,k*4,none⟩=some (.int .i64 o.1):=hc 0 (by omega);have c1:wr.cell? ⟨SB,k*4+1,none⟩=some (.int .i64 o.2.1):=hc 1 (by omega);have c2:wr.cell? ⟨SB,k*4+2,none⟩=some (.int .i64 o.2.2.1):=hc 2 (by omega);have c3:wr.cell? ⟨SB,k*4+3,none⟩=some (.int .i64 o.2.2.2):=hc 3 (by omega);have HO:=Lib.hid ho;have DZ:=Lib.hid lI;have HU:=Lib.hid hU;have bV:=Lib.hid hBr;clear ho lI hU hBr hrow VX hc;go_upto_region 7 with fail
   refine ai fun w3 hw3=>?_
   have hT:=av.new wr 60 #[.int .i64 o.1,.int .i64 o.2.1,.int .i64 o.2.2.1,.int .i64 o.2.2.2];have hs3:Same wr w3:=by rw[hw3];exact(ah.refl _ _).alloc _
   rw[← hw3] at hT;clear hw3
   have hP3:PW (fun b=>(b<w.heap.size∨b=SB)∨b=wr.heap.size) w3 pp (OX k) q':=(DZ.out.same hs3).NZ (fun b hb hn=>by
    rcases hn with hn | hn
    ·exact DZ.out.base b hb hn
    ·have:=DZ.out.N8 b hb
     omega)
   have hB3:∀ b,((b<w.heap.size∨b=SB)∨b=wr.heap.size)→b<w3.heap.size:=fun b hb=>by
    have:=hT.lt
    have:=hs3.size
    rcases hb with hb | hb
    ·have:=bV.out b hb
     omega
    ·omega
   have YE:Up (fun b=>b<w.heap.size∨b=SB) w2 w3:=HU.out.trans (Up.bg hs3);have hcl:=zM hP3 (RQ k) hB3;have vk:=Lib.hid hcl;have HB3:=Lib.hid hB3;have HT:=Lib.hid hT;have sS:=Lib.hid YE;clear hT hs3 hP3 hB3 YE hcl c0 c1 c2 c3 hbl DZ HU bV;go_wp2_with (fail)
   refine vk.out.mono ?_;rintro e w4 ⟨rfl,⟨q4,WG⟩,hU4⟩;have BS:=hU4.kept HT.out (.inr rfl);have hB4:∀ b,((b<w.heap.size∨b=SB)∨b=wr.heap.size)→b<w4.heap.size:=fun b hb=>Nat.lt_of_lt_of_le (HB3.out b hb) hU4.size
   have hst:=OY k o HO.out WG hB4;have HST:=Lib.hid hst;have aaA:Up (fun b=>b<w.heap.size∨b=SB) w2 w4:=sS.out.trans (ah.mono hU4 (fun b _ hn hb=>hn (.inl hb)));have EB:=Lib.hid aaA;have t0:=BS.cell 0;have t1:=BS.cell 1;have t2:=BS.cell 2;have t3:=BS.cell 3;have tl:=BS.lt;simp at t0 t1 t2 t3;clear WG hU4 BS hB4 hst aaA;go_wp2_with (fail)
   refine HST.out.mono ?_;rintro e w5 ⟨rfl,⟨q5,Lu⟩,hU5⟩;have Vo:=Lib.hid (Lu.NZ (B':=fun b=>b<w.heap.size∨b=SB) (fun b hb hn=>Lu.base b hb (.inl hn)));have WH:=Lib.hid (show Up (fun b=>b<w.heap.size∨b=SB) w2 w5 from EB.out.trans (ah.mono hU5 (fun b _ hn hb=>hn (.inl hb))));clear Lu hU5 t0 t1 t2 t3 tl;go_wp2;go_roundw
   case rel=>exact⟨k+1,by omega,by go_num,⟨q5,Vo.out⟩,WH.out⟩
   case measure=>simp[intOf] <;> omega
  ·obtain rfl:k=4:=by omega
   have Lu:PW (fun b=>b<w.heap.size∨b=SB) wr pp (iD uO 0) q':=lI;have hlk:=K4 Lu hBr O8 (Vz O8) yc.ord yc.hd yc.hr yc.hrg yc.htl R3 (by rw[Gr] <;> decide) (Ga KU);have EY:=Lib.hid hlk;have c2:=Lu.c2;rw[RZ] at c2;have hpl:=Lu.blk.lt;have HU:=Lib.hid hU;clear lI Lu hlk hBr VX hU;go_wp2_with (fail)
   refine EY.out.mono ?_;rintro e w6 ⟨rfl,⟨q6,hP6⟩,Tz⟩;clear c2 hpl;have hlv:Calls Tryz.prog 18 #[.pointer (some ⟨q6.kp,0,none⟩)] w6 fun e w''=>e=.returned (.int .i64 2)∧w6=w'':=by
    have h:=qa hP6.k (by rw[show(fU (iD uO 0)).k.ac=4 from Gr] <;> decide);rw[show(((fU (iD uO 0)).k.ac:Nat):Int)-2=2 from by rw[show(fU (iD uO 0)).k.ac=4 from Gr];rfl] at h;exact h
   have htr:Calls Tryz.prog 35 #[.pointer (some ⟨q6.kp,0,none⟩)] w6 fun e w''=>e=.returned (.int .i64 1)∧w6=w'':=by
    have h:=qb hP6.k;rw[show(fU (iD uO 0)).k.tr.length=1 from VW] at h;exact h
   have hpl:=hP6.blk.lt;have c0:=hP6.c0;have AB:=Lib.hid hlv;have mJ:=Lib.hid htr;have hfin:Same w w6:=by
    have h1:=HU.out.trans Tz;exact J4.out.trans (ah.mono h1 (fun b _ h=>h)) (fun b hb hn=>hn (.inl hb))
   have aD:=Lib.hid hfin;clear hlv htr hP6 Tz hfin;go_wp2_with (fail)
   refine AB.out.mono ?_;rintro e w7 ⟨rfl,rfl⟩;go_wp2_with (fail)
   refine mJ.out.mono ?_;rintro e w7 ⟨rfl,rfl⟩;go_wp2;go_ret;exact⟨rfl,aD.out⟩
end
theorem R4 (x:RS) (o:Int×Int×Int×Int):(eP x o).1.k.n=x.k.n:=by
 unfold eP;split
 ·unfold jf;split
  ·split
   ·exact(rM _ _).1
   ·exact(rM _ _).1
  ·rfl
 ·split
  ·unfold kM;split
   ·split
    ·exact(lK _ _).1
    ·exact(lK _ _).1
   ·rfl
  ·split
   ·unfold kN;split
    ·exact(xO _ _).1
    ·rfl
   ·split
    ·exact(xP _ _).1
    ·split
     ·exact(xQ _).1
     ·rfl
section
variable {w w':World}
theorem uQ (n c:Int) (A:Option Addr) (len cap:Nat) (ops:List (Int×Int×Int×Int)) (Ap:Option Addr) (np cp:Nat) (pl:List Nat) (w:World) (hs:Sl w 4 VT A len ops) (hb:len≤100000000000) (hsp:Sl w 1 iW Ap np pl) (hbp:np≤1000000000000) :
  Calls Tryz.prog 8 #[.int .i64 n,.int .i64 c,.slice A len cap,.slice Ap np cp] w fun e w'=>e=.returned (.bool true)∧Same w w':=by
 obtain rfl:=hs.len;obtain rfl:=hsp.len;have HA:=Lib.hid hs;have HP:=Lib.hid hsp;clear hs hsp;go_enter Tryz.func8,Tryz.ntmps8;go_wp2_with (fail)
 refine(Gs _).mono ?_;rintro e w1 ⟨rfl,hs1⟩;have HS:=Lib.hid hs1;replace HA:=Lib.hid (HA.out.same hs1);replace HP:=Lib.hid (HP.out.same hs1);clear hs1;by_cases hbad:n<1∨64<n∨c<2∨1048576<c
 ·go_wp2_with (fail)
  refine(KJ n c _ hbad).mono ?_;rintro e w2 ⟨rfl,hs⟩;replace HS:=Lib.hid (HS.out.trans hs (fun _ _ h=>h));clear hs;by_cases h1:n<1
  ·clear hbad;go_wp2;go_ret;exact⟨rfl,HS.out⟩
  ·by_cases h2:n>64
   ·clear hbad;go_wp2;go_ret;exact⟨rfl,HS.out⟩
   ·by_cases h3:c<2
    ·clear hbad;go_wp2;go_ret;exact⟨rfl,HS.out⟩
    ·have h4:c>1048576:=by omega
     clear hbad;go_wp2;go_ret;exact⟨rfl,HS.out⟩
 ·obtain⟨N,rfl⟩:=Int.eq_ofNat_of_zero_le (show 0≤n by omega);obtain⟨M,rfl⟩:=Int.eq_ofNat_of_zero_le (show 0≤c by omega);have hfo:=OD N M w1 (by omega) (by omega) (by omega) (by omega);have HFO:=Lib.hid hfo;clear hfo;go_wp2_with (fail)
  refine HFO.out.mono ?_;rintro e w2 ⟨xb,q,rfl,hX,hs⟩;have HX:=Lib.hid hX;have HU:=Lib.hid (Up.bg hs:Up (fun b=>b<w1.heap.size) w1 w2);clear hX hs hbad;by_cases h4:(M:Int)>4096
  ·go_wp2;go_ret;exact⟨rfl,HS.out.trans (ah.mono HU.out (fun b hb hn=>hn hb)) (fun _ _ h=>h)⟩
  ·go_wp2_with (fail)
   go_loopw [49] (fun s wr=>∃ (i:Nat) (x:RS) (q:RA),i≤ops.length∧s=.int .i64 i∧XI i x∧zU x.k∧x.k.n=N∧RW (fun b=>b<w1.heap.size) wr xb x q∧Up (fun b=>b<w1.heap.size) w1 wr) (fun s _=>ops.length-(intOf s).toNat)
   case atStart=>exact⟨0,_,q,by omega,rfl,VI N M,RJ N M,rfl,HX.out,HU.out⟩
   case round =>
    as_aux_lemma =>
    clear HX HU;obtain⟨i,x,q,hi,rfl,hI,hT,hN,hX,hU⟩:=hrel;have HI:=Lib.hid hI;have HT:=Lib.hid hT;have HN:=Lib.hid hN;have HX:=Lib.hid hX;have HU:=Lib.hid hU;have yj:Same w1 wr:=ah.mono hU (fun b hb hn=>hn hb);clear hI hT hX hU hN;by_cases hlt:i<ops.length
    ·have hJ:(i:Int)<(ops.length:Int):=by omega
     obtain⟨⟨kd,va,b,c⟩,ho⟩:∃ o,ops[i]?=some o:=⟨_,List.getElem?_eq_getElem hlt⟩;obtain⟨ab,off,hA,hbl,hc⟩:=(HA.out.same yj).get i _ ho;have d0:wr.cell? ⟨ab,off+i*4,none⟩=some (.int .i64 kd):=hc 0 (by show 0<4;omega);have d1:wr.cell? ⟨ab,off+i*4+1,none⟩=some (.int .i64 va):=hc 1 (by show 1<4;omega);have d2:wr.cell? ⟨ab,off+i*4+2,none⟩=some (.int .i64 b):=hc 2 (by show 2<4;omega);have d3:wr.cell? ⟨ab,off+i*4+3,none⟩=some (.int .i64 c):=hc 3 (by show 3<4;omega);clear ho hc;subst hA;go_upto_region 11 with fail
     refine ai fun w3 hw3=>?_
     have hT:=av.new wr 60 #[.int .i64 kd,.int .i64 va,.int .i64 b,.int .i64 c];have hs3:Same wr w3:=by rw[hw3];exact(ah.refl _ _).alloc _
     rw[← hw3] at hT;clear hw3;obtain⟨T,hTe⟩:∃ z,wr.heap.size=z:=⟨_,rfl⟩;have hT0:w1.heap.size≤T:=by rw[← hTe];exact HU.out.size
     rw[hTe] at hT ⊢;have yh:=Lib.hid (HX.out.turned hs3 (fun _ h=>h.elim) (C:=fun b=>b<w1.heap.size∨b=T) (fun b hb=>hb.elim .inl (fun h=>.inr (by rw[h,hTe];exact Nat.le_refl _))));have sS:=Lib.hid (HU.out.trans (Up.bg hs3));have HT3:=Lib.hid hT;have hva:=fun w' (hw:Same w3 w')=>kG (yh.out.same hw) HI.out.hl HI.out.rl HI.out.rg (BH HX.out.k.ki HI.out) Ap pl.length cp (HP.out.same (yj.trans (hs3.trans hw (fun _ _ h=>h)) (fun _ _ h=>h))) hbp
     have vL:=Lib.hid hva;have LD:Hid ((nY x pl).length≤60*pl.length):=Lib.hid (Nat.le_trans (qo _) (Nat.mul_le_mul_right _ HI.out.rl));obtain⟨V,hV⟩:∃ z,nY x pl=z:=⟨_,rfl⟩;rw[hV] at vL LD;have HVE:=Lib.hid hV;clear hT hs3 yj d0 d1 d2 d3 hbl hTe hva hV;go_wp2_with (fail)
     refine(vL.out _ (ah.refl _ _)).mono ?_;rintro e w4 ⟨A1,C1,rfl,hV,hf1,hs4⟩;have HV:=Lib.hid hV;have SS:=Lib.hid hf1;have gH:=Lib.hid hs4;clear vL;have kP:=yh.out.same hs4;have hxl:=kP.blk.lt;have c0:=kP.c0;have BK:=Lib.hid (fun w' (hw:Same w4 w')=>gD (kP.k.same hw));have mJ:=Lib.hid (fun w' (hw:Same w4 w')=>gu (kP.k.same hw));have En:=Lib.hid (fun w' (hw:Same w4 w')=>jC (kP.k.same hw));clear hV hf1 hs4 kP;go_upto_region 12 with fail
     refine aG (fun _=>False) [([0,1,2,3,5,6,7,8,10,11,12,13],4),([],9),([],14),([],15),([],16),([],17)] (by kernel_rfl) (by kernel_rfl) ?_;simp only[di,pick,List.map_cons,List.map_nil,List.getD_cons_zero,List.getD_cons_succ];have hsd:Same w4 w4.drew:=(ah.refl _ _).drew;repeat (any_goals (first | go_big_quiet_step (fail) | quiet_step (fail)))
     refine wpQuiet_nil ?_;refine aa rfl fun K hK=>?_
     go_simp;refine(BK.out _ hsd).mono ?_;rintro e w5 ⟨A2,C2,rfl,uN⟩;have hs5:=hsd.trans uN.2.2 (fun _ _ h=>h);refine hK _ _ (aY.bz hs5) ?_;clear hK K;repeat (any_goals (first | go_big_quiet_step (fail) | quiet_step (fail)))
     refine wpQuiet_nil ?_;refine aa rfl fun K hK=>?_
     go_simp;refine(mJ.out _ hs5).mono ?_;rintro e wy ⟨rfl,rfl⟩;refine hK _ _ (aY.bz hs5) ?_;clear hK K;repeat (any_goals (first | go_big_quiet_step (fail) | quiet_step (fail)))
     refine wpQuiet_nil ?_;refine aa rfl fun K hK=>?_
     go_simp;refine(En.out _ hs5).mono ?_;rintro e wy ⟨rfl,rfl⟩;refine hK _ _ (aY.bz hs5) ?_;clear hK K;repeat (any_goals (first | go_big_quiet_step (fail) | quiet_step (fail)))
     refine wpQuiet_nil ?_;refine aa rfl fun K hK=>?_
     go_simp;refine hK _ _ (aY.bz hs5) ?_;clear hK K;repeat (any_goals (first | go_big_quiet_step (fail) | quiet_step (fail)))
     refine wpQuiet_nil ?_;refine aa rfl fun K hK=>?_
     go_simp;refine hK _ _ (aY.bz hs5) ?_;clear hK K;repeat (any_goals (first | go_big_quiet_step (fail) | quiet_step (fail)))
     refine wpQuiet_nil ?_;have O9:=gH.out.trans hs5 (fun _ _ h=>h);have hf1:bG w3.heap.size A1:=SS.out;have hf2:bG w3.heap.size A2:=fun b hb=>by have:=uN.2.1 b hb;have:=gH.out.size;have:=hsd.size;omega
     have adp:=sS.out.size
     have Mw:=Lib.hid (yh.out.turned O9 (fun _ h=>h.elim) (C:=fun b=>b<w1.heap.size∨b=T∨rowOf A1 b∨rowOf A2 b) (fun b hb=>by
      rcases hb with h | h | h | h
      ·exact .inl (.inl h)
      ·exact .inl (.inr h)
      ·exact .inr (hf1 b h)
      ·exact .inr (hf2 b h)))
     have Ir:=Lib.hid (HT3.out.ag O9 id);have HV5:=Lib.hid (HV.out.ag hs5 (fun _ _=>id));have nU:=Lib.hid uN.1;have WI:∀ b,(b<w1.heap.size∨b=T∨rowOf A1 b∨rowOf A2 b)→b<w5.heap.size:=fun b hb=>by
      have h5:=O9.size;rcases hb with h | h | h | h
      ·omega
      ·rw[h];exact Ir.out.lt
      ·exact cu HV5.out h
      ·exact cu nU.out h
     have HB5:=Lib.hid WI;have HST:=Lib.hid (OG Mw.out WI HI.out (by omega) (kd,va,b,c));have WH:=Lib.hid (sS.out.trans (Up.bg O9));have zI:=Lib.hid (VL HX.out.k.ki HI.out HT.out (kd,va,b,c));have Em:=Lib.hid (RG HX.out.k.ki HI.out (kd,va,b,c));have VY:=R4 x (kd,va,b,c);rw[HN.out] at VY;have PM:=Lib.hid VY;obtain⟨x',E,hxe⟩:∃ x' E,eP x (kd,va,b,c)=(x',E):=⟨_,_,rfl⟩;have htu:=zI.out.tu;have hxi:=Em.out;have VY:=PM.out;have hst:=zI.out.st;have hsm:=zI.out.sm;have hex:=zI.out.ex;have hun:=zI.out.un;rw[hxe] at HST htu hst hsm hex hun hxi VY;simp only at htu hst hsm hex hun hxi VY;replace Em:=Lib.hid hxi;replace PM:=Lib.hid VY;have Ls:=Lib.hid htu;have NY:=Lib.hid hst;have uK:=Lib.hid hsm;have HEX:=Lib.hid hex;have HUN:=Lib.hid hun;have t0:=Ir.out.cell 0;have t1:=Ir.out.cell 1;have t2:=Ir.out.cell 2;have t3:=Ir.out.cell 3;have tl:=Ir.out.lt;simp at t0 t1 t2 t3;clear uN O9 hs5 hsd hf1 hf2 WI hxi VY hxe htu hst hsm hex hun hxl c0 BK mJ En;go_wp2_with (fail)
     refine HST.out.mono ?_;rintro e w6 ⟨he,⟨q6,uV⟩,Tz⟩;replace he:e=.returned (.int .i64 E):=he;subst he;replace uV:RW (fun b=>b<w1.heap.size∨b=T∨rowOf A1 b∨rowOf A2 b) w6 xb x' q6:=uV;have qK:=Lib.hid uV;have EC:=Lib.hid (Ir.out.ag Tz (fun hn=>hn (.inr (.inl rfl))));have QZ:=Lib.hid (HV5.out.ag Tz (fun y hy hn=>hn (.inr (.inr (.inl ⟨y,hy,rfl⟩)))));have vH:=Lib.hid (nU.out.ag Tz (fun y hy hn=>hn (.inr (.inr (.inr ⟨y,hy,rfl⟩)))));have HU6:=Lib.hid (WH.out.trans (ah.mono Tz (fun _ _ hn hb=>hn (.inl hb))));have tV:Hid (x.k.ord.length≤64):=Lib.hid (by rw[HX.out.k.ki.lv.ol];exact HX.out.k.ki.bk.n64);clear uV Tz t0 t1 t2 t3 tl;have t0:=EC.out.cell 0;have t1:=EC.out.cell 1;have tl:=EC.out.lt;have hxl:=qK.out.blk.lt;have c0:=qK.out.c0;simp at t0 t1;have hrel:∀ w',Same w6 w'→RW (fun b=>b<w1.heap.size) w' xb x' q6∧Up (fun b=>b<w1.heap.size) w1 w':=fun w' hw=>⟨(qK.out.same hw).sub (fun _ hb=>.inl hb),HU6.out.trans (Up.bg hw)⟩
     have jv:=Lib.hid hrel;clear hrel;by_cases hgo:kd≠4∧kd≠5∧kd≠6∧E=0
     ·obtain⟨g4,g5,g6,rfl⟩:=hgo;have f4:(kd == 4)=false:=by simpa using g4
      have f5:(kd == 5)=false:=by simpa using g5
      have f6:(kd == 6)=false:=by simpa using g6
      go_wp2;go_roundw
      case rel=>exact⟨i+1,x',q6,by omega,by go_num,Em.out,Ls.out,PM.out,(jv.out _ (ah.refl _ _)).1,(jv.out _ (ah.refl _ _)).2⟩
      case measure=>simp[intOf] <;> omega
     ·have hstill:=NY.out (by
       by_cases h4:kd=4
       ·exact .inl h4
       ·by_cases h5:kd=5
        ·exact .inr (.inl h5)
        ·by_cases h6:kd=6
         ·exact .inr (.inr (.inl h6))
         ·exact .inr (.inr (.inr (fun h0=>hgo ⟨h4,h5,h6,h0⟩))))
      obtain⟨s1,s2,s3⟩:=hstill;have WO:=IK (x':=x') (pl:=pl) HX.out.k.ki HI.out s1 s2 s3;rw[HVE.out] at WO;have hva:=fun w' (hw:Same w6 w')=>kG (qK.out.same hw) Em.out.hl Em.out.rl Em.out.rg (BH qK.out.k.ki Em.out) Ap pl.length cp (HP.out.same (ah.mono (HU6.out.trans (Up.bg hw)) (fun b hb hn=>hn hb))) hbp
      rw[WO] at hva;have vL:=Lib.hid hva;have HKQ:=Lib.hid s3;clear hva WO s1 s2 s3 NY;have hcase:(E≠0∧kd=4)∨(E≠0∧kd=5)∨(E≠0∧kd=6)∨(E≠0∧(kd≠4∧kd≠5∧kd≠6))∨(E=0∧kd=6)∨(E=0∧kd=4)∨(E=0∧kd=5):=by omega
      clear hgo;rcases hcase with⟨hE,hk⟩ | ⟨hE,hk⟩ | ⟨hE,hk⟩ | ⟨hE,hk4,hk5,Fe⟩ | ⟨hE,hk⟩ | ⟨hE,hk⟩ | ⟨hE,hk⟩
      ·have IQ:=Lib.hid (uK.out (.inl hE));have fE:(E != 0)=true:=by simpa using hE
       subst hk;go_wp2_with (fail)
       refine(vL.out _ (ah.refl _ _)).mono ?_;rintro e w7 ⟨A4,C4,rfl,Ad,Aq,hs7⟩;have sJ:=Lib.hid (fJ A1 A4 C1 C4 V w7 ((QZ.out.ag hs7 (fun _ _=>id)).sl (fun _=>rfl)) (Ad.sl (fun _=>rfl)) (by have:=LD.out;omega));have jZ:=Lib.hid hs7;clear Ad Aq hs7 vL hxl c0 t0 t1 tl;go_wp2_with (fail)
       refine sJ.out.mono ?_;rintro e w8 ⟨rfl,oD⟩;have mO:=Lib.hid (jZ.out.trans oD (fun _ _ h=>h));have lN:=qK.out.same mO.out;have lM:=EC.out.ag mO.out id;have t0:=lM.cell 0;have t1:=lM.cell 1;have tl:=lM.lt;have hxl:=lN.blk.lt;have c0:=lN.c0;simp at t0 t1;have IU:=Lib.hid lN;have Lx:=Lib.hid lM;clear oD sJ lN lM jZ;have hor:=gD IU.out.k;rw[IQ.out] at hor;have BK:=Lib.hid hor;clear hor;go_wp2_with (fail)
       refine BK.out.mono ?_;rintro e w9 ⟨A6,C6,rfl,yg⟩;have mP:=mO.out.trans yg.2.2 (fun _ _ h=>h);have hps:=gP A2 A6 x.k.ord.length x.k.ord.length C2 C6 x.k.ord x.k.ord w9 (vH.out.ag mP (fun _ _=>id)).il yg.1.il (by have:=tV.out;omega) (by have:=tV.out;omega);rw[decide_eq_true rfl] at hps;have O4:=Lib.hid hps;have CW:=Lib.hid mP;clear hps yg mP hxl c0 t0 t1 tl;go_wp2_with (fail)
       refine O4.out.mono ?_;rintro e LF ⟨rfl,jT⟩;have iC:=Lib.hid (CW.out.trans jT (fun _ _ h=>h));have pW:=qK.out.same iC.out;have rV:=EC.out.ag iC.out id;have t0:=rV.cell 0;have t1:=rV.cell 1;have tl:=rV.lt;have hxl:=pW.blk.lt;have c0:=pW.c0;simp at t0 t1;have htr:=gu pW.k;have uJ:=jC pW.k;rw[IQ.out] at htr uJ;have mJ:=Lib.hid htr;have En:=Lib.hid uJ;clear jT pW rV htr uJ;go_wp2_with (fail)
       refine mJ.out.mono ?_;rintro e wz ⟨rfl,rfl⟩;go_wp2_with (fail)
       refine En.out.mono ?_;rintro e wz ⟨rfl,rfl⟩;go_wp2;go_roundw
       case rel=>exact⟨i+1,x',q6,by omega,by go_num,Em.out,Ls.out,PM.out,(jv.out _ iC.out).1,(jv.out _ iC.out).2⟩
       case measure=>simp[intOf] <;> omega
      ·have IQ:=Lib.hid (uK.out (.inl hE));have fE:(E != 0)=true:=by simpa using hE
       subst hk;go_wp2_with (fail)
       refine(vL.out _ (ah.refl _ _)).mono ?_;rintro e w7 ⟨A4,C4,rfl,Ad,Aq,hs7⟩;have sJ:=Lib.hid (fJ A1 A4 C1 C4 V w7 ((QZ.out.ag hs7 (fun _ _=>id)).sl (fun _=>rfl)) (Ad.sl (fun _=>rfl)) (by have:=LD.out;omega));have jZ:=Lib.hid hs7;clear Ad Aq hs7 vL hxl c0 t0 t1 tl;go_wp2_with (fail)
       refine sJ.out.mono ?_;rintro e w8 ⟨rfl,oD⟩;have mO:=Lib.hid (jZ.out.trans oD (fun _ _ h=>h));have lN:=qK.out.same mO.out;have lM:=EC.out.ag mO.out id;have t0:=lM.cell 0;have t1:=lM.cell 1;have tl:=lM.lt;have hxl:=lN.blk.lt;have c0:=lN.c0;simp at t0 t1;have IU:=Lib.hid lN;have Lx:=Lib.hid lM;clear oD sJ lN lM jZ;have hor:=gD IU.out.k;rw[IQ.out] at hor;have BK:=Lib.hid hor;clear hor;go_wp2_with (fail)
       refine BK.out.mono ?_;rintro e w9 ⟨A6,C6,rfl,yg⟩;have mP:=mO.out.trans yg.2.2 (fun _ _ h=>h);have hps:=gP A2 A6 x.k.ord.length x.k.ord.length C2 C6 x.k.ord x.k.ord w9 (vH.out.ag mP (fun _ _=>id)).il yg.1.il (by have:=tV.out;omega) (by have:=tV.out;omega);rw[decide_eq_true rfl] at hps;have O4:=Lib.hid hps;have CW:=Lib.hid mP;clear hps yg mP hxl c0 t0 t1 tl;go_wp2_with (fail)
       refine O4.out.mono ?_;rintro e LF ⟨rfl,jT⟩;have iC:=Lib.hid (CW.out.trans jT (fun _ _ h=>h));have pW:=qK.out.same iC.out;have rV:=EC.out.ag iC.out id;have t0:=rV.cell 0;have t1:=rV.cell 1;have tl:=rV.lt;have hxl:=pW.blk.lt;have c0:=pW.c0;simp at t0 t1;have htr:=gu pW.k;have uJ:=jC pW.k;rw[IQ.out] at htr uJ;have mJ:=Lib.hid htr;have En:=Lib.hid uJ;clear jT pW rV htr uJ;go_wp2_with (fail)
       refine mJ.out.mono ?_;rintro e wz ⟨rfl,rfl⟩;go_wp2_with (fail)
       refine En.out.mono ?_;rintro e wz ⟨rfl,rfl⟩;go_wp2;go_roundw
       case rel=>exact⟨i+1,x',q6,by omega,by go_num,Em.out,Ls.out,PM.out,(jv.out _ iC.out).1,(jv.out _ iC.out).2⟩
       case measure=>simp[intOf] <;> omega
      ·have IQ:=Lib.hid (uK.out (.inl hE));have fE:(E != 0)=true:=by simpa using hE
       subst hk;go_wp2_with (fail)
       refine(vL.out _ (ah.refl _ _)).mono ?_;rintro e w7 ⟨A4,C4,rfl,Ad,Aq,hs7⟩;have sJ:=Lib.hid (fJ A1 A4 C1 C4 V w7 ((QZ.out.ag hs7 (fun _ _=>id)).sl (fun _=>rfl)) (Ad.sl (fun _=>rfl)) (by have:=LD.out;omega));have jZ:=Lib.hid hs7;clear Ad Aq hs7 vL hxl c0 t0 t1 tl;go_wp2_with (fail)
       refine sJ.out.mono ?_;rintro e w8 ⟨rfl,oD⟩;have mO:=Lib.hid (jZ.out.trans oD (fun _ _ h=>h));have lN:=qK.out.same mO.out;have lM:=EC.out.ag mO.out id;have t0:=lM.cell 0;have t1:=lM.cell 1;have tl:=lM.lt;have hxl:=lN.blk.lt;have c0:=lN.c0;simp at t0 t1;have IU:=Lib.hid lN;have Lx:=Lib.hid lM;clear oD sJ lN lM jZ;have hor:=gD IU.out.k;rw[IQ.out] at hor;have BK:=Lib.hid hor;clear hor;go_wp2_with (fail)
       refine BK.out.mono ?_;rintro e w9 ⟨A6,C6,rfl,yg⟩;have mP:=mO.out.trans yg.2.2 (fun _ _ h=>h);have hps:=gP A2 A6 x.k.ord.length x.k.ord.length C2 C6 x.k.ord x.k.ord w9 (vH.out.ag mP (fun _ _=>id)).il yg.1.il (by have:=tV.out;omega) (by have:=tV.out;omega);rw[decide_eq_true rfl] at hps;have O4:=Lib.hid hps;have CW:=Lib.hid mP;clear hps yg mP hxl c0 t0 t1 tl;go_wp2_with (fail)
       refine O4.out.mono ?_;rintro e LF ⟨rfl,jT⟩;have iC:=Lib.hid (CW.out.trans jT (fun _ _ h=>h));have pW:=qK.out.same iC.out;have rV:=EC.out.ag iC.out id;have t0:=rV.cell 0;have t1:=rV.cell 1;have tl:=rV.lt;have hxl:=pW.blk.lt;have c0:=pW.c0;simp at t0 t1;have htr:=gu pW.k;have uJ:=jC pW.k;rw[IQ.out] at htr uJ;have mJ:=Lib.hid htr;have En:=Lib.hid uJ;clear jT pW rV htr uJ;go_wp2_with (fail)
       refine mJ.out.mono ?_;rintro e wz ⟨rfl,rfl⟩;go_wp2_with (fail)
       refine En.out.mono ?_;rintro e wz ⟨rfl,rfl⟩;go_wp2;go_roundw
       case rel=>exact⟨i+1,x',q6,by omega,by go_num,Em.out,Ls.out,PM.out,(jv.out _ iC.out).1,(jv.out _ iC.out).2⟩
       case measure=>simp[intOf] <;> omega
      ·have IQ:=Lib.hid (uK.out (.inl hE));have fE:(E != 0)=true:=by simpa using hE
       have f4:(kd == 4)=false:=by simpa using hk4
       have f5:(kd == 5)=false:=by simpa using hk5
       have f6:(kd == 6)=false:=by simpa using Fe
       go_wp2_with (fail)
       refine(vL.out _ (ah.refl _ _)).mono ?_;rintro e w7 ⟨A4,C4,rfl,Ad,Aq,hs7⟩;have sJ:=Lib.hid (fJ A1 A4 C1 C4 V w7 ((QZ.out.ag hs7 (fun _ _=>id)).sl (fun _=>rfl)) (Ad.sl (fun _=>rfl)) (by have:=LD.out;omega));have jZ:=Lib.hid hs7;clear Ad Aq hs7 vL hxl c0 t0 t1 tl;go_wp2_with (fail)
       refine sJ.out.mono ?_;rintro e w8 ⟨rfl,oD⟩;have mO:=Lib.hid (jZ.out.trans oD (fun _ _ h=>h));have lN:=qK.out.same mO.out;have lM:=EC.out.ag mO.out id;have t0:=lM.cell 0;have t1:=lM.cell 1;have tl:=lM.lt;have hxl:=lN.blk.lt;have c0:=lN.c0;simp at t0 t1;have IU:=Lib.hid lN;have Lx:=Lib.hid lM;clear oD sJ lN lM jZ;have hor:=gD IU.out.k;rw[IQ.out] at hor;have BK:=Lib.hid hor;clear hor;go_wp2_with (fail)
       refine BK.out.mono ?_;rintro e w9 ⟨A6,C6,rfl,yg⟩;have mP:=mO.out.trans yg.2.2 (fun _ _ h=>h);have hps:=gP A2 A6 x.k.ord.length x.k.ord.length C2 C6 x.k.ord x.k.ord w9 (vH.out.ag mP (fun _ _=>id)).il yg.1.il (by have:=tV.out;omega) (by have:=tV.out;omega);rw[decide_eq_true rfl] at hps;have O4:=Lib.hid hps;have CW:=Lib.hid mP;clear hps yg mP hxl c0 t0 t1 tl;go_wp2_with (fail)
       refine O4.out.mono ?_;rintro e LF ⟨rfl,jT⟩;have iC:=Lib.hid (CW.out.trans jT (fun _ _ h=>h));have pW:=qK.out.same iC.out;have rV:=EC.out.ag iC.out id;have t0:=rV.cell 0;have t1:=rV.cell 1;have tl:=rV.lt;have hxl:=pW.blk.lt;have c0:=pW.c0;simp at t0 t1;have htr:=gu pW.k;have uJ:=jC pW.k;rw[IQ.out] at htr uJ;have mJ:=Lib.hid htr;have En:=Lib.hid uJ;clear jT pW rV htr uJ;go_wp2_with (fail)
       refine mJ.out.mono ?_;rintro e wz ⟨rfl,rfl⟩;go_wp2_with (fail)
       refine En.out.mono ?_;rintro e wz ⟨rfl,rfl⟩;go_wp2;go_roundw
       case rel=>exact⟨i+1,x',q6,by omega,by go_num,Em.out,Ls.out,PM.out,(jv.out _ iC.out).1,(jv.out _ iC.out).2⟩
       case measure=>simp[intOf] <;> omega
      ·have IQ:=Lib.hid (uK.out (.inr hk));subst hE hk;go_wp2_with (fail)
       refine(vL.out _ (ah.refl _ _)).mono ?_;rintro e w7 ⟨A4,C4,rfl,Ad,Aq,hs7⟩;have sJ:=Lib.hid (fJ A1 A4 C1 C4 V w7 ((QZ.out.ag hs7 (fun _ _=>id)).sl (fun _=>rfl)) (Ad.sl (fun _=>rfl)) (by have:=LD.out;omega));have jZ:=Lib.hid hs7;clear Ad Aq hs7 vL hxl c0 t0 t1 tl;go_wp2_with (fail)
       refine sJ.out.mono ?_;rintro e w8 ⟨rfl,oD⟩;have mO:=Lib.hid (jZ.out.trans oD (fun _ _ h=>h));have lN:=qK.out.same mO.out;have lM:=EC.out.ag mO.out id;have t0:=lM.cell 0;have t1:=lM.cell 1;have tl:=lM.lt;have hxl:=lN.blk.lt;have c0:=lN.c0;simp at t0 t1;have IU:=Lib.hid lN;have Lx:=Lib.hid lM;clear oD sJ lN lM jZ;have hor:=gD IU.out.k;rw[IQ.out] at hor;have BK:=Lib.hid hor;clear hor;go_wp2_with (fail)
       refine BK.out.mono ?_;rintro e w9 ⟨A6,C6,rfl,yg⟩;have mP:=mO.out.trans yg.2.2 (fun _ _ h=>h);have hps:=gP A2 A6 x.k.ord.length x.k.ord.length C2 C6 x.k.ord x.k.ord w9 (vH.out.ag mP (fun _ _=>id)).il yg.1.il (by have:=tV.out;omega) (by have:=tV.out;omega);rw[decide_eq_true rfl] at hps;have O4:=Lib.hid hps;have CW:=Lib.hid mP;clear hps yg mP hxl c0 t0 t1 tl;go_wp2_with (fail)
       refine O4.out.mono ?_;rintro e LF ⟨rfl,jT⟩;have iC:=Lib.hid (CW.out.trans jT (fun _ _ h=>h));have pW:=qK.out.same iC.out;have rV:=EC.out.ag iC.out id;have t0:=rV.cell 0;have t1:=rV.cell 1;have tl:=rV.lt;have hxl:=pW.blk.lt;have c0:=pW.c0;simp at t0 t1;have htr:=gu pW.k;have uJ:=jC pW.k;rw[IQ.out] at htr uJ;have mJ:=Lib.hid htr;have En:=Lib.hid uJ;clear jT pW rV htr uJ;go_wp2_with (fail)
       refine mJ.out.mono ?_;rintro e wz ⟨rfl,rfl⟩;go_wp2_with (fail)
       refine En.out.mono ?_;rintro e wz ⟨rfl,rfl⟩;go_wp2;go_roundw
       case rel=>exact⟨i+1,x',q6,by omega,by go_num,Em.out,Ls.out,PM.out,(jv.out _ iC.out).1,(jv.out _ iC.out).2⟩
       case measure=>simp[intOf] <;> omega
      ·have hex:=HEX.out hk hE;have htb:x.k.tr.length≤100000000000:=by have:=HI.out.tr;omega
       have hq:((x.k.tr.length:Int)+1 != (x.k.tr.length:Int)+1)=false:=by simp
       obtain⟨⟨r0,r1⟩,e2,e3⟩:=hex;subst hk hE;have hv0:¬ va<0:=by omega
       have hv1:¬ va>(N:Int)-2:=by have:=HN.out;omega
       obtain⟨l,rfl⟩:=Int.eq_ofNat_of_zero_le r0;have adq:(N:Int)≤64:=by have h1:=HN.out;have h2:=HX.out.k.ki.bk.n64;omega
       have g0:decide ((l:Int)<0)=false:=decide_eq_false hv0;have g1:decide ((N:Int)-2<(l:Int))=false:=decide_eq_false hv1;have hlo:l+2≤x.k.ord.length:=by have h1:=HX.out.k.ki.lv.ol;omega
       rw[Int.toNat_natCast] at e2;have HE2:=Lib.hid e2;have HE3:=Lib.hid (show x'.k.tr.length=x.k.tr.length+1 by rw[e3];simp);clear e2 e3 r0 r1;go_wp2_with (fail)
       refine(vL.out _ (ah.refl _ _)).mono ?_;rintro e w7 ⟨A4,C4,rfl,Ad,Aq,hs7⟩;have sJ:=Lib.hid (fJ A1 A4 C1 C4 V w7 ((QZ.out.ag hs7 (fun _ _=>id)).sl (fun _=>rfl)) (Ad.sl (fun _=>rfl)) (by have:=LD.out;omega));have jZ:=Lib.hid hs7;clear Ad Aq hs7 vL hxl c0 t0 t1 tl;go_wp2_with (fail)
       refine sJ.out.mono ?_;rintro e w8 ⟨rfl,oD⟩;have mO:=Lib.hid (jZ.out.trans oD (fun _ _ h=>h));have lN:=qK.out.same mO.out;have lM:=EC.out.ag mO.out id;have t0:=lM.cell 0;have t1:=lM.cell 1;have tl:=lM.lt;have hxl:=lN.blk.lt;have c0:=lN.c0;simp at t0 t1;have IU:=Lib.hid lN;have Lx:=Lib.hid lM;clear oD sJ lN lM jZ;have htd:=fun w' (hw:Same w8 w')=>FB A2 x.k.ord.length C2 x.k.ord l w' (vH.out.ag (mO.out.trans hw (fun _ _ h=>h)) (fun _ _=>id)).il (by have:=tV.out;omega) hlo
       have hor:=fun w' (hw:Same w8 w')=>gD (IU.out.same hw).k
       rw[HE2.out] at hor;have htr:=fun w' (hw:Same w8 w')=>gu (IU.out.same hw).k
       rw[HE3.out,show((x.k.tr.length+1:Nat):Int)=(x.k.tr.length:Int)+1 from rfl] at htr;have HTD:=Lib.hid htd;have BK:=Lib.hid hor;have mJ:=Lib.hid htr;clear htd hor htr hlo;go_upto_region 25 with fail
       refine aG (fun _=>False) [([0,1,2,3,4,5,6,7,8,9,10,11,12,13,15,16,17,18],14),([],19),([],20),([21,22,23,24,25,26,27,29,30],28),([31],32)] (by kernel_rfl) (by kernel_rfl) ?_;have hsd:Same w8 w8.drew:=(ah.refl _ _).drew;rw[aB];simp only[pick,List.map_cons,List.map_nil,List.getD_cons_zero,List.getD_cons_succ];repeat go_big_quiet_step (fail)
       refine wpQuiet_nil ?_;refine bF (by rfl) fun K hK=>?_
       go_simp;refine(HTD.out _ hsd).mono ?_;rintro e w9 ⟨A6,C6,rfl,yg⟩;have mP:=hsd.trans yg.2.2 (fun _ _ h=>h);refine hK _ _ (aY.bz mP) ?_;clear hK K;rw[aB];simp only[pick,List.map_nil,List.getD_cons_zero,List.getD_cons_succ];refine wpQuiet_nil ?_;refine bF (by rfl) fun K hK=>?_
       go_simp;refine(BK.out _ mP).mono ?_;rintro e LF ⟨A7,C7,rfl,R5⟩;have jT:=mP.trans R5.2.2 (fun _ _ h=>h);refine hK _ _ (aY.bz jT) ?_;clear hK K;have hps:=gP A6 A7 _ _ C6 C7 _ _ LF (yg.1.ag R5.2.2 (fun _ _=>id)).il R5.1.il (by rw[eY];have:=tV.out;omega) (by rw[eY];have:=tV.out;omega);rw[decide_eq_true rfl] at hps;rw[aB];simp only[pick,List.map_nil,List.getD_cons_zero,List.getD_cons_succ];refine wpQuiet_nil ?_;refine bF (by rfl) fun K hK=>?_
       go_simp;refine hps.mono ?_;rintro e Z9 ⟨rfl,TA⟩;have BJ:=jT.trans TA (fun _ _ h=>h);refine hK _ _ (aY.bz BJ) ?_;clear hK K hps TA yg R5;rw[aB];simp only[pick,List.map_cons,List.map_nil,List.getD_cons_zero,List.getD_cons_succ];repeat go_big_quiet_step (fail)
       refine wpQuiet_nil ?_;refine bF (by rfl) fun K hK=>?_
       go_simp;refine(mJ.out _ BJ).mono ?_;rintro e wz ⟨rfl,rfl⟩;refine hK _ _ (aY.bz BJ) ?_;clear hK K;rw[aN];simp only[pick,List.map_cons,List.map_nil,List.getD_cons_zero,List.getD_cons_succ];repeat go_big_quiet_step (fail)
       refine wpQuiet_nil ?_;have iC:=Lib.hid (mO.out.trans BJ (fun _ _ h=>h));clear mP jT BJ hsd hxl c0 t0 t1 tl;go_wp2;go_roundw
       case rel=>exact⟨i+1,x',q6,by omega,by go_num,Em.out,Ls.out,PM.out,(jv.out _ iC.out).1,(jv.out _ iC.out).2⟩
       case measure=>simp[intOf] <;> omega
      ·have hun:=HUN.out hk hE;have htb:x.k.tr.length≤100000000000:=by have:=HI.out.tr;omega
       subst hk hE;have HE3:=Lib.hid hun;clear hun;go_wp2_with (fail)
       refine(vL.out _ (ah.refl _ _)).mono ?_;rintro e w7 ⟨A4,C4,rfl,Ad,Aq,hs7⟩;have sJ:=Lib.hid (fJ A1 A4 C1 C4 V w7 ((QZ.out.ag hs7 (fun _ _=>id)).sl (fun _=>rfl)) (Ad.sl (fun _=>rfl)) (by have:=LD.out;omega));have jZ:=Lib.hid hs7;clear Ad Aq hs7 vL hxl c0 t0 t1 tl;go_wp2_with (fail)
       refine sJ.out.mono ?_;rintro e w8 ⟨rfl,oD⟩;have mO:=Lib.hid (jZ.out.trans oD (fun _ _ h=>h));have lN:=qK.out.same mO.out;have lM:=EC.out.ag mO.out id;have t0:=lM.cell 0;have t1:=lM.cell 1;have tl:=lM.lt;have hxl:=lN.blk.lt;have c0:=lN.c0;simp at t0 t1;have IU:=Lib.hid lN;have Lx:=Lib.hid lM;clear oD sJ lN lM jZ;have htr:=gu IU.out.k;have mJ:=Lib.hid htr;have iC:=mO;clear htr;go_wp2_with (fail)
       refine mJ.out.mono ?_;rintro e wz ⟨rfl,rfl⟩;have hq:((x'.k.tr.length:Int) != (x.k.tr.length:Int)-1)=false:=by
        have:=HE3.out
        have:(x'.k.tr.length:Int)=(x.k.tr.length:Int)-1:=by omega
        simp[this]
       go_wp2;go_roundw
       case rel=>exact⟨i+1,x',q6,by omega,by go_num,Em.out,Ls.out,PM.out,(jv.out _ iC.out).1,(jv.out _ iC.out).2⟩
       case measure=>simp[intOf] <;> omega
    ·obtain rfl:i=ops.length:=by omega
     have hJ:¬ ((ops.length:Nat):Int)<(ops.length:Int):=by omega
     have hup:∀ w',Up (fun b=>b<w1.heap.size) wr w'→Same w1 w':=fun w' hw=>ah.mono (HU.out.trans hw) (fun b hb hn=>hn hb)
     have hbk:=KX HX.out (fun b hb=>Nat.lt_of_lt_of_le hb HU.out.size) HI.out HT.out (by omega) A cap ops (fun w' hw=>HA.out.same (hup w' hw)) hb Ap cp (fun w' hw=>HP.out.same (hup w' hw)) hbp;have HBK:=Lib.hid hbk;have pO:=Lib.hid hup;clear hbk hup yj;go_wp2_with (fail)
     refine HBK.out.mono ?_;rintro e w5 ⟨rfl,hu5⟩;have nE:=Lib.hid (pO.out _ hu5);clear hu5;go_wp2;go_ret;exact⟨rfl,HS.out.trans nE.out (fun _ _ h=>h)⟩
end
abbrev Pb:List jX:=[.int .i64,.int .i64,.int .i64,.int .i64]
theorem VZ {w:World} (l:List Value) (h:gQ w Pb l):∃ o:Int×Int×Int×Int,l=VT o:=by
 simp only[gQ,iE] at h;obtain⟨v0,l0,rfl,⟨n0,rfl,w0⟩,v1,l1,rfl,⟨n1,rfl,w1⟩,v2,l2,rfl,⟨n2,rfl,w2⟩,v3,l3,rfl,⟨n3,rfl,w3⟩,rfl⟩:=h;exact⟨⟨n0,n1,n2,n3⟩,rfl⟩
theorem V3 {w:World} {v:Value} (h:iE w (.slice 32 Pb) v):∃ A n c xs,v=.slice A n c∧n≤c∧c*32≤reachBytes∧Sl w 4 VT A n xs:=by
 obtain⟨A,n,c,xs,rfl,h1,_,h2,h3⟩:=BX VT (by decide) VZ h;exact⟨A,n,c,xs,rfl,h1,h2,h3⟩
theorem Pf {H:Type}:∀ d:DataW H,1≤Rows.uptoBulk d:=by
 intro d;unfold Rows.uptoBulk;split <;> omega
theorem Er {H:Type}:∀ ds:List (DataW H),ds.length≤Rows.uptoBulkAll ds
 | []=>Nat.zero_le _
 | d::ds=>by
  have h1:=Er ds;have h2:=Pf d;unfold Rows.uptoBulkAll;rw[List.length_cons];omega
theorem Es {H:Type} {d:DataW H}:∀ {ds:List (DataW H)},d∈ds→Rows.uptoBulk d≤Rows.uptoBulkAll ds
 | [],h=>by cases h
 | e::ds,h=>by
  unfold Rows.uptoBulkAll;rcases List.mem_cons.1 h with rfl | h
  ·omega
  ·have:=Es h
   omega
theorem K8 {H:Type} {ds:List (DataW H)} (h:Rows.uptoSmall H ds=true):∀ xs ys,DataW.slice xs ys∈ds→xs.length≤1048576:=fun xs ys hm=>by
 have h1:=Es hm;have h2:=Er xs;unfold Rows.uptoSmall at h;rw[decide_eq_true_eq] at h;unfold Rows.uptoBulk at h1;omega
theorem Pg {w:World} (l:List Value) (h:gQ w [.int .u64] l):∃ x:Nat,l=iW x:=by
 simp only[gQ,iE] at h;obtain⟨v,l1,rfl,⟨n,rfl,hw⟩,rfl⟩:=h;have h0:0≤n:=by
  simp only[Lit.wf,Bool.and_eq_true,decide_eq_true_eq] at hw;exact hw.1
 exact⟨n.toNat,by unfold iW;rw[Int.toNat_of_nonneg h0]⟩
end Go.Proofs.YtiomgckodmecbaaGreat

