/- Contracts and plain laws, put together in one file. No condition. -/
import Derived.Test.YtiomgckodmecbaaGreatJKernelRoom11
import Derived.Test.YtiomgckodmecbaaGreatRows

set_option maxRecDepth 100000
set_option maxHeartbeats 32000000
namespace Go.Proofs.YtiomgckodmecbaaGreat
open Go.RowKit Go.Tk
section
variable {w w':World} {B:Nat→Prop} {pp:Nat} {p:PS} {q:PA}
set_option maxRecDepth 100000
theorem NK:KI (gZ tL 0).k:=Gp Fu 0
theorem wX:PC (gZ tL 0):=⟨by unfold eY;decide +kernel,by unfold rU;decide +kernel,by decide +kernel,by decide +kernel,by decide +kernel,by decide +kernel,by decide +kernel,by decide +kernel,by decide +kernel,by decide +kernel⟩
theorem Qx:(gZ tL 0).refs.length=4:=by decide +kernel
theorem UE:(gZ tL 0).k.tr.length=1:=by decide +kernel
theorem Fw:(gZ tL 0).k.ac=4:=by decide +kernel
theorem Qy:(gZ tL 0).k.ord.length≤64:=by decide +kernel
theorem Fx (w:World):Calls Tryz.prog 12 #[] w fun e w'=>e=.returned (.bool true)∧Same w w':=by
 have hbg:=Jy 2 5 (by decide) (by decide) (by decide) (by decide) w;have HBG:=Lib.hid hbg;clear hbg;go_enter Tryz.func12,Tryz.ntmps12;go_wp2_with (fail)
 refine HBG.out.mono ?_;rintro e w1 ⟨pp,q1,rfl,hP1,hs1⟩;have Au:=Lib.hid hP1;have aX:=Lib.hid hs1;clear hP1 hs1;go_wp2_with (fail)
 refine ai fun w2 hw2=>?_
 have Zt:=ax.new w1 60 #[.int .i64 1,.int .i64 1,.int .i64 0,.int .i64 1,.int .i64 1,.int .i64 0,.int .i64 0,.int .i64 2,.int .i64 3,.int .i64 2,.int .i64 0,.int .i64 0,.int .i64 4,.int .i64 0,.int .i64 0,.int .i64 0];have hs2:Same w1 w2:=by rw[hw2];exact(ah.refl _ _).alloc _
 rw[← hw2] at Zt;clear hw2
 have hP2:PW (fun b=>b<w.heap.size∨b=w1.heap.size) w2 pp (wG 2 5) q1:=(Au.out.same hs2).MR (fun b hb hn=>by
  rcases hn with hn | hn
  ·exact Au.out.base b hb hn
  ·have:=Au.out.MU b hb
   omega)
 have hW1:=aX.out.size;obtain⟨SB,Zu⟩:∃ z,w1.heap.size=z:=⟨_,rfl⟩;rw[Zu] at Zt hP2 ⊢;have Zv:Same w w2:=aX.out.trans hs2 (fun _ _ h=>h);have hB2:∀ b,(b<w.heap.size∨b=SB)→b<w2.heap.size:=fun b hb=>by
  have:=Zt.lt
  have:=hs2.size
  omega
 have kS:=Lib.hid Zt;have zn:=Lib.hid hP2;have Jk:=Lib.hid Zv;have HB2:=Lib.hid hB2;clear Zt hP2 Zv hB2 hs2 Zu hW1;go_loopw [17] (fun i wr=>∃ k:Nat,k≤4∧i=.int .i64 k∧(∃ q',PW (fun b=>b<w.heap.size∨b=SB) wr pp (NI k) q')∧Up (fun b=>b<w.heap.size∨b=SB) w2 wr) (fun i _=>4-(intOf i).toNat)
 case atStart=>exact⟨0,by omega,rfl,⟨q1,zn.out⟩,ah.refl _ _⟩
 case round =>
  obtain⟨k,hk,rfl,⟨q',kM⟩,hU⟩:=hrel;have UF:=hU.kept kS.out (.inr rfl);have hBr:∀ b,(b<w.heap.size∨b=SB)→b<wr.heap.size:=fun b hb=>Nat.lt_of_lt_of_le (HB2.out b hb) hU.size
  by_cases hlt:k<4
  ·have hI:(k:Int)<4:=by omega
   obtain⟨o,ho⟩:∃ o,JY[k]?=some o:=⟨_,List.getElem?_eq_getElem (by exact hlt)⟩;have hrow:Go.Tk.Own wr 60 4 Vs (some ⟨SB,0,none⟩) JY.length JY.length JY:=Own.yP Hg UF JY (by decide) rfl;obtain⟨b',hb',hbl,hc⟩:=hrow.get Hg ho;injection hb' with hb'
   injection hb' with hb'
   subst hb';have c0:wr.cell? ⟨SB,k*4,none⟩=some (.int .i64 o.1):=hc 0 (by omega);have c1:wr.cell? ⟨SB,k*4+1,none⟩=some (.int .i64 o.2.1):=hc 1 (by omega);have c2:wr.cell? ⟨SB,k*4+2,none⟩=some (.int .i64 o.2.2.1):=hc 2 (by omega);have c3:wr.cell? ⟨SB,k*4+3,none⟩=some (.int .i64 o.2.2.2):=hc 3 (by omega);have HO:=Lib.hid ho;have Cy:=Lib.hid kM;have HU:=Lib.hid hU;have bP:=Lib.hid hBr;clear ho kM hU hBr hrow UF hc;go_upto_region 7 with fail
   refine ai fun w3 hw3=>?_
   have hT:=ax.new wr 60 #[.int .i64 o.1,.int .i64 o.2.1,.int .i64 o.2.2.1,.int .i64 o.2.2.2];have hs3:Same wr w3:=by rw[hw3];exact(ah.refl _ _).alloc _
   rw[← hw3] at hT;clear hw3
   have hP3:PW (fun b=>(b<w.heap.size∨b=SB)∨b=wr.heap.size) w3 pp (NI k) q':=(Cy.out.same hs3).MR (fun b hb hn=>by
    rcases hn with hn | hn
    ·exact Cy.out.base b hb hn
    ·have:=Cy.out.MU b hb
     omega)
   have hB3:∀ b,((b<w.heap.size∨b=SB)∨b=wr.heap.size)→b<w3.heap.size:=fun b hb=>by
    have:=hT.lt
    have:=hs3.size
    rcases hb with hb | hb
    ·have:=bP.out b hb
     omega
    ·omega
   have Xp:Up (fun b=>b<w.heap.size∨b=SB) w2 w3:=HU.out.trans (Up.bK hs3);have hcl:=yN hP3 (Qw k) hB3;have uk:=Lib.hid hcl;have HB3:=Lib.hid hB3;have HT:=Lib.hid hT;have xM:=Lib.hid Xp;clear hT hs3 hP3 hB3 Xp hcl c0 c1 c2 c3 hbl Cy HU bP;go_wp2_with (fail)
   refine uk.out.mono ?_;rintro e w4 ⟨rfl,⟨q4,Vl⟩,UG⟩;have xU:=UG.kept HT.out (.inr rfl);have hB4:∀ b,((b<w.heap.size∨b=SB)∨b=wr.heap.size)→b<w4.heap.size:=fun b hb=>Nat.lt_of_lt_of_le (HB3.out b hb) UG.size
   have hst:=NJ k o HO.out Vl hB4;have HST:=Lib.hid hst;have Zw:Up (fun b=>b<w.heap.size∨b=SB) w2 w4:=xM.out.trans (ah.mono UG (fun b _ hn hb=>hn (.inl hb)));have HU4:=Lib.hid Zw;have t0:=xU.cell 0;have t1:=xU.cell 1;have t2:=xU.cell 2;have t3:=xU.cell 3;have tl:=xU.lt;simp at t0 t1 t2 t3;clear Vl UG xU hB4 hst Zw;go_wp2_with (fail)
   refine HST.out.mono ?_;rintro e w5 ⟨rfl,⟨q5,Kj⟩,Vt⟩;have TV:=Lib.hid (Kj.MR (B':=fun b=>b<w.heap.size∨b=SB) (fun b hb hn=>Kj.base b hb (.inl hn)));have Oe:=Lib.hid (show Up (fun b=>b<w.heap.size∨b=SB) w2 w5 from HU4.out.trans (ah.mono Vt (fun b _ hn hb=>hn (.inl hb))));clear Kj Vt t0 t1 t2 t3 tl;go_wp2;go_roundw
   case rel=>exact⟨k+1,by omega,by go_num,⟨q5,TV.out⟩,Oe.out⟩
   case measure=>simp[intOf] <;> omega
  ·obtain rfl:k=4:=by omega
   have Kj:PW (fun b=>b<w.heap.size∨b=SB) wr pp (gZ tL 0) q':=kM;have hlk:=JU Kj hBr NK (Uh NK) wX.ord wX.hd wX.hr wX.hrg wX.htl Qy (by rw[Fw] <;> decide) (EY JZ);have D8:=Lib.hid hlk;have c2:=Kj.c2;rw[Qx] at c2;have hpl:=Kj.blk.lt;have HU:=Lib.hid hU;clear kM Kj hlk hBr UF hU;go_wp2_with (fail)
   refine D8.out.mono ?_;rintro e w6 ⟨rfl,⟨q6,Zx⟩,hU6⟩;clear c2 hpl;have hlv:Calls Tryz.prog 18 #[.pointer (some ⟨q6.kp,0,none⟩)] w6 fun e w''=>e=.returned (.int .i64 2)∧w6=w'':=by
    have h:=oW Zx.k (by rw[show(fM (gZ tL 0)).k.ac=4 from Fw] <;> decide);rw[show(((fM (gZ tL 0)).k.ac:Nat):Int)-2=2 from by rw[show(fM (gZ tL 0)).k.ac=4 from Fw];rfl] at h;exact h
   have htr:Calls Tryz.prog 35 #[.pointer (some ⟨q6.kp,0,none⟩)] w6 fun e w''=>e=.returned (.int .i64 1)∧w6=w'':=by
    have h:=vR Zx.k;rw[show(fM (gZ tL 0)).k.tr.length=1 from UE] at h;exact h
   have hpl:=Zx.blk.lt;have c0:=Zx.c0;have zw:=Lib.hid hlv;have Dv:=Lib.hid htr;have hfin:Same w w6:=by
    have h1:=HU.out.trans hU6;exact Jk.out.trans (ah.mono h1 (fun b _ h=>h)) (fun b hb hn=>hn (.inl hb))
   have aF:=Lib.hid hfin;clear hlv htr Zx hU6 hfin;go_wp2_with (fail)
   refine zw.out.mono ?_;rintro e w7 ⟨rfl,rfl⟩;go_wp2_with (fail)
   refine Dv.out.mono ?_;rintro e w7 ⟨rfl,rfl⟩;go_wp2;go_ret;exact⟨rfl,aF.out⟩
end
theorem Hl (x:RS) (o:Int×Int×Int×Int):(dF x o).1.k.n=x.k.n∧(dF x o).1.k.c=x.k.c:=by
 unfold dF;split
 ·unfold gV;split
  ·split
   ·exact mZ _ _
   ·exact mZ _ _
  ·exact⟨rfl,rfl⟩
 ·split
  ·unfold fF;split
   ·split
    ·exact iO _ _
    ·exact iO _ _
   ·exact⟨rfl,rfl⟩
  ·split
   ·unfold eB;split
    ·exact jP _ _
    ·exact⟨rfl,rfl⟩
   ·split
    ·exact wJ _ _
    ·split
     ·exact wK _
     ·exact⟨rfl,rfl⟩
section
variable {w w':World}
theorem wY (n c:Int) (A:Option Addr) (len cap:Nat) (ops:List (Int×Int×Int×Int)) (w:World) (hs:Sl w 4 Vs A len ops) (hb:len≤10000000000000) :
  Calls Tryz.prog 9 #[.int .i64 n,.int .i64 c,.slice A len cap] w fun e w'=>e=.returned (.bool true)∧Same w w':=by
 obtain rfl:=hs.len;have HA:=Lib.hid hs;clear hs;go_enter Tryz.func9,Tryz.ntmps9;go_wp2_with (fail)
 refine(Fx _).mono ?_;rintro e w1 ⟨rfl,hs1⟩;have HS:=Lib.hid hs1;replace HA:=Lib.hid (HA.out.same hs1);clear hs1;by_cases h1:n<1
 ·go_wp2;go_ret;exact⟨rfl,HS.out⟩
 by_cases h2:n>64
 ·go_wp2;go_ret;exact⟨rfl,HS.out⟩
 by_cases h3:c<2
 ·go_wp2;go_ret;exact⟨rfl,HS.out⟩
 by_cases h4:c>65536
 ·go_wp2;go_ret;exact⟨rfl,HS.out⟩
 obtain⟨N,rfl⟩:=Int.eq_ofNat_of_zero_le (show 0≤n by omega);obtain⟨M,rfl⟩:=Int.eq_ofNat_of_zero_le (show 0≤c by omega);have hfo:=Dc N M w1 (by omega) (by omega) (by omega) (by omega);have HFO:=Lib.hid hfo;clear hfo;go_wp2_with (fail)
 refine HFO.out.mono ?_;rintro e w2 ⟨xb,q,rfl,hX,hs2⟩;have hfy:=Dc N 65536 w2 (by omega) (by omega) (by omega) (by omega);have HFY:=Lib.hid hfy;have HX:=Lib.hid hX;have HS2:=Lib.hid hs2;clear hX hs2 hfy;go_wp2_with (fail)
 refine HFY.out.mono ?_;rintro e w3 ⟨yb,p,rfl,hY,hs3⟩;have Aw:=Lib.hid (Dh.of HX.out hY hs3 (fun b hb=>Nat.lt_of_lt_of_le hb HS2.out.size) (fun _ hb=>hb));have HU:=Lib.hid (Up.bK (HS2.out.trans hs3 (fun _ _ h=>h)):Up (fun b=>b<w1.heap.size) w1 w3);have hM2:2≤M:=by omega
 have jo:M≤65536:=by omega
 clear hY hs3 HX HS2 HFO HFY;go_wp2_with (fail)
 go_loopw [53] (fun s wr=>∃ (i:Nat) (x:RS) (q:RA) (y:RS) (p:RA),i≤ops.length∧s=.int .i64 i∧XI i x∧XI i y∧Rm x y∧x.k.n=N∧x.k.c=M∧y.k.c=65536∧Dh (fun b=>b<w1.heap.size) wr xb x q yb y p∧Up (fun b=>b<w1.heap.size) w1 wr) (fun s _=>ops.length-(intOf s).toNat)
 case atStart=>exact⟨0,_,q,_,p,by omega,rfl,Nr N M,Nr N 65536,Ut N M 65536,rfl,rfl,rfl,Aw.out,HU.out⟩
 case round =>
  as_aux_lemma =>
  clear Aw HU;obtain⟨i,x,q,y,p,hi,rfl,hI,hY,hR,hN,hc,hd,hT,hU⟩:=hrel;have HI:=Lib.hid hI;have Fy:=Lib.hid hY;have HR:=Lib.hid hR;have HN:=Lib.hid hN;have HC:=Lib.hid hc;have HD:=Lib.hid hd;have Aw:=Lib.hid hT;have HU:=Lib.hid hU;have xg:Same w1 wr:=ah.mono hU (fun b hb hn=>hn hb);clear hI hY hR hT hU hN hc hd;by_cases hlt:i<ops.length
  ·have hJ:(i:Int)<(ops.length:Int):=by omega
   obtain⟨⟨kd,va,b,c⟩,ho⟩:∃ o,ops[i]?=some o:=⟨_,List.getElem?_eq_getElem hlt⟩;obtain⟨ab,off,hA,hbl,hc⟩:=(HA.out.same xg).get i _ ho;have d0:wr.cell? ⟨ab,off+i*4,none⟩=some (.int .i64 kd):=hc 0 (by show 0<4;omega);have d1:wr.cell? ⟨ab,off+i*4+1,none⟩=some (.int .i64 va):=hc 1 (by show 1<4;omega);have d2:wr.cell? ⟨ab,off+i*4+2,none⟩=some (.int .i64 b):=hc 2 (by show 2<4;omega);have d3:wr.cell? ⟨ab,off+i*4+3,none⟩=some (.int .i64 c):=hc 3 (by show 3<4;omega);clear ho hc;subst hA;go_upto_region 12 with fail
   refine ai fun w3 hw3=>?_
   have hT:=ax.new wr 60 #[.int .i64 kd,.int .i64 va,.int .i64 b,.int .i64 c];have hs3:Same wr w3:=by rw[hw3];exact(ah.refl _ _).alloc _
   rw[← hw3] at hT;clear hw3;obtain⟨T,hTe⟩:∃ z,wr.heap.size=z:=⟨_,rfl⟩;have hT0:w1.heap.size≤T:=by rw[← hTe];exact HU.out.size
   rw[hTe] at hT ⊢;have HT:=Lib.hid hT;have NL:=Lib.hid (Aw.out.turned hs3 (fun _ h=>h.elim) (C:=fun b=>b<w1.heap.size∨b=T) (fun b hb=>hb.elim .inl (fun h=>.inr (by rw[h,hTe];exact Nat.le_refl _))));have xM:=Lib.hid (HU.out.trans (Up.bK hs3));have t0:=HT.out.cell 0;have t1:=HT.out.cell 1;have t2:=HT.out.cell 2;have t3:=HT.out.cell 3;have tl:=HT.out.lt;simp at t0 t1 t2 t3;clear hT hs3 xg d0 d1 d2 d3 hbl hTe;by_cases h4:kd=4
   ·subst h4;go_wp2;go_roundw
    case rel=>exact⟨i+1,x,q,y,p,by omega,by go_num,HI.out.more,Fy.out.more,HR.out,HN.out,HC.out,HD.out,NL.out.turned (ah.refl (fun _=>False) _) (fun _ h=>h.elim) (fun _ hb=>.inl (.inl hb)),xM.out⟩
    case measure=>simp[intOf] <;> omega
   by_cases h5:kd=5
   ·subst h5;go_wp2;go_roundw
    case rel=>exact⟨i+1,x,q,y,p,by omega,by go_num,HI.out.more,Fy.out.more,HR.out,HN.out,HC.out,HD.out,NL.out.turned (ah.refl (fun _=>False) _) (fun _ h=>h.elim) (fun _ hb=>.inl (.inl hb)),xM.out⟩
    case measure=>simp[intOf] <;> omega
   have f4:(kd == 4)=false:=by simpa using h4
   have f5:(kd == 5)=false:=by simpa using h5
   have hyl:=NL.out.ry.blk.lt;have y1:=NL.out.ry.c1;go_upto_region 14 with fail
   obtain⟨DX,x1,x2,x3,x4⟩:=NL.out.left;have hDX:∀ b,DX b→b<w3.heap.size:=fun b hb=>(x2 b hb).elim (fun h=>h.elim (fun h=>Nat.lt_of_lt_of_le h xM.out.size) (fun h=>by rw[h];exact tl)) id
   have He:=Lib.hid (fun w' (hw:Same w3 w')=>De (x3.same hw) (fun b hb=>Nat.lt_of_lt_of_le (hDX b hb) hw.size) HI.out (by omega) (kd,va,b,c));have FZ:=Lib.hid x4;have kK:=Lib.hid x1;have n2:¬ (fun b=>¬ (b<w1.heap.size∨b=T)) T:=fun h=>h (.inr rfl)
   clear x1 x2 x3 x4 hDX hyl y1;refine aJ (fun b=>¬ (b<w1.heap.size∨b=T)) [([0,1,3,4],2),([],5),([],6),([],7)] (by kernel_rfl) (by kernel_rfl) ?_;simp only[cK,pick,List.map_cons,List.map_nil,List.getD_cons_zero,List.getD_cons_succ];have hsd:Same w3 w3.drew:=(ah.refl _ _).drew;repeat (any_goals (first | go_big_quiet_step (fail) | quiet_step (fail)))
   refine wpQuiet_nil ?_;refine aa rfl fun K hK=>?_
   go_simp;refine(He.out _ hsd).mono ?_;rintro e w4 ⟨rfl,⟨q',vw⟩,UG⟩;have hu4:Up DX w3 w4:=(Up.bK hsd).trans UG;have hl4:ah (fun b=>¬ (b<w1.heap.size∨b=T)) w3 w4:=ah.mono hu4 (fun b _ hn hb=>hn (kK.out b hb));refine hK _ _ (aZ.bu hl4) ?_;clear hK K;have xU:=FZ.out w4 _ q' vw hu4;obtain⟨DY,y1,y2,y3,y4⟩:=xU.swap.left;have HY4:=Lib.hid y4;have HY1:=Lib.hid y1;have Kh:=Lib.hid hl4;have Zy:=Nat.lt_of_lt_of_le tl hl4.size;have Vu:∀ b,DY b→b<w4.heap.size:=fun b hb=>(y2 b hb).elim (fun h=>h.elim (fun h=>Nat.lt_of_lt_of_le h (Nat.le_trans xM.out.size hl4.size)) (fun h=>by rw[h];exact Zy)) id
   have Fa:=Lib.hid (De y3 Vu Fy.out (by omega) (kd,va,b,c));clear vw UG hu4 xU y1 y2 y3 y4 Vu hl4;repeat (any_goals (first | go_big_quiet_step (fail) | quiet_step (fail)))
   refine wpQuiet_nil ?_;refine aa rfl fun K hK=>?_
   go_simp;refine Fa.out.mono ?_;rintro e w5 ⟨rfl,⟨p',hY5⟩,Vt⟩;have hl5:ah (fun b=>¬ (b<w1.heap.size∨b=T)) w4 w5:=ah.mono Vt (fun b _ hn hb=>hn (HY1.out b hb));have NN:=Kh.out.trans hl5 (fun _ _ h=>h);refine hK _ _ (aZ.bu NN) ?_;clear hK K;repeat (any_goals (first | go_big_quiet_step (fail) | quiet_step (fail)))
   refine wpQuiet_nil ?_;refine aa rfl fun K hK=>?_
   go_simp;refine hK _ _ (aZ.bu NN) ?_;clear hK K;repeat (any_goals (first | go_big_quiet_step (fail) | quiet_step (fail)))
   refine wpQuiet_nil ?_;have P5:=Lib.hid (HY4.out w5 _ p' hY5 Vt).swap;have Oe:=Lib.hid (xM.out.trans (ah.mono NN (fun b _ hn hb=>hn (.inl hb))):Up (fun b=>b<w1.heap.size) w1 w5);have HTl:=Lib.hid (Nat.lt_of_lt_of_le tl NN.size);have HXS:=Lib.hid (G7 Aw.out.rx.k.ki HI.out (kd,va,b,c));have HYS:=Lib.hid (G7 Aw.out.ry.k.ki Fy.out (kd,va,b,c));have hsx:=Hl x (kd,va,b,c);have hsy:=Hl y (kd,va,b,c);have Qq:=HC.out;have NP:=HD.out;rw[← hsx.2] at Qq;rw[← hsy.2] at NP;have Rw:=HN.out;rw[← hsx.1] at Rw;have HXN:=Lib.hid Rw;have HXC:=Lib.hid Qq;have HYC:=Lib.hid NP;have kS:=Lib.hid (JM HR.out Aw.out.rx.k.ki Aw.out.ry.k.ki HI.out Fy.out (by rw[HD.out] <;> decide) (kd,va,b,c) h4 h5);clear hY5 Vt hl5 NN hsd hsx hsy Qq NP Rw t0 t1 t2 t3 Zy tl n2 HY4 HY1 He FZ kK Kh Fa;obtain⟨X1,E,hX1⟩:∃ X1 E,dF x (kd,va,b,c)=(X1,E):=⟨_,_,rfl⟩;obtain⟨Y1,F,Vv⟩:∃ Y1 F,dF y (kd,va,b,c)=(Y1,F):=⟨_,_,rfl⟩;have hsb:=kS.out;have Oh:=P5.out;have hxs:=HXS.out;have hys:=HYS.out;have Qq:=HXC.out;have NP:=HYC.out;have Rw:=HXN.out;rw[hX1] at Oh hxs Qq Rw ⊢;rw[Vv] at Oh hys NP ⊢;simp only at Oh hxs hys Qq NP Rw ⊢;have Dx:=Lib.hid Oh;have HXA:=Lib.hid hxs;have HYA:=Lib.hid hys;have UH:=Lib.hid Qq;have Qz:=Lib.hid NP;have UI:=Lib.hid Rw;have hyl:=Oh.ry.blk.lt;have y0:=Oh.ry.c0;have y1:=Oh.ry.c1;have hxl:=Oh.rx.blk.lt;have x0:=Oh.rx.c0;clear Oh hxs hys Qq NP Rw P5 HXS HYS HXC HYC HXN kS;rcases hsb with⟨e1,e2,e3,e4⟩ | ⟨e1,e2,e3,e4,e5⟩ | ⟨k,r,e1,e2,e3,e4,e5,e6,e7,e8,e9⟩
   ·rw[hX1,Vv] at e1 e4;rw[Vv] at e2 e3;simp only at e1 e2 e3 e4;subst e1;have f9:(E == 9)=false:=by simpa using e2
    have fee:(E != E)=false:=by simp
    have Iw:=Lib.hid e4;by_cases hlen:Y1.refs.length=y.refs.length
    ·have fl:((Y1.refs.length:Int) == (y.refs.length:Int))=true:=by simp[hlen]
     rw[hlen] at y1;clear hlen e2 e3 e4;go_wp2;go_roundw
     case rel=>exact⟨i+1,X1,q',Y1,p',by omega,by go_num,HXA.out,HYA.out,Iw.out,UI.out,UH.out,Qz.out,Dx.out.turned (ah.refl (fun _=>False) _) (fun _ h=>h.elim) (fun _ hb=>.inl (.inl hb)),Oe.out⟩
     case measure=>simp[intOf] <;> omega
    ·have e0:=e3.resolve_left hlen;have fl:((Y1.refs.length:Int) == (y.refs.length:Int))=false:=by
      have:(Y1.refs.length:Int)≠(y.refs.length:Int):=by omega
      simpa using this
     have f0:(E != 0)=true:=by simpa using e0
     clear hlen e2 e3 e4 e0;go_wp2;go_roundw
     case rel=>exact⟨i+1,X1,q',Y1,p',by omega,by go_num,HXA.out,HYA.out,Iw.out,UI.out,UH.out,Qz.out,Dx.out.turned (ah.refl (fun _=>False) _) (fun _ h=>h.elim) (fun _ hb=>.inl (.inl hb)),Oe.out⟩
     case measure=>simp[intOf] <;> omega
   ·rw[hX1] at e1;rw[Vv] at e2 e3 e5;rw[hX1,Vv] at e4;simp only at e1 e2 e3 e4 e5;subst e1 e2;have Iw:=Lib.hid e4;have hac:=(e4.live Dx.out.rx.k.ki Dx.out.ry.k.ki HXA.out HYA.out).2;obtain⟨lv,hlv⟩:∃ z,(Y1.k.ac:Int)-2=z:=⟨_,rfl⟩;have hl1:lv≤2000000:=by have:=Dx.out.ry.k.ki.acl;omega
    have hl2:-2≤lv:=by omega
    have hfit:2+lv≤(M:Int):=by have:=HC.out;omega
    have fl:(((y.refs.length:Int)+1) == (y.refs.length:Int))=false:=by
     have:((y.refs.length:Int)+1)≠(y.refs.length:Int):=by omega
     simpa using this
    have fll:(lv != lv)=false:=by simp
    have hrl:y.refs.length≤60:=Fy.out.rl;have hlx:=fun w' (hw:Same w5 w')=>nR (Dx.out.rx.same hw).k
    have Iy:=fun w' (hw:Same w5 w')=>nR (Dx.out.ry.same hw).k
    rw[← hac,hlv] at hlx;rw[hlv] at Iy;have SI:=Lib.hid hlx;have Q5:=Lib.hid Iy;rw[e3] at y1;clear hlx Iy hac hlv e3 e4 e5;go_wp2_with (fail)
    refine(Q5.out _ (ah.refl _ _)).mono ?_;rintro e wz ⟨rfl,rfl⟩;go_upto_region 28 with fail
    refine aJ (fun _=>False) [([0,1,2,3,5,6,7,8],4),([],9),([],10)] (by kernel_rfl) (by kernel_rfl) ?_;simp only[cK,pick,List.map_cons,List.map_nil,List.getD_cons_zero,List.getD_cons_succ];have hsd:Same w5 w5.drew:=(ah.refl _ _).drew;repeat (any_goals (first | go_big_quiet_step (fail) | quiet_step (fail)))
    refine wpQuiet_nil ?_;refine aa rfl fun K hK=>?_
    go_simp;refine(SI.out _ hsd).mono ?_;rintro e wz ⟨rfl,rfl⟩;refine hK _ _ (aZ.bu hsd) ?_;clear hK K;repeat (any_goals (first | go_big_quiet_step (fail) | quiet_step (fail)))
    refine wpQuiet_nil ?_;refine aa rfl fun K hK=>?_
    go_simp;refine(Q5.out _ hsd).mono ?_;rintro e wz ⟨rfl,rfl⟩;refine hK _ _ (aZ.bu hsd) ?_;clear hK K;repeat (any_goals (first | go_big_quiet_step (fail) | quiet_step (fail)))
    refine wpQuiet_nil ?_;have Dn:=Lib.hid hsd;clear hsd;go_wp2;go_roundw
    case rel=>exact⟨i+1,X1,q',Y1,p',by omega,by go_num,HXA.out,HYA.out,Iw.out,UI.out,UH.out,Qz.out,Dx.out.turned (Dn.out) (fun _ h=>h.elim) (fun _ hb=>.inl (.inl hb)),Oe.out.trans (Up.bK Dn.out)⟩
    case measure=>simp[intOf] <;> omega
   ·rw[hX1] at e1 e2;rw[Vv] at e3;simp only at e1 e2 e3;injection e3 with e3 e3'
    subst e1 e2 e3 e3';have Iw:=Lib.hid e8;have Zz:=Lib.hid e9;obtain⟨lv,hlv⟩:∃ z,(k.ac:Int)-2=z:=⟨_,rfl⟩;have QA:=fun w' (hw:Same w5 w')=>nR (Dx.out.ry.same hw).k
    simp only at QA;rw[hlv] at QA;have hl1:lv≤2000000:=by have:=Dx.out.ry.k.ki.acl;simp only at this;omega
    have hl2:-2≤lv:=by omega
    have hfit:¬ 2+lv≤(M:Int):=by have:=HC.out;omega
    have fl:(((y.refs.length:Int)+1) == (y.refs.length:Int))=false:=by
     have:((y.refs.length:Int)+1)≠(y.refs.length:Int):=by omega
     simpa using this
    have hrl:y.refs.length≤60:=Fy.out.rl;have abT:=Lib.hid QA;simp only[List.length_append,List.length_singleton] at y1;have e7':=e7;have hr0:(0:Int)≤r:=by omega
    clear QA hlv e8 e9;go_wp2_with (fail)
    refine(abT.out _ (ah.refl _ _)).mono ?_;rintro e wz ⟨rfl,rfl⟩;have hyw:=Dx.out.ry;obtain⟨rb,hA2,rl,d0⟩:=hyw.refs.dQ (c:=rc) (i:=y.refs.length) (x:=r) (by simp);rw[hA2] at y1;unfold rc at d0;have UL:(y.refs.length:Int)<(y.refs.length:Int)+1:=by omega
    obtain⟨DY,z1,z2,z3,z4⟩:=Dx.out.swap.left
    have Vu:∀ b,DY b→b<w5.heap.size:=fun b hb=>(z2 b hb).elim (fun h=>h.elim (fun h=>Nat.lt_of_lt_of_le h Oe.out.size) (fun h=>by
     rw[h]
     exact HTl.out)) id
    have hdr:=fun w' (hw:Same w5 w')=>GI (z3.same hw).k (fun b hb=>Nat.lt_of_lt_of_le (z3.all Vu b hb) hw.size) r hr0 e6
    simp only at hdr;rw[e7] at hdr;have HDR:=Lib.hid hdr;have HZ1:=Lib.hid z1;have HZ3:=Lib.hid z3;have HZ4:=Lib.hid z4;have HDY:=Lib.hid Vu;have m1:¬ gW DY yb p' yb:=fun h=>h (.inr (.inl rfl))
    have m2:¬ gW DY yb p' rb:=fun h=>h (.inr (.inr (.inl ⟨_,hA2,rfl⟩)))
    clear hyw z1 z2 z3 z4 hdr Vu hA2;go_upto_region 25 with fail
    refine aJ (gW DY yb p') [([0,1,2,3,4,5,6,7,8,9,10],11),([12,13,14,15,16,17,18,19,20,21],22)] (by kernel_rfl) (by kernel_rfl) ?_;rw[aN];simp only[pick,List.map_cons,List.map_nil,List.getD_cons_zero,List.getD_cons_succ];have hsd:Same w5 w5.drew:=(ah.refl _ _).drew;repeat (any_goals (first | go_big_quiet_step (fail) | quiet_step (fail)))
    refine wpQuiet_nil ?_;refine aa rfl fun K hK=>?_
    go_simp;refine(HDR.out _ hsd).mono ?_;rintro e w6 ⟨rfl,Dp,U3⟩;refine hK _ _ (aZ.bu ((hsd.mono (fun _ _ h=>h.elim)).trans U3 (fun _ _ h=>h))) ?_;clear hK K;rw[aT];simp only[pick,List.map_cons,List.map_nil,List.getD_cons_zero,List.getD_cons_succ];repeat go_big_quiet_step (fail)
    rw[aA];have uY:=(HZ3.out.same hsd).kernel Dp U3;have zk:=Lib.hid uY.1;have HU6:=Lib.hid ((Up.bK hsd:Up DY w5 w5.drew).trans uY.2);clear uY Dp U3 hsd m1 m2 hyl y0 y1 d0 rl;have hyl:=zk.out.blk.lt;have y1:=zk.out.c1;have y2:=zk.out.c2;have yf1:=zk.out.blk.free 1;have yf2:=zk.out.blk.free 2;simp only[List.length_append,List.length_singleton] at y1 y2;rw[Fy.out.hl] at y2;have hcr:=zk.out.refs.cap;have hch:=zk.out.held.cap;simp only[List.length_append,List.length_singleton] at hcr hch;rw[Fy.out.hl] at hch;have abU:y.refs.length≤p'.rC:=by omega
    have hch':y.refs.length≤p'.hC:=by omega
    go_upto_region 27 with fail
    go_region
    have hpo:=zk.out.popped Fy.out.hl (fun b hb=>Nat.lt_of_lt_of_le (HDY.out b hb) HU6.out.size);obtain⟨w7,hw7⟩:∃ z,((w6.setCell ⟨yb,1,none⟩ (.slice p'.rA y.refs.length p'.rC)).setCell ⟨yb,2,none⟩ (.slice p'.hA y.refs.length p'.hC))=z:=⟨_,rfl⟩;rw[hw7] at hpo;simp only[hw7];have HT7:=Lib.hid (HZ4.out w7 _ p' hpo.1 (HU6.out.trans hpo.2)).swap;have HUW:Hid (Up (fun b=>b<w1.heap.size) w1 w7):=Lib.hid (Oe.out.trans (ah.mono (HU6.out.trans hpo.2) (fun b _ hn hb=>hn (HZ1.out b (.inl hb)))));clear hpo hw7 y1 y2 yf1 yf2 hyl hcr hch abU hch' x0 hxl HU6 zk;have F5:Same w7 w7.drew:=(ah.refl _ _).drew;have Dy:=Lib.hid (HT7.out.turned F5 (fun _ h=>h.elim) (C:=fun b=>b<w1.heap.size∨b=T) (fun _ hb=>.inl hb));have HUX:=Lib.hid (HUW.out.trans (Up.bK F5));generalize w7.drew=w8 at Dy HUX ⊢;clear F5 HT7 HUW;have hxl:=Dy.out.rx.blk.lt;have x0:=Dy.out.rx.c0;have hyl:=Dy.out.ry.blk.lt;have y0:=Dy.out.ry.c0;have hac:=(Iw.out.live Dy.out.rx.k.ki Dy.out.ry.k.ki HI.out Zz.out).2;obtain⟨lw,Su⟩:∃ z,(X1.k.ac:Int)-2=z:=⟨_,rfl⟩;have fll:(lw != lw)=false:=by simp
    have hlx:=fun w' (hw:Same w8 w')=>nR (Dy.out.rx.same hw).k
    have Iy:=fun w' (hw:Same w8 w')=>nR (Dy.out.ry.same hw).k
    rw[Su] at hlx;rw[hac,Su] at Iy;have SI:=Lib.hid hlx;have Q5:=Lib.hid Iy;clear hlx Iy hac Su;have NP:=(jP k r).2;have HYD:=Lib.hid (NP.trans Qz.out);clear NP;go_upto_region 28 with fail
    refine aJ (fun _=>False) [([0,1,2,3,5,6,7,8],4),([],9),([],10)] (by kernel_rfl) (by kernel_rfl) ?_;simp only[cK,pick,List.map_cons,List.map_nil,List.getD_cons_zero,List.getD_cons_succ];have hsd:Same w8 w8.drew:=(ah.refl _ _).drew;repeat (any_goals (first | go_big_quiet_step (fail) | quiet_step (fail)))
    refine wpQuiet_nil ?_;refine aa rfl fun K hK=>?_
    go_simp;refine(SI.out _ hsd).mono ?_;rintro e wz ⟨rfl,rfl⟩;refine hK _ _ (aZ.bu hsd) ?_;clear hK K;repeat (any_goals (first | go_big_quiet_step (fail) | quiet_step (fail)))
    refine wpQuiet_nil ?_;refine aa rfl fun K hK=>?_
    go_simp;refine(Q5.out _ hsd).mono ?_;rintro e wz ⟨rfl,rfl⟩;refine hK _ _ (aZ.bu hsd) ?_;clear hK K;repeat (any_goals (first | go_big_quiet_step (fail) | quiet_step (fail)))
    refine wpQuiet_nil ?_;have Dn:=Lib.hid hsd;clear hsd;go_wp2;go_roundw
    case rel=>exact⟨i+1,X1,q',⟨(aD k r).2,y.refs,y.held⟩,p',by omega,by go_num,HI.out.more,Zz.out.more,Iw.out,HN.out,HC.out,HYD.out,Dy.out.turned Dn.out (fun _ h=>h.elim) (fun _ hb=>.inl (.inl hb)),HUX.out.trans (Up.bK Dn.out)⟩
    case measure=>simp[intOf] <;> omega
  ·obtain rfl:i=ops.length:=by omega
   have hJ:¬ ((ops.length:Nat):Int)<(ops.length:Int):=by omega
   have hcb:∀ {z:RS},XI ops.length z→∀ c∈z.held,0≤c∧c≤1000000000000000:=fun h c hc=>by have:=h.cb c hc;omega
   have He:=Lib.hid (wT Aw.out.rx HI.out.hl HI.out.rg (hcb HI.out) (by have:=HI.out.rl;omega) HI.out.hh);have Fa:=Lib.hid (fun w' (hw:Same wr w')=>wT (Aw.out.ry.same hw) Fy.out.hl Fy.out.rg (hcb Fy.out) (by have:=Fy.out.rl;omega) Fy.out.hh);have aF:=Lib.hid (HS.out.trans xg (fun _ _ h=>h));clear xg hcb;go_wp2_with (fail)
   refine He.out.mono ?_;rintro e w5 ⟨rfl,hs5⟩;have pY:=Lib.hid hs5;clear hs5;go_wp2_with (fail)
   refine(Fa.out _ pY.out).mono ?_;rintro e w6 ⟨rfl,hs6⟩;have vz:=Lib.hid (aF.out.trans (pY.out.trans hs6 (fun _ _ h=>h)) (fun _ _ h=>h));clear hs6;go_wp2;go_ret;exact⟨rfl,vz.out⟩
end
abbrev NQ:List jR:=[.int .i64,.int .i64,.int .i64,.int .i64]
theorem UJ {w:World} (l:List Value) (h:jb w NQ l):∃ o:Int×Int×Int×Int,l=Vs o:=by
 simp only[jb,iR] at h;obtain⟨v0,l0,rfl,⟨n0,rfl,w0⟩,v1,l1,rfl,⟨n1,rfl,w1⟩,v2,l2,rfl,⟨n2,rfl,w2⟩,v3,l3,rfl,⟨n3,rfl,w3⟩,rfl⟩:=h;exact⟨⟨n0,n1,n2,n3⟩,rfl⟩
theorem UK {w:World} {v:Value} (h:iR w (.slice 32 NQ) v):∃ A n c xs,v=.slice A n c∧n≤c∧c*32≤reachBytes∧Sl w 4 Vs A n xs:=by
 obtain⟨A,n,c,xs,rfl,h1,_,h2,h3⟩:=Km Vs (by decide) UJ h;exact⟨A,n,c,xs,rfl,h1,h2,h3⟩
end Go.Proofs.YtiomgckodmecbaaGreat

