/- Contracts and plain laws, put together in one file. No condition. -/
import Derived.Test.YtiomgckodmecbaaGreatJKernelRoom8

set_option maxRecDepth 100000
set_option maxHeartbeats 32000000
namespace Go.Proofs.YtiomgckodmecbaaGreat
open Go.RowKit Go.Tk
def jq (M:MS) (z:List Nat):MS×Int:=if 65535≤iq M.held z then (M,8) else if Cq M [z] then ({ (mU M z).1 with tr:=[] },0) else (M,9)
def oI (M:MS) (z:List Nat):MS×Int:=if (Cu M z).2=0 then ({ (Cu M z).1 with tr:=[] },0) else Cu M z
section
variable {w w':World} {mp:Nat} {M:MS} {a:MA} {n:Nat} {t:Tb}
theorem MJ (M:MS) (z:List Nat):(mU M z).1.n=M.n:=by unfold mU;split <;> rfl
theorem MW.zW (h:MW w mp M a):MW (w.setCell ⟨mp,4,none⟩ (.slice none 0 0)) mp { M with tr:=[] } { a with tA:=none,tC:=0 }∧iW mp w a (w.setCell ⟨mp,4,none⟩ (.slice none 0 0)) { a with tA:=none,tC:=0 }:=by
 refine h.ym (r:=[]) ((ah.refl _ _).set 4 _ (.inl rfl)) ?_ (Own.nil _ _ _ _) (fun b hb=>?_) (by simp)
 ·have:=h.blk.set 4 (.slice none 0 0)
  simpa [ku] using this
 ·obtain⟨x,hx,_⟩:=hb;cases hx
theorem EO (hM:MW w mp M a) (ho:eY M) (ht:TW w M.n t) (hc:rU M) (hl:M.held.length<1500000) :
  Calls Tryz.prog 125 #[.pointer (some ⟨mp,0,none⟩),t.val] w fun e w'=>e=.returned (.int .i64 (jq M t.ws).2)∧∃ a',MW w' mp (jq M t.ws).1 a'∧iW mp w a w' a':=by
 have HM:=Lib.hid hM;have HO:=Lib.hid ho;have HT:=Lib.hid ht;have HC:=Lib.hid hc;have hho:=fun w' (hs:Same w w')=>yK (hM.same hs) (ht.same hs)
 have uQ:=fun w' (hs:Same w w')=>Jm (hM.same hs) (ht.same hs) hc hl
 unfold Tb.val at hho uQ ⊢;obtain⟨hv,hhv⟩:∃ z,iq M.held t.ws=z:=⟨_,rfl⟩;obtain⟨fb,wZ⟩:∃ z,Cq M [t.ws]=z:=⟨_,rfl⟩;have hhn:=MJ M t.ws;obtain⟨H1,hH1⟩:∃ z,mU M t.ws=z:=⟨_,rfl⟩;rw[hhv] at hho;rw[hH1] at uQ;have hfi:=fun (A:Option Addr) (C:Nat) w' (hs:Same w w') (hL:TL w' M.n A [t])=>MF (C:=C) (hM.same hs) ho hL (by simp)
 simp only[List.map_cons,List.map_nil,wZ,List.length_cons,List.length_nil,Nat.zero_add] at hfi;have Yy:=Lib.hid hho;have HH1:=Lib.hid uQ;have HFI:=Lib.hid hfi;obtain⟨R,hR⟩:∃ z,jq M t.ws=z:=⟨_,rfl⟩;rw[hR];unfold jq at hR;rw[hhv,wZ,hH1] at hR;have HR:=Lib.hid hR;have U2:w.heap.size≠mp:=by have:=hM.blk.lt;omega
 clear hM ho ht hc hl hho uQ hfi hhv wZ hH1 hR hhn;go_enter Tryz.func125,Tryz.ntmps125;go_wp2_with (fail)
 refine(Yy.out _ ((ah.refl _ _).alloc _)).mono ?_;rintro e w1 ⟨rfl,hs1⟩;have hX:=(ax.new w 108 #[.int .i64 t.N,.slice t.A t.ws.length t.C]).ag hs1 id;have hs1:Same w w1:=((ah.refl _ _).alloc _).trans hs1 (fun _ _ h=>h);have x0:=hX.cell 0;have x1:=hX.cell 1;have hxl:=hX.lt;simp at x0 x1;have HX:=Lib.hid hX;have aX:=Lib.hid hs1;clear hX hs1;by_cases h1:hv≥65535
 ·have hR:=HR.out;rw[if_pos h1] at hR;subst hR;go_wp2;go_ret;exact⟨rfl,a,HM.out.same aX.out,iW.same aX.out⟩
 ·have hR:=HR.out;rw[if_neg h1] at hR;replace HR:=Lib.hid hR;clear hR;go_upto_region 3 with fail
  refine aV 2 ?_;simp only[List.take_succ_cons,List.take_zero,List.drop_succ_cons,List.drop_zero];repeat (any_goals (first | go_big_quiet_step (fail) | quiet_step (fail)))
  refine wpQuiet_nil ?_;refine wpList_plain rfl fun K hK=>?_
  go_simp;refine hK _ _ ?_;clear hK K;refine aQ fun wa dR=>?_
  have hM:=ax.new w1 108 #[.int .i64 t.N,.slice t.A t.ws.length t.C];have hsa:Same w wa:=by rw[dR];exact aX.out.alloc _
  have MK:Same w1 wa:=by rw[dR];exact(ah.refl _ _).alloc _
  rw[← dR] at hM;clear dR
  have hTL:TL wa M.n (some ⟨w1.heap.size,0,none⟩) [t]:=⟨⟨rfl,fun i x hi=>by
    cases i with
    | zero =>
     simp at hi;subst hi;refine⟨w1.heap.size,0,rfl,hM.lt,fun j hj=>?_⟩
     have:=hM.cell (0+0*2+j)
     rw[this];simp[Tb.cells]
    | succ i=>simp at hi⟩,fun q hq=>by
    simp at hq;subst hq
    exact HT.out.same hsa⟩
  have hX:=HX.out.ag MK id;have x0:=hX.cell 0;have x1:=hX.cell 1;have hxl:=hX.lt;simp at x0 x1;replace HX:=Lib.hid hX;have yJ:=Lib.hid hsa;have Dw:=Lib.hid hTL;clear hX hsa MK hTL hM;refine wpList_plain rfl fun K hK=>?_
  go_simp;refine(HFI.out _ _ _ yJ.out Dw.out).mono ?_;rintro e w2 ⟨rfl,hs2⟩;refine hK _ _ ?_;clear hK K;have hX:=HX.out.ag hs2 id;have x0:=hX.cell 0;have x1:=hX.cell 1;have hxl:=hX.lt;simp at x0 x1;have HS2:=Lib.hid (yJ.out.trans hs2 (fun _ _ h=>h));clear hX hs2;cases fb with
  | false =>
   have hR:=HR.out;rw[if_neg (by decide)] at hR;subst hR;go_wp2;go_ret;exact⟨rfl,a,HM.out.same HS2.out,iW.same HS2.out⟩
  | true =>
   have hR:=HR.out;rw[if_pos rfl] at hR;subst hR;go_wp2_with (fail)
   refine(HH1.out _ HS2.out).mono ?_;rintro e w3 ⟨rfl,a3,jo,hg3⟩;have hml:=jo.blk.lt;have c4:=jo.c4;have f4:=jo.blk.free 4;have MI:=Lib.hid jo;have Bi:=Lib.hid hg3;clear jo hg3 x0 x1 hxl;go_wp2;go_ret;exact⟨rfl,_,MI.out.zW.1,((iW.same HS2.out).trans Bi.out).trans MI.out.zW.2⟩
theorem zX (hM:MW w mp M a) (ht:TW w M.n t) (hc:rU M) :
  Calls Tryz.prog 75 #[.pointer (some ⟨mp,0,none⟩),t.val] w fun e w'=>e=.returned (.int .i64 (oI M t.ws).2)∧∃ a',MW w' mp (oI M t.ws).1 a'∧iW mp w a w' a':=by
 have HM:=Lib.hid hM;have uQ:=fun w' (hs:Same w w')=>zV (hM.same hs) (ht.same hs) hc
 unfold Tb.val at uQ ⊢;obtain⟨H1,hH1⟩:∃ z,Cu M t.ws=z:=⟨_,rfl⟩;rw[hH1] at uQ;have HH1:=Lib.hid uQ;obtain⟨R,hR⟩:∃ z,oI M t.ws=z:=⟨_,rfl⟩;rw[hR];unfold oI at hR;rw[hH1] at hR;have HR:=Lib.hid hR;have U2:w.heap.size≠mp:=by have:=hM.blk.lt;omega
 clear hM ht hc uQ hH1 hR;go_enter Tryz.func75,Tryz.ntmps75;go_wp2_with (fail)
 refine(HH1.out _ ((ah.refl _ _).alloc _)).mono ?_;rintro e w3 ⟨rfl,a3,jo,hg3⟩;have hml:=jo.blk.lt;have c4:=jo.c4;have f4:=jo.blk.free 4;have MI:=Lib.hid jo;have Bi:=Lib.hid ((iW.same ((ah.refl _ _).alloc _)).trans hg3);clear jo hg3;by_cases h0:H1.2=0
 ·have hR:=HR.out;rw[if_pos h0] at hR;subst hR;have hb:(H1.2 == 0)=true:=by simp[h0]
  go_wp2;go_ret;refine⟨?_,_,MI.out.zW.1,Bi.out.trans MI.out.zW.2⟩
  first | rfl | rw[h0]
 ·have hR:=HR.out;rw[if_neg h0] at hR;subst hR;have hb:(H1.2 == 0)=false:=by simp[h0]
  go_wp2;go_ret;exact⟨rfl,a3,MI.out,Bi.out⟩
end
def qC (M:MS) (l:Int):MS×Int:=if l<0∨l>(M.n:Int)-2 then (M,1) else if 2+uM M l.toNat≤M.c then ({ M with ord:=swp M.ord l.toNat,tr:=M.tr++[l] },0) else (M,9)
theorem Yz (M:MS) (l:Nat) (hz:M.held.length≤2000000) (ho:M.ord.length≤16):uM M l≤4300000000000:=by
 unfold uM;have key:∀ (ord:List Int),ord.length≤16→(aM M.n (kC M) ord).flatten.length≤2097152000000:=by
  intro ord hol;have h1:=nP (aM M.n (kC M) ord) 131072000000 (gp M.n (kC M) (by unfold kC;rw[List.length_map];exact hz) ord hol) (aM M.n (kC M) ord).length;rw[List.take_length] at h1;have h2:(aM M.n (kC M) ord).length≤16:=by
   unfold aM;rw[eu];simpa using hol
  rw[List.length_flatten]
  have:=Nat.mul_le_mul_right 131072000000 h2
  omega
 have h1:=key M.ord ho;have h2:=key (swp M.ord l) (by rw[je];exact ho);have h3:=wm ((aM M.n (kC M) M.ord).flatten++(aM M.n (kC M) (swp M.ord l)).flatten);rw[List.length_append] at h3;omega
section
variable {w w':World} {mp:Nat} {M:MS} {a:MA} {n:Nat} {t:Tb}
theorem MW.PU {r:List Int} {A2:Option Addr} {C2:Nat} (h:MW w mp M a) (hr:gq w 3 A2 r.length C2 r) (hfr:∀ b,rowOf A2 b→¬ lM mp a b) (hl:r.length≤16) {w0:World} (hs:Same w0 w) (hn:∀ b,rowOf A2 b→w0.heap.size≤b) (h0:MW w0 mp M a) :
  MW (w.setCell ⟨mp,2,none⟩ (.slice A2 r.length C2)) mp { M with ord:=r } { a with oA:=A2,oC:=C2 }∧iW mp w0 a (w.setCell ⟨mp,2,none⟩ (.slice A2 r.length C2)) { a with oA:=A2,oC:=C2 }:=by
 refine h0.D9 (r:=r) (A2:=A2) (C2:=C2) ((hs.mono (fun _ _ h=>h.elim)).set 2 _ (.inl rfl)) ?_ (hr.far (p:=⟨mp,2,none⟩) (fun x hx hb=>hfr mp ⟨x,hx,hb⟩ (.inl rfl)) _) (fun b hb=>.inr (hn b hb)) hl
 have:=h.blk.set 2 (.slice A2 r.length C2)
 simpa [ku] using this
theorem Jo (hM:MW w mp M a) (ho:eY M) (hon:M.ord.length=M.n) (htr:M.tr.length<10000000000000) (l:Int) :
  Calls Tryz.prog 76 #[.pointer (some ⟨mp,0,none⟩),.int .i64 l] w fun e w'=>e=.returned (.int .i64 (qC M l).2)∧∃ a',MW w' mp (qC M l).1 a'∧iW mp w a w' a':=by
 have YA:=hM.c0;have hml:=hM.blk.lt;have hn16:=hM.n16;have hw0:IntKind.i64.wrap ((M.n:Int)-2)=(M.n:Int)-2:=IntWalk.i64_in _ (by omega);have HM:=Lib.hid hM;unfold qC;by_cases h0:l<0
 ·rw[if_pos (.inl h0)];clear hM ho hon htr;go_enter Tryz.func76,Tryz.ntmps76;go_wp2;go_ret;exact⟨rfl,a,HM.out,iW.refl _ _ _⟩
 by_cases h1:l>(M.n:Int)-2
 ·rw[if_pos (.inr h1)];clear hM ho hon htr;go_enter Tryz.func76,Tryz.ntmps76;go_wp2;go_ret;exact⟨rfl,a,HM.out,iW.refl _ _ _⟩
 obtain⟨m,rfl⟩:=Int.eq_ofNat_of_zero_le (show 0≤l by omega);rw[if_neg (by omega)];simp only[Int.toNat_natCast];have hm2:m+2≤M.ord.length:=by omega
 have hu:=fun w' (hs:Same w w')=>TD (hM.same hs) ho m hm2
 have abr:=Yz M m (by have:=hM.hl;omega) hM.ol;obtain⟨U,hU⟩:∃ z,uM M m=z:=⟨_,rfl⟩;rw[hU] at hu abr ⊢;have htu:=fun w' (hs:Same w w')=>sS a.oA M.ord.length a.oC M.ord m w' (((hM.same hs).ord.sl fu)) (by have:=hM.ol;omega) hm2
 have HU:=Lib.hid hu;have HTU:=Lib.hid htu;have hw1:IntKind.i64.wrap (2+(U:Int))=2+(U:Int):=IntWalk.i64_in _ (by omega);have YB:=hM.c1;have YD:=Lib.hid hM.ol;clear hM ho hu htu hU hon;by_cases hfit:2+U≤M.c
 ·rw[if_pos hfit];have hgt:¬ (M.c:Int)<2+(U:Int):=by omega
  go_enter Tryz.func76,Tryz.ntmps76;go_upto_region 3 with fail
  refine aJ (fun _=>False) [([0,1,4,5,6,7],2),([3,8],9)] (by kernel_rfl) (by kernel_rfl) ?_;simp only[cK,pick,List.map_cons,List.map_nil,List.getD_cons_zero,List.getD_cons_succ];have hs:Same w w.drew:=(ah.refl _ _).drew;repeat (any_goals (first | go_big_quiet_step (fail) | quiet_step (fail)))
  refine wpQuiet_nil ?_;refine aa rfl fun K hK=>?_
  go_simp;refine(HU.out _ hs).mono ?_;rintro e w4 ⟨rfl,hs4⟩;have hs:=hs.trans hs4 (fun _ _ h=>h);refine hK _ _ (aZ.bu (ah.mono hs (fun _ _ h=>h.elim))) ?_;have iB:=Lib.hid hs;have Ob:=HM.out.same hs;clear hK K hs hs4 YA YB hml;have abt:=Ob.c2;have hml:=Ob.blk.lt;clear Ob;repeat (any_goals (first | go_big_quiet_step (fail) | quiet_step (fail)))
  refine wpQuiet_nil ?_;go_wp2_with (fail)
  refine(HTU.out _ iB.out).mono ?_;rintro e w5 ⟨A5,C5,rfl,yM⟩;have hs5:Same w w5:=iB.out.trans yM.2.2 (fun _ _ h=>h);have wF:=HM.out.same hs5;have hml:=wF.blk.lt;have f2:=wF.blk.free 2;have c2':=wF.c2
  have hset:=wF.PU (r:=swp M.ord m) (A2:=A5) (C2:=C5) yM.1 (fun b hb hk=>by
    have h1:=yM.2.1 b hb;have h2:=(HM.out.same iB.out).lt hk
    omega) (by rw[je];exact YD.out) hs5 (fun b hb=>by
    have h1:=yM.2.1 b hb
    have:=iB.out.size
    omega) HM.out
  have oV:=Lib.hid hset;clear yM hs5 wF hset abt;rw[je] at oV;rw[je];go_upto_region 6 with fail
  generalize w5.setCell ⟨mp,2,none⟩ (.slice A5 M.ord.length C5)=w6 at oV ⊢;have hM6:=oV.out.1;clear c2' f2 hml;have c4:=hM6.c4;have hml:=hM6.blk.lt;simp only at c4;have HM6:=Lib.hid hM6;clear hM6;refine aV 6 ?_;simp only[List.take_succ_cons,List.take_zero,List.drop_succ_cons,List.drop_zero];repeat (any_goals (first | go_big_quiet_step (fail) | quiet_step (fail)))
  refine wpQuiet_nil ?_;refine wpList_plain rfl fun K hK=>?_
  go_simp;refine hK _ _ ?_;clear hK K;refine aQ fun wa dR=>?_
  have hL:=ax.new w6 3 #[.int .i64 (m:Int)];have hsa:Same w6 wa:=by rw[dR];exact(ah.refl _ _).alloc _
  rw[← dR] at hL;clear dR;have hMa:=HM6.out.same hsa;refine Own.aR (f:=eU) rfl (.tmp 40) (.tmp 42) _ rfl Tryz.underlying46 jN rfl (by omega) rfl hMa.tr (fun _=>rfl) (m:Int) w6.heap.size 1 rfl hL (by simp[Value.oneCell',eU]) (by unfold maxLen;simp only;omega) (by simp only;omega) ?_;intro gg cap wb hOb hgb hat;have hmb:=hMa.blk.grown hgb (fun hx=>hMa.Ty (af.1 hx.symm));have fb:=hmb.free 4;have Yn:=hmb.lt;have cb:=hmb.cell 4;simp at cb;have hfr:ah (fun x=>x=mp∨rowOf a.tA x) w6 wb:=(ah.mono hsa (fun _ _ h=>h.elim)).grown hgb (fun g hg=>.inl (.inr (af.1 hg)));have tZ:=Lib.hid hfr;have TA:=Lib.hid hmb;have Bt:=Lib.hid hOb
  have HAT:=Lib.hid (show ∀ b,rowOf (some (⟨gg,0,none⟩:Addr)) b→rowOf a.tA b∨w6.heap.size≤b from fun b hb=>by
   obtain⟨x,hx,rfl⟩:=hb;injection hx with hx
   subst hx;rcases hat with h | h
   ·exact .inl (af.1 h)
   ·have:=hsa.size
    exact .inr (by simp only;omega))
  clear hfr hOb hgb hat hMa hsa hL hmb c4 hml;go_wp2;go_ret;have Cs:=Own.far (p:=⟨mp,4,none⟩) Bt.out (fun x hx h=>Own.av Bt.out TA.out (by decide) x hx h) (.slice (some ⟨gg,0,none⟩) (M.tr.length+1) cap)
  have hgo:=HM6.out.ym (r:=M.tr++[(m:Int)]) (A2:=some ⟨gg,0,none⟩) (C2:=cap) (tZ.out.set 4 (.slice (some ⟨gg,0,none⟩) (M.tr.length+1) cap) (.inl rfl)) (by
    have:=TA.out.set 4 (.slice (some ⟨gg,0,none⟩) (M.tr.length+1) cap)
    simpa [ku] using this)
   (by rw[List.length_append];exact Cs) HAT.out (by rw[List.length_append];simp <;> omega)
  have abu:=oV.out.2;exact⟨rfl,_,hgo.1,abu.trans hgo.2⟩
 ·rw[if_neg hfit];have hgt:(M.c:Int)<2+(U:Int):=by omega
  go_enter Tryz.func76,Tryz.ntmps76;go_upto_region 3 with fail
  refine aJ (fun _=>False) [([0,1,4,5,6,7],2),([3,8],9)] (by kernel_rfl) (by kernel_rfl) ?_;simp only[cK,pick,List.map_cons,List.map_nil,List.getD_cons_zero,List.getD_cons_succ];have hs:Same w w.drew:=(ah.refl _ _).drew;repeat (any_goals (first | go_big_quiet_step (fail) | quiet_step (fail)))
  refine wpQuiet_nil ?_;refine aa rfl fun K hK=>?_
  go_simp;refine(HU.out _ hs).mono ?_;rintro e w4 ⟨rfl,hs4⟩;have hs:=hs.trans hs4 (fun _ _ h=>h);refine hK _ _ (aZ.bu (ah.mono hs (fun _ _ h=>h.elim))) ?_;have iB:=Lib.hid hs;clear hK K hs hs4 YA YB hml;repeat (any_goals (first | go_big_quiet_step (fail) | quiet_step (fail)))
  refine wpQuiet_nil ?_;go_wp2;go_ret;exact⟨rfl,a,HM.out.same iB.out,iW.same iB.out⟩
end
def Cw (n c:Nat):MS:=⟨n,c,(List.range n).map (fun i:Nat=>(i:Int)),[],[]⟩
def xR (k:Nat):List Int:=(List.range k).map (fun i:Nat=>(i:Int))
theorem mV (k:Nat):(xR k).length=k:=by simp[xR]
theorem Jp (k:Nat):xR (k+1)=xR k++[(k:Int)]:=by simp[xR,List.range_succ]
theorem zY (n c:Nat) (w:World) (hn:n≤16) :
  Calls Tryz.prog 64 #[.int .i64 n,.int .i64 c] w fun e w'=>∃ mp a,e=.returned (.pointer (some ⟨mp,0,none⟩))∧MW w' mp (Cw n c) a∧Same w w'∧∀ b,lM mp a b→w.heap.size≤b:=by
 go_enter Tryz.func64,Tryz.ntmps64;go_upto_region 2 with fail
 refine ai fun w1 hw1=>?_
 have hX:=ax.new w 112 #[.int .i64 n,.int .i64 c,.slice none 0 0,.slice none 0 0,.slice none 0 0];have hs1:Same w w1:=by rw[hw1];exact(ah.refl _ _).alloc _
 rw[← hw1] at hX;clear hw1;have HX:=Lib.hid hX;have aX:=Lib.hid hs1;obtain⟨mp,hmp⟩:∃ z,z=w.heap.size:=⟨_,rfl⟩;rw[← hmp] at HX ⊢;have YE:w.heap.size≤mp:=by omega
 clear hX hs1 hmp;go_wp2_with (fail)
 go_loopw [6] (fun i wr=>∃ (k:Nat) (A:Option Addr) (C:Nat),k≤n∧i=.int .i64 k∧ax wr mp 112 #[.int .i64 n,.int .i64 c,.slice A k C,.slice none 0 0,.slice none 0 0]∧gq wr 3 A k C (xR k)∧(∀ b,rowOf A b→w.heap.size≤b)∧Same w wr) (fun i _=>n-(intOf i).toNat)
 case atStart=>exact⟨0,none,0,by omega,rfl,HX.out,Own.nil _ _ _ _,(fun b hb=>by obtain⟨x,hx,_⟩:=hb;cases hx),aX.out⟩
 case round =>
  obtain⟨k,A,C,hk,rfl,hB,hO,hfr,hS⟩:=hrel;have hml:=hB.lt;by_cases hlt:k<n
  ·have hI:(k:Int)<(n:Int):=by omega
   have c2:wr.cell? ⟨mp,2,none⟩=some (.slice A k C):=hB.cell 2;have HB:=Lib.hid hB;have HO:=Lib.hid hO;have tZ:=Lib.hid hfr;have HS:=Lib.hid hS;clear hB hO hfr hS;go_upto_region 5 with fail
   refine aV 6 ?_;simp only[List.take_succ_cons,List.take_zero,List.drop_succ_cons,List.drop_zero];repeat (any_goals (first | go_big_quiet_step (fail) | quiet_step (fail)))
   refine wpQuiet_nil ?_;refine wpList_plain rfl fun K hK=>?_
   go_simp;refine hK _ _ ?_;clear hK K;refine aQ fun wa dR=>?_
   have hL:=ax.new wr 3 #[.int .i64 (k:Int)];have hsa:Same wr wa:=by rw[dR];exact(ah.refl _ _).alloc _
   rw[← dR] at hL;clear dR;have hOa:=HO.out.ag hsa (fun _ _=>id);refine Own.aR (f:=eU) rfl (.tmp 20) (.tmp 22) _ rfl Tryz.underlying46 jN rfl (by omega) rfl hOa (fun _=>rfl) (k:Int) wr.heap.size 1 rfl hL (by simp[Value.oneCell',eU]) (by rw[mV];unfold maxLen;omega) (by rw[mV];omega) ?_;intro gg cap wb hOb hgb hat;have hmA:∀ x,A=some x→x.block≠mp:=fun x hx h=>hOa.av (HB.out.ag hsa id) (by decide) x hx h
   have hmb:=(HB.out.ag hsa id).grown hgb (fun hx=>by
    obtain⟨x,hx,hxb⟩:=af.1 hx.symm
    exact hmA x hx hxb)
   have fb:=hmb.free 2;have Yn:=hmb.lt;have cb:=hmb.cell 2;simp at cb;have hsb:Same w wb:=(HS.out.trans hsa (fun _ _ h=>h)).grown hgb (fun g hg=>.inr (tZ.out g (af.1 hg)));have Cs:=Own.far (p:=⟨mp,2,none⟩) hOb (fun x hx h=>Own.av hOb hmb (by decide) x hx h) (.slice (some ⟨gg,0,none⟩) (k+1) cap);have YF:=hmb.set 2 (.slice (some ⟨gg,0,none⟩) (k+1) cap);have Bt:=Lib.hid Cs;have TA:=Lib.hid (show ax (wb.setCell ⟨mp,2,none⟩ (.slice (some ⟨gg,0,none⟩) (k+1) cap)) mp 112 #[.int .i64 n,.int .i64 c,.slice (some ⟨gg,0,none⟩) (k+1) cap,.slice none 0 0,.slice none 0 0] by simpa using YF)
   have HAT:=Lib.hid (show ∀ b,rowOf (some (⟨gg,0,none⟩:Addr)) b→w.heap.size≤b from fun b hb=>by
    obtain⟨x,hx,rfl⟩:=hb;injection hx with hx
    subst hx;rcases hat with h | h
    ·exact tZ.out _ (af.1 h)
    ·have:=hsa.size
     have:=HS.out.size
     simp only
     omega)
   have kS:=Lib.hid (hsb.aj (g:=mp) 2 (.slice (some ⟨gg,0,none⟩) (k+1) cap) YE);clear hsb Cs YF hOb hgb hat hOa hsa hL hmb c2 hml hmA;go_wp2;go_roundw
   case rel=>exact⟨k+1,some ⟨gg,0,none⟩,cap,by omega,by go_num,TA.out,by rw[Jp];exact Bt.out,HAT.out,kS.out⟩
   case measure=>simp[intOf] <;> omega
  ·obtain rfl:k=n:=by omega
   have hI:¬ ((k:Nat):Int)<(k:Int):=by omega
   have HB:=Lib.hid hB;have HO:=Lib.hid hO;have tZ:=Lib.hid hfr;have HS:=Lib.hid hS;clear hB hO hfr hS;go_wp2;go_ret;refine⟨mp,rfl,⟨A,C,none,0,[],none,0⟩,⟨?_,?_,Own.nil _ _ _ _,(fun q hq=>by cases hq),rfl,Own.nil _ _ _ _,hn,by show(xR k).length≤16;rw[mV];exact hn,by simp[Cw],by simp[Cw],(fun b _ hb=>by obtain⟨x,hx,_⟩:=hb;cases hx)⟩,HS.out,?_⟩
   ·have:=HB.out
    show ax wr mp _ #[.int .i64 k,.int .i64 c,.slice A (xR k).length C,_,_];rw[mV];exact this
   ·show gq wr _ A (xR k).length C (xR k);rw[mV];exact HO.out
   ·rintro b (rfl | hb | ⟨x,hx,_⟩ | ⟨x,hx,_⟩)
    ·exact YE
    ·exact tZ.out b hb
    ·cases hx
    ·cases hx
structure PS where
 k:KS
 m:MS
 refs:List Int
 ts:List (List Nat)
 live:List (List Nat)
 dead:List Bool
structure PA where
 kp:Nat
 a:KA
 mp:Nat
 b:MA
 rA:Option Addr
 rC:Nat
 tA:Option Addr
 tC:Nat
 tt:List Tb
 vA:Option Addr
 vC:Nat
 vv:List Tb
 dA:Option Addr
 dC:Nat
def fZ (p:PS) (q:PA):Array Value:=#[.pointer (some ⟨q.kp,0,none⟩),.pointer (some ⟨q.mp,0,none⟩),.slice q.rA p.refs.length q.rC,.slice q.tA q.tt.length q.tC,.slice q.vA q.vv.length q.vC,.slice q.dA p.dead.length q.dC]
def ML (pp:Nat) (q:PA) (b:Nat):Prop:=b=pp∨rowOf q.rA b∨rowOf q.tA b∨rowOf q.vA b∨rowOf q.dA b∨lM q.mp q.b b
structure PW (B:Nat→Prop) (w:World) (pp:Nat) (p:PS) (q:PA):Prop where
 blk:ax w pp 58 (fZ p q)
 k:KW w q.kp p.k q.a
 m:MW w q.mp p.m q.b
 refs:Row1 w 28 rc q.rA p.refs.length q.rC p.refs
 ts:Go.Tk.Own w 108 2 Tb.cells q.tA q.tt.length q.tC q.tt
 tt:∀ t∈q.tt,TW w p.m.n t
 te:q.tt.map Tb.ws=p.ts
 vs:Go.Tk.Own w 108 2 Tb.cells q.vA q.vv.length q.vC q.vv
 vt:∀ t∈q.vv,TW w p.m.n t
 ve:q.vv.map Tb.ws=p.live
 ds:Ma w q.dA p.dead.length q.dC p.dead
 kl:∀ b,ML pp q b→¬ gX p.k.n q.kp q.a b
 tv:∀ b,rowOf q.tA b→¬ rowOf q.vA b
 base:∀ b,gX p.k.n q.kp q.a b∨ML pp q b→¬ B b
abbrev Up (B:Nat→Prop) (w w':World):Prop:=ah (fun b=>¬ B b) w w'
section
variable {w w':World} {B:Nat→Prop} {pp:Nat} {p:PS} {q:PA} {n:Nat} {t:Tb} {kp:Nat} {k:KS} {a:KA}
theorem Up.trans {w1 w2:World} (h:Up B w w1) (g:Up B w1 w2):Up B w w2:=ah.trans h g (fun _ _ h=>h)
theorem Up.bK (h:Same w w'):Up B w w':=ah.mono h (fun _ _ h=>h.elim)
theorem PV {e:TypeId} {m:Nat} {α:Type} {f:α→List Value} {A:Option Addr} {N C:Nat} {xs:List α} (hk:KW w kp k a) (ho:Go.Tk.Own w e m f A N C xs) (h1:e≠100) (h2:e≠141) (h3:e≠166) (h4:e≠28) (h5:e≠131) (h6:e≠21) (h7:e≠3)
  (h8:∀ x,A=some x→∃ u,w.cell? ⟨x.block,0,none⟩=some u∧∀ z,u≠.map z):∀ b,rowOf A b→¬ gX k.n kp a b:=by
 rintro b ⟨x,hx,rfl⟩ ⟨i,hi⟩
 match i with
 | 0=>exact ho.av hk.blk h1 x hx hi
 | 1=>exact ho.av hk.ar.blk h2 x hx hi
 | 2=>exact ho.aL hk.ar.own h3 _ ⟨x,hx,rfl⟩ hi
 | 3=>exact ho.aL hk.ar.qV h4 _ ⟨x,hx,rfl⟩ hi
 | 4=>exact ho.av hk.ut.t h5 x hx hi
 | 5 =>
  obtain⟨u,hu,hz⟩:=h8 x hx;have h0:=hk.ut.s 0 hk.ut.hv.1;have hi':x.block=a.U.sb:=hi;rw[hi',h0] at hu;injection hu with hu
  exact hz _ hu.symm
 | 6 =>
  obtain⟨v,hv,hb⟩:=hi;obtain⟨u,hu,hz⟩:=h8 x hx;have hm:=hk.ut.m v hv;rw[← hb] at hm;obtain⟨D,⟨es,clock,hh,_⟩,_⟩:=hm;unfold World.cell? at hu;rw[hh] at hu;cases hu
 | 7=>exact ho.aL hk.us h6 _ ⟨x,hx,rfl⟩ hi
 | 8=>exact ho.aL hk.hs h6 _ ⟨x,hx,rfl⟩ hi
 | 9=>exact ho.aL hk.ord h7 _ ⟨x,hx,rfl⟩ hi
 | 10=>exact ho.aL hk.bH h7 _ ⟨x,hx,rfl⟩ hi
 | 11=>exact ho.aL hk.tr h7 _ ⟨x,hx,rfl⟩ hi
 | _+12=>exact hi.elim
theorem YG (hk:KW w kp k a) (ht:TW w n t):∀ b,rowOf t.A b→¬ gX k.n kp a b:=by
 refine PV hk ht.own (by decide) (by decide) (by decide) (by decide) (by decide) (by decide) (by decide) ?_;intro x hx;have hl:0<t.ws.length:=by rw[ht.fm.len];exact DN n
 obtain⟨sb,hA,_,hc⟩:=Own.dQ (c:=fun x:Nat=>.int .u64 (x:Int)) ht.own (List.getElem?_eq_getElem hl);rw[hx] at hA;injection hA with hA
 subst hA;exact⟨_,hc,fun z h=>by cases h⟩
theorem PW.c0 (h:PW B w pp p q):w.cell? ⟨pp,0,none⟩=some (.pointer (some ⟨q.kp,0,none⟩)):=h.blk.cell 0
theorem PW.c1 (h:PW B w pp p q):w.cell? ⟨pp,1,none⟩=some (.pointer (some ⟨q.mp,0,none⟩)):=h.blk.cell 1
theorem PW.c2 (h:PW B w pp p q):w.cell? ⟨pp,2,none⟩=some (.slice q.rA p.refs.length q.rC):=h.blk.cell 2
theorem PW.c3 (h:PW B w pp p q):w.cell? ⟨pp,3,none⟩=some (.slice q.tA q.tt.length q.tC):=h.blk.cell 3
theorem PW.c4 (h:PW B w pp p q):w.cell? ⟨pp,4,none⟩=some (.slice q.vA q.vv.length q.vC):=h.blk.cell 4
theorem PW.c5 (h:PW B w pp p q):w.cell? ⟨pp,5,none⟩=some (.slice q.dA p.dead.length q.dC):=h.blk.cell 5
theorem PW.tl (h:PW B w pp p q):q.tt.length=p.ts.length:=by rw[← h.te,List.length_map]
theorem PW.vl (h:PW B w pp p q):q.vv.length=p.live.length:=by rw[← h.ve,List.length_map]
theorem PW.Vi (h:PW B w pp p q):∀ b,ML pp q b→b<w.heap.size:=by
 rintro b (rfl | hb | hb | hb | hb | hb)
 ·exact h.blk.lt
 ·exact dV h.refs hb
 ·exact dV h.ts hb
 ·exact dV h.vs hb
 ·exact dV h.ds hb
 ·exact h.m.lt hb
theorem PW.same (h:PW B w pp p q) (hs:Same w w'):PW B w' pp p q :=
 ⟨h.blk.ag hs id,h.k.same hs,h.m.same hs,h.refs.ag hs (fun _ _=>id),h.ts.ag hs (fun _ _=>id),fun t ht=>(h.tt t ht).same hs,h.te,h.vs.ag hs (fun _ _=>id),fun t ht=>(h.vt t ht).same hs,h.ve,h.ds.ag hs (fun _ _=>id),h.kl,h.tv,h.base⟩
theorem PW.kernel {k':KS} {a':KA} (h:PW B w pp p q) (hk:KW w' q.kp k' a') (hg:cZ p.k.n q.kp w q.a w' a') (hn:k'.n=p.k.n) (hB:∀ b,B b→b<w.heap.size):PW B w' pp { p with k:=k' } { q with a:=a' }∧Up B w w':=by
 have hkl:∀ b,ML pp { q with a:=a' } b→¬ gX k'.n q.kp a' b:=by
  intro b hb;rw[hn];exact hg.apart h.kl h.Vi b hb
 have tk:∀ t,TW w p.m.n t→TW w' p.m.n t:=fun t ht=>⟨ht.N,ht.own.ag hg.ag (fun x hx=>YG h.k ht _ ⟨x,hx,rfl⟩),ht.fm,ht.sm⟩
 refine⟨⟨h.blk.ag hg.ag (h.kl _ (.inl rfl)),hk,h.m.ag hg.ag (fun b hb=>h.kl b (.inr (.inr (.inr (.inr (.inr hb)))))) (fun r hr b hb=>YG h.k (h.m.tw r hr) b hb),h.refs.ag hg.ag (fun x hx=>h.kl _ (.inr (.inl ⟨x,hx,rfl⟩))),h.ts.ag hg.ag (fun x hx=>h.kl _ (.inr (.inr (.inl ⟨x,hx,rfl⟩)))),fun t ht=>tk t (h.tt t ht),h.te,
  h.vs.ag hg.ag (fun x hx=>h.kl _ (.inr (.inr (.inr (.inl ⟨x,hx,rfl⟩))))),fun t ht=>tk t (h.vt t ht),h.ve,h.ds.ag hg.ag (fun x hx=>h.kl _ (.inr (.inr (.inr (.inr (.inl ⟨x,hx,rfl⟩)))))),hkl,h.tv,?_⟩,hg.ag.mono (fun b _ hb=>h.base b (.inl hb))⟩
 rintro b (hb | hb)
 ·rw[hn] at hb;rcases hg.fp b hb with h1 | h1
  ·exact h.base b (.inl h1)
  ·exact fun hx=>by have:=hB b hx;omega
 ·exact h.base b (.inr hb)
theorem PW.model {m':MS} {b':MA} (h:PW B w pp p q) (hm:MW w' q.mp m' b') (hg:iW q.mp w q.b w' b') (hn:m'.n=p.m.n) (hB:∀ b,B b→b<w.heap.size):PW B w' pp { p with m:=m' } { q with b:=b' }∧Up B w w':=by
 have hK:∀ b,gX p.k.n q.kp q.a b→¬ lM q.mp q.b b:=fun b hb hm=>h.kl b (.inr (.inr (.inr (.inr (.inr hm))))) hb
 have tm:∀ t,TW w p.m.n t→TW w' m'.n t:=fun t ht=>by rw[hn];exact ht.Jj h.m hg.ag (fun _ h=>h)
 refine⟨⟨h.blk.ag hg.ag ?_,h.k.ag hg.ag hK,hm,h.refs.ag hg.ag (fun x hx=>h.m.aL h.refs (by decide) (by decide) (by decide) _ ⟨x,hx,rfl⟩),h.ts.ag hg.ag (fun x hx=>h.m.aL h.ts (by decide) (by decide) (by decide) _ ⟨x,hx,rfl⟩),fun t ht=>tm t (h.tt t ht),h.te,
  h.vs.ag hg.ag (fun x hx=>h.m.aL h.vs (by decide) (by decide) (by decide) _ ⟨x,hx,rfl⟩),fun t ht=>tm t (h.vt t ht),h.ve,h.ds.ag hg.ag (fun x hx=>h.m.aL h.ds (by decide) (by decide) (by decide) _ ⟨x,hx,rfl⟩),?_,h.tv,?_⟩,hg.ag.mono (fun b _ hb=>h.base b (.inr (.inr (.inr (.inr (.inr (.inr hb)))))))⟩
 ·rintro(hb | ⟨x,hx,hb⟩ | ⟨x,hx,hb⟩ | ⟨x,hx,hb⟩)
  ·have:=h.blk
   rw[hb] at this;exact absurd (ax.inj this h.m.blk).1 (by decide)
  ·exact h.m.ord.av h.blk (by decide) x hx hb
  ·exact h.m.hs.av h.blk (by decide) x hx hb
  ·exact h.m.tr.av h.blk (by decide) x hx hb
 ·rintro b (hb | hb | hb | hb | hb | hb) hk
  ·exact h.kl b (.inl hb) hk
  ·exact h.kl b (.inr (.inl hb)) hk
  ·exact h.kl b (.inr (.inr (.inl hb))) hk
  ·exact h.kl b (.inr (.inr (.inr (.inl hb)))) hk
  ·exact h.kl b (.inr (.inr (.inr (.inr (.inl hb))))) hk
  ·rcases hg.fp b hb with h1 | h1
   ·exact h.kl b (.inr (.inr (.inr (.inr (.inr h1))))) hk
   ·have:=h.k.lt hk
    omega
 ·rintro b (hb | hb | hb | hb | hb | hb | hb)
  ·exact h.base b (.inl hb)
  ·exact h.base b (.inr (.inl hb))
  ·exact h.base b (.inr (.inr (.inl hb)))
  ·exact h.base b (.inr (.inr (.inr (.inl hb))))
  ·exact h.base b (.inr (.inr (.inr (.inr (.inl hb)))))
  ·exact h.base b (.inr (.inr (.inr (.inr (.inr (.inl hb))))))
  ·rcases hg.fp b hb with h1 | h1
   ·exact h.base b (.inr (.inr (.inr (.inr (.inr (.inr h1))))))
   ·exact fun hx=>by have:=hB b hx;omega
end
def qD (M:MS):List (List Nat):=(aM M.n (kC M) M.ord).flatten
def countP (p:PS):PS:={ p with live:=qD p.m }
section
variable {w w':World} {B:Nat→Prop} {pp:Nat} {p:PS} {q:PA} {n:Nat} {t:Tb} {kp:Nat} {k:KS} {a:KA}
theorem TW.PX (ht:TW w n t) {S:Nat→Prop} (hf:ah S w w') {g:Nat} {ty:TypeId} {cs:Array Value} (hb:ax w g ty cs) (h1:123≠ty) {e:TypeId} {m:Nat} {α:Type} {f:α→List Value} {A:Option Addr} {N C:Nat} {xs:List α} (ho:Go.Tk.Own w e m f A N C xs) (h2:123≠e) (hS:∀ b,S b→b=g∨rowOf A b):TW w' n t :=
 ⟨ht.N,ht.own.ag hf (fun x hx hs=>by
  rcases hS _ hs with h | h
  ·exact ht.own.av hb h1 x hx h
  ·exact ht.own.aL ho h2 _ ⟨x,hx,rfl⟩ h),ht.fm,ht.sm⟩
theorem PW.Rl {A2:Option Addr} {C2:Nat} {vs:List Tb} (h:PW B w pp p q) (hf:ah (fun b=>b=pp∨rowOf q.vA b) w w') (hb:ax w' pp 58 (fZ { p with live:=vs.map Tb.ws } { q with vA:=A2,vC:=C2,vv:=vs }))
  (ho:Go.Tk.Own w' 108 2 Tb.cells A2 vs.length C2 vs) (ht:∀ t∈vs,TW w p.m.n t) (hn:∀ b,rowOf A2 b→rowOf q.vA b∨w.heap.size≤b) (hB:∀ b,B b→b<w.heap.size) :
  PW B w' pp { p with live:=vs.map Tb.ws } { q with vA:=A2,vC:=C2,vv:=vs }∧Up B w w':=by
 have hS:∀ b,(b=pp∨rowOf q.vA b)→ML pp q b:=fun b hb=>hb.elim .inl (fun h=>.inr (.inr (.inr (.inl h))))
 have tk:∀ t,TW w p.m.n t→TW w' p.m.n t:=fun t ht=>ht.PX hf h.blk (by decide) h.vs (by decide) (fun _ h=>h)
 have hM:∀ b,lM q.mp q.b b→¬ (b=pp∨rowOf q.vA b):=by
  rintro b hm (hb | hb)
  ·subst hb;rcases hm with hm | ⟨x,hx,hm⟩ | ⟨x,hx,hm⟩ | ⟨x,hx,hm⟩
   ·have:=h.blk
    rw[hm] at this;exact absurd (ax.inj this h.m.blk).1 (by decide)
   ·exact h.m.ord.av h.blk (by decide) x hx hm
   ·exact h.m.hs.av h.blk (by decide) x hx hm
   ·exact h.m.tr.av h.blk (by decide) x hx hm
  ·exact h.m.aL h.vs (by decide) (by decide) (by decide) b hb hm
 refine⟨⟨hb,h.k.ag hf (fun b hk hs=>h.kl b (hS b hs) hk),h.m.ag hf hM (fun r hr b hrb hs=>?_),h.refs.ag hf ?_,h.ts.ag hf ?_,fun t ht=>tk t (h.tt t ht),h.te,ho,fun t hm=>tk t (ht t hm),rfl,h.ds.ag hf ?_,?_,?_,?_⟩,hf.mono (fun b _ hb=>h.base b (.inr (hS b hb)))⟩
 ·obtain⟨x,hx,rfl⟩:=hrb;rcases hs with hs | hs
  ·exact(h.m.tw r hr).own.av h.blk (by decide) x hx hs
  ·exact(h.m.tw r hr).own.aL h.vs (by decide) _ ⟨x,hx,rfl⟩ hs
 ·rintro x hx (hs | hs)
  ·exact h.refs.av h.blk (by decide) x hx hs
  ·exact h.refs.aL h.vs (by decide) _ ⟨x,hx,rfl⟩ hs
 ·rintro x hx (hs | hs)
  ·exact h.ts.av h.blk (by decide) x hx hs
  ·exact h.tv _ ⟨x,hx,rfl⟩ hs
 ·rintro x hx (hs | hs)
  ·exact h.ds.av h.blk (by decide) x hx hs
  ·exact h.ds.aL h.vs (by decide) _ ⟨x,hx,rfl⟩ hs
 ·rintro b (hb | hb | hb | hb | hb | hb) hk
  ·exact h.kl b (.inl hb) hk
  ·exact h.kl b (.inr (.inl hb)) hk
  ·exact h.kl b (.inr (.inr (.inl hb))) hk
  ·rcases hn b hb with h1 | h1
   ·exact h.kl b (.inr (.inr (.inr (.inl h1)))) hk
   ·have:=h.k.lt hk
    omega
  ·exact h.kl b (.inr (.inr (.inr (.inr (.inl hb))))) hk
  ·exact h.kl b (.inr (.inr (.inr (.inr (.inr hb))))) hk
 ·intro b hb hv;rcases hn b hv with h1 | h1
  ·exact h.tv b hb h1
  ·have:=dV h.ts hb
   omega
 ·rintro b (hb | hb | hb | hb | hb | hb | hb)
  ·exact h.base b (.inl hb)
  ·exact h.base b (.inr (.inl hb))
  ·exact h.base b (.inr (.inr (.inl hb)))
  ·exact h.base b (.inr (.inr (.inr (.inl hb))))
  ·rcases hn b hb with h1 | h1
   ·exact h.base b (.inr (.inr (.inr (.inr (.inl h1)))))
   ·exact fun hx=>by have:=hB b hx;omega
  ·exact h.base b (.inr (.inr (.inr (.inr (.inr (.inl hb))))))
  ·exact h.base b (.inr (.inr (.inr (.inr (.inr (.inr hb))))))
theorem PW.TJ (h:PW B w pp p q) (hB:∀ b,B b→b<w.heap.size):PW B (w.setCell ⟨pp,4,none⟩ (.slice none 0 0)) pp { p with live:=[] } { q with vA:=none,vC:=0,vv:=[] }∧Up B w (w.setCell ⟨pp,4,none⟩ (.slice none 0 0)):=by
 refine h.Rl (vs:=[]) (A2:=none) (C2:=0) ((ah.refl _ _).set 4 _ (.inl rfl)) ?_ (Own.nil _ _ _ _) (fun t ht=>by cases ht) (fun b hb=>?_) hB
 ·have:=h.blk.set 4 (.slice none 0 0)
  simpa [fZ] using this
 ·obtain⟨x,hx,_⟩:=hb;cases hx
theorem Cx (M:MS) (hz:M.held.length≤2000000) (ho:M.ord.length≤16) (k:Nat) (hk:k≤16):(((aM M.n (kC M) M.ord).take k).flatten).length≤2097152000000:=by
 have h1:=nP (aM M.n (kC M) M.ord) 131072000000 (gp M.n (kC M) (by unfold kC;rw[List.length_map];exact hz) M.ord ho) k;rw[List.length_flatten]
 have:=Nat.mul_le_mul_right 131072000000 hk
 omega
theorem LN.far {lo:Nat} {w:World} {A:Option Addr} {C:Nat} {rs:List jm} (h:LN lo w n A C rs) {g:Nat} {ty:TypeId} {cs:Array Value} (hb:ax w g ty cs) (h1:55≠ty) (h2:108≠ty) (h3:123≠ty) {i:Nat} {u:Value}:LN lo (w.setCell ⟨g,i,none⟩ u) n A C rs :=
 ⟨h.own.far (p:=⟨g,i,none⟩) (fun x hx=>h.own.av hb h1 x hx) u,fun r hr=>⟨(h.tn r hr).own.far (p:=⟨g,i,none⟩) (fun x hx=>(h.tn r hr).own.av hb h2 x hx) u,fun t ht=>⟨((h.tn r hr).tw t ht).N,((h.tn r hr).tw t ht).own.far (p:=⟨g,i,none⟩) (fun x hx=>((h.tn r hr).tw t ht).own.av hb h3 x hx) u,((h.tn r hr).tw t ht).fm,((h.tn r hr).tw t ht).sm⟩,(h.tn r hr).fresh⟩,h.fresh⟩
theorem yN (hP:PW B w pp p q) (ho:eY p.m) (hB:∀ b,B b→b<w.heap.size) :
  Calls Tryz.prog 50 #[.pointer (some ⟨pp,0,none⟩)] w fun e w'=>e=.returned (.tuple #[])∧(∃ q',PW B w' pp (countP p) q')∧Up B w w':=by
 have hpl:=hP.blk.lt;have f4:=hP.blk.free 4;have c4:=hP.c4;have HP:=Lib.hid hP;have HO:=Lib.hid ho;clear hP ho;go_enter Tryz.func50,Tryz.ntmps50;go_upto_region 1 with fail
 have h1:=HP.out.TJ hB;have hsz1:(w.setCell ⟨pp,4,none⟩ (.slice none 0 0)).heap.size=w.heap.size:=by simp
 generalize w.setCell ⟨pp,4,none⟩ (.slice none 0 0)=w1 at h1 hsz1 ⊢;clear c4 f4 hpl;have c1:=h1.1.c1;have hpl:=h1.1.blk.lt;have hlv:=j5 h1.1.m HO.out;have zw:=Lib.hid hlv;have H1:=Lib.hid h1;clear h1 hlv;go_wp2_with (fail)
 refine zw.out.mono ?_;rintro e w2 ⟨A2,C2,rs,rfl,qw,hlz,hs2⟩;have hrl:rs.length≤16:=by
  have h1:(lz rs).length=p.m.ord.length:=by rw[hlz];unfold aM;rw[eu];simp
  rw[kr] at h1
  have:=HP.out.m.ol
  omega
 have YH:∀ r∈rs,∀ b,rowOf r.A b→b<w2.heap.size:=fun r hr b hb=>dV (qw.tn r hr).own hb
 have abv:=Lib.hid YH;have Av:=Lib.hid qw;have Jh:=Lib.hid hlz;have zn:=Lib.hid (H1.out.1.same hs2);have Ij:=Lib.hid (H1.out.2.trans (Up.bK hs2));have hB2:∀ b,B b→b<w2.heap.size:=fun b hb=>by have:=hB b hb;have:=hs2.size;omega
 clear qw hlz hs2 YH c1 hpl;go_wp2_with (fail)
 go_loopw [13] (fun i wr=>∃ (k:Nat) (A:Option Addr) (C:Nat) (vs:List Tb),k≤rs.length∧i=.int .i64 k∧PW B wr pp { p with live:=vs.map Tb.ws } { q with vA:=A,vC:=C,vv:=vs }∧vs.map Tb.ws=((lz rs).take k).flatten∧(∀ b,rowOf A b→w2.heap.size≤b)∧LN w1.heap.size wr p.m.n A2 C2 rs∧Up B w wr∧w2.heap.size≤wr.heap.size) (fun i _=>rs.length-(intOf i).toNat)
 case atStart=>exact⟨0,none,0,[],by omega,rfl,zn.out,by simp,(fun b hb=>by obtain⟨x,hx,_⟩:=hb;cases hx),Av.out,Ij.out,Nat.le_refl _⟩
 case round =>
  obtain⟨k,A3,C3,vs,hk,rfl,kM,hvs,hfr,qw,hU,hsz⟩:=hrel;by_cases hlt:k<rs.length
  ·obtain⟨r,hr⟩:∃ r,rs[k]?=some r:=⟨_,List.getElem?_eq_getElem hlt⟩;obtain⟨sb,hA1,hsb,hc⟩:=qw.own.get jm.ak hr;have c0:wr.cell? ⟨sb,k*1,none⟩=some (.slice r.A r.ts.length r.C):=hc 0 (by omega);rw[Nat.mul_one] at c0;have hI:(k:Int)<(rs.length:Int):=by omega
   have hTr:=qw.tn r (List.mem_of_getElem? hr);have hstep:((lz rs).take (k+1)).flatten=vs.map Tb.ws++r.ts.map Tb.ws:=by
    have:(lz rs)[k]?=some (r.ts.map Tb.ws):=by unfold lz;rw[List.getElem?_map,hr];rfl
    rw[List.take_add_one,this,hvs];simp
   have hbig:(vs++r.ts).length≤2097152000000:=by
    have h1:=Cx p.m (by have:=HP.out.m.hl;omega) HP.out.m.ol (k+1) (by omega);rw[← Jh.out,hstep] at h1;simpa using h1
   have c4:=kM.c4;have hpl:=kM.blk.lt;simp only at c4;have O0:∀ q∈rs,∀ b,rowOf A3 b→¬ rowOf q.A b:=fun q hq b hb hb2=>by
    have h1:=hfr b hb;have h2:=abv.out q hq b hb2;omega
   have HST:=Lib.hid hstep;have Cy:=Lib.hid kM;have tZ:=Lib.hid hfr;have YI:=Lib.hid qw;have HU:=Lib.hid hU;have Dv:=Lib.hid hTr;have Vj:=Lib.hid O0;rw[List.length_append] at hbig;clear hr hc hstep hTr hvs kM hfr qw hU O0;subst hA1;go_upto_region 4 with fail
   refine aV 6 ?_;simp only[List.take_succ_cons,List.take_zero,List.drop_succ_cons,List.drop_zero];repeat (any_goals (first | go_big_quiet_step (fail) | quiet_step (fail)))
   refine wpQuiet_nil ?_;refine wpList_plain rfl fun K hK=>?_
   refine Own.bT (.tmp 21) (.tmp 22) _ rfl Tryz.underlying55 fq rfl (by omega) rfl Cy.out.vs Tb.ak r.ts r.A r.C rfl (fun hne=>Sl.source Tb.ak (by omega) Dv.out.tl.sl hne) (fun y _=>Tb.one y) (by simp[maxLen] <;> omega) (by simp only;omega) ?_;intro A4 C4 w4 hO4 hg4 Jq;refine hK _ _ ?_;clear hK K
   have hb4:=Cy.out.blk.grown hg4 (fun hx=>by
    obtain⟨x,hx,hxb⟩:=af.1 hx.symm
    exact Cy.out.vs.av Cy.out.blk (by decide) x hx hxb)
   have f4:=hb4.free 4;have c4':=hb4.cell 4;have acR:=hb4.lt;simp[fZ] at c4';have EP:ah (fun b=>b=pp∨rowOf A3 b) wr w4:=(ah.refl _ _).grown hg4 (fun g hg=>.inl (.inr (af.1 hg)))
   have hto:=Cy.out.Rl (w':=w4.setCell ⟨pp,4,none⟩ (.slice A4 (vs.length+r.ts.length) C4)) (vs:=vs++r.ts) (A2:=A4) (C2:=C4) (EP.set 4 _ (.inl rfl)) (by
     have:=hb4.set 4 (.slice A4 (vs.length+r.ts.length) C4)
     simpa [fZ] using this)
    (hO4.far (p:=⟨pp,4,none⟩) (fun x hx h=>Own.av hO4 hb4 (by decide) x hx h) _)
    (fun t ht=>by
     rcases List.mem_append.1 ht with ht | ht
     ·exact Cy.out.vt t ht
     ·exact Dv.out.tw t ht)
    (fun b hb=>(Jq b hb).elim .inl (fun h=>.inr (Nat.le_of_eq h.symm))) (fun b hb=>by have:=hB2 b hb;omega)
   have oF:=Lib.hid hto;have hl4:=YI.out.keep (lo':=0) ⟨Cy.out.vs,Cy.out.vt,fun _ _=>Nat.zero_le _⟩ hg4 Vj.out;have Kh:=Lib.hid (show LN w1.heap.size (w4.setCell ⟨pp,4,none⟩ (.slice A4 (vs.length+r.ts.length) C4)) p.m.n (some ⟨sb,0,none⟩) C2 rs from hl4.far hb4 (by decide) (by decide) (by decide));have abw:=Lib.hid (show ∀ b,rowOf A4 b→w2.heap.size≤b from fun b hb=>(Jq b hb).elim (tZ.out b) (fun h=>by omega));have YJ:w2.heap.size≤(w4.setCell ⟨pp,4,none⟩ (.slice A4 (vs.length+r.ts.length) C4)).heap.size:=by
    have:=hg4.size
    rw[size_setCell];omega
   have abx:=Lib.hid YJ;clear hto hl4 EP hb4 hO4 hg4 Jq c4 YJ;go_wp2;go_roundw
   case rel=>exact⟨k+1,A4,C4,vs++r.ts,by omega,by go_num,oF.out.1,by rw[HST.out,List.map_append],abw.out,Kh.out,HU.out.trans oF.out.2,abx.out⟩
   case measure=>simp[intOf] <;> omega
  ·obtain rfl:k=rs.length:=by omega
   have hI:¬ ((rs.length:Nat):Int)<(rs.length:Int):=by omega
   have Cy:=Lib.hid kM;have hres:({ p with live:=vs.map Tb.ws }:PS)=countP p:=by
    unfold countP qD;rw[hvs,← Jh.out,List.take_of_length_le (by rw[kr];exact Nat.le_refl _)]
   have Mt:=Lib.hid hres;have HU:=Lib.hid hU;clear kM hfr qw hU hvs hres;go_wp2;go_end0
   have hp:=Cy.out;rw[Mt.out] at hp;exact⟨rfl,⟨_,hp⟩,HU.out⟩
end
def bW (p:PS) (i:Int):Bool:=decide (0≤i)&&decide (i<p.ts.length)&&!(p.dead.getD i.toNat true)&&(fE p.m.n (p.ts.getD i.toNat [])||decide (p.ts.getD i.toNat []∈p.live))
section
variable {w w':World} {B:Nat→Prop} {pp:Nat} {p:PS} {q:PA} {n:Nat} {t:Tb} {kp:Nat} {k:KS} {a:KA}
theorem PW.tat (h:PW B w pp p q) {i:Nat} {t:Tb} (hi:q.tt[i]?=some t):∃ b,q.tA=some ⟨b,0,none⟩∧b<w.heap.size∧w.cell? ⟨b,i*2,none⟩=some (.int .i64 p.m.n)∧w.cell? ⟨b,i*2+1,none⟩=some (.slice t.A t.ws.length t.C):=by
 obtain⟨b,h1,h2,h3⟩:=h.ts.get Tb.ak hi;have h4:=h3 0 (by omega);simp only[Tb.cells,(h.tt t (List.mem_of_getElem? hi)).N] at h4;exact⟨b,h1,h2,by simpa using h4,h3 1 (by omega)⟩
theorem kN (hP:PW B w pp p q) (hd:p.dead.length=p.ts.length) (hll:p.live.length≤2097152000000) (i:Int) :
  Calls Tryz.prog 66 #[.pointer (some ⟨pp,0,none⟩),.int .i64 i] w fun e w'=>e=.returned (.bool (bW p i))∧Same w w':=by
 have hpl:=hP.blk.lt;have c3:=hP.c3;have c4:=hP.c4;have c5:=hP.c5;have htl:=hP.tl;have hvl:q.vv.length≤1000000000000000000:=by rw[hP.vl];omega
 rw[htl] at c3;have HP:=Lib.hid hP;have Dw:=Lib.hid htl;have HD:=Lib.hid hd;rw[hd] at c5;obtain⟨RB,hRB⟩:∃ z,bW p i=z:=⟨_,rfl⟩;rw[hRB];have Vh:=Lib.hid hRB;clear hP htl hd hll hRB;go_enter Tryz.func66,Tryz.ntmps66;go_upto_region 1 with fail
 refine aJ (fun _=>False) [([0,1,2,3,4,5,6,7,8,9,10,11,12,13,14,15,16,17,18,19,20,21,22,23,24,25,26,27,28],29),([30,31,32,33,34,35,36,37,38,39,40,41],42),([43,44],45)] (by kernel_rfl) (by kernel_rfl) ?_;have hs:Same w w.drew:=(ah.refl _ _).drew;rw[aN];simp only[pick,List.map_cons,List.map_nil,List.getD_cons_zero,List.getD_cons_succ];by_cases h0:i≥0
 ·obtain⟨m,rfl⟩:=Int.eq_ofNat_of_zero_le h0;by_cases h1:(m:Int)<p.ts.length
  ·have hml:m<p.ts.length:=by omega
   have hP:=HP.out;obtain⟨t,ht⟩:∃ t,q.tt[m]?=some t:=⟨_,List.getElem?_eq_getElem (by rw[Dw.out];exact hml)⟩;obtain⟨d,hdd⟩:∃ d,p.dead[m]?=some d:=⟨_,List.getElem?_eq_getElem (by rw[HD.out];exact hml)⟩;have hte:p.ts[m]?=some t.ws:=by rw[← hP.te,List.getElem?_map,ht];rfl
   have sQ:=hP.tt t (List.mem_of_getElem? ht);obtain⟨tb,htb,Jr,t0,t1⟩:=hP.tat ht;obtain⟨db,hdb,TK,d0⟩:=hP.ds.dQ (c:=fun b:Bool=>.bool b) hdd;rw[htb] at c3;rw[hdb] at c5;have hic:=fun w' (hs:Same w w')=>j4 (sQ.same hs)
   have hin:=fun w' (hs:Same w w')=>nO (C:=q.vC) (⟨(hP.same hs).vs.sl Tb.ak,(hP.same hs).vt⟩:TL w' p.m.n q.vA q.vv) (sQ.same hs) hvl
   rw[hP.ve] at hin;have hB:(!d&&(fE p.m.n t.ws||decide (t.ws∈p.live)))=RB:=by
    rw[← Vh.out];unfold bW;rw[Int.toNat_natCast,List.getD_eq_getElem?_getD,List.getD_eq_getElem?_getD,hdd,hte];simp[hml]
   obtain⟨cb,hcb⟩:∃ z,fE p.m.n t.ws=z:=⟨_,rfl⟩;obtain⟨ib,hib⟩:∃ z,decide (t.ws∈p.live)=z:=⟨_,rfl⟩;rw[hcb] at hic hB;rw[hib] at hin hB;unfold Tb.val at hic hin;rw[sQ.N] at hic hin;have FW:=Lib.hid hic;have zR:=Lib.hid hin;clear hP ht hte sQ hic hin hcb hib hdd htb hdb hvl;cases d with
   | true =>
    simp at hB;subst hB;repeat go_big_quiet_step (fail)
    rw[aA];rw[bV];rotate_left
    ·rfl
    rw[aN];simp only[pick,List.map_cons,List.map_nil,List.getD_cons_zero,List.getD_cons_succ,Act.put,List.setIfInBounds_toArray,List.set_cons_succ,List.set_cons_zero];repeat go_big_quiet_step (fail)
    rw[aA];rw[bV];rotate_left
    ·rfl
    rw[aT];simp only[pick,List.map_cons,List.map_nil,List.getD_cons_zero,List.getD_cons_succ,Act.put,List.setIfInBounds_toArray,List.set_cons_succ,List.set_cons_zero];repeat go_big_quiet_step (fail)
    rw[aA];go_wp2;go_ret;exact⟨rfl,hs⟩
   | false =>
    repeat go_big_quiet_step (fail)
    refine wpQuiet_nil ?_;refine cu (by rfl) fun K hK=>?_
    go_simp;refine(FW.out _ hs).mono ?_;rintro e w2 ⟨rfl,hs2⟩;have kI:=hs.trans hs2 (fun _ _ h=>h);refine hK _ _ (aZ.bu (ah.mono kI (fun _ _ h=>h.elim))) ?_;clear hK K;have HS2:=Lib.hid kI;clear hs hs2 kI;rw[aN];simp only[pick,List.map_cons,List.map_nil,List.getD_cons_zero,List.getD_cons_succ];cases cb with
    | true =>
     simp at hB;subst hB;repeat go_big_quiet_step (fail)
     rw[aA];rw[bV];rotate_left
     ·rfl
     rw[aT];simp only[pick,List.map_cons,List.map_nil,List.getD_cons_zero,List.getD_cons_succ,Act.put,List.setIfInBounds_toArray,List.set_cons_succ,List.set_cons_zero];repeat go_big_quiet_step (fail)
     rw[aA];go_wp2;go_ret;exact⟨rfl,HS2.out⟩
    | false =>
     simp at hB;subst hB;repeat go_big_quiet_step (fail)
     refine wpQuiet_nil ?_;refine cu (by rfl) fun K hK=>?_
     go_simp;refine(zR.out _ HS2.out).mono ?_;rintro e w3 ⟨rfl,hs3⟩;have dY:=Lib.hid (HS2.out.trans hs3 (fun _ _ h=>h));refine hK _ _ (aZ.bu (ah.mono dY.out (fun _ _ h=>h.elim))) ?_;clear hK K hs3;rw[aT];simp only[pick,List.map_cons,List.map_nil,List.getD_cons_zero,List.getD_cons_succ];repeat go_big_quiet_step (fail)
     rw[aA];go_wp2;go_ret;exact⟨rfl,dY.out⟩
  ·have hB:RB=false:=by
    rw[← Vh.out];unfold bW;simp[h1]
   subst hB;repeat go_big_quiet_step (fail)
   rw[aA];rw[bV];rotate_left
   ·rfl
   rw[aN];simp only[pick,List.map_cons,List.map_nil,List.getD_cons_zero,List.getD_cons_succ,Act.put,List.setIfInBounds_toArray,List.set_cons_succ,List.set_cons_zero];repeat go_big_quiet_step (fail)
   rw[aA];rw[bV];rotate_left
   ·rfl
   rw[aT];simp only[pick,List.map_cons,List.map_nil,List.getD_cons_zero,List.getD_cons_succ,Act.put,List.setIfInBounds_toArray,List.set_cons_succ,List.set_cons_zero];repeat go_big_quiet_step (fail)
   rw[aA];go_wp2;go_ret;exact⟨rfl,hs⟩
 ·have hB:RB=false:=by
   rw[← Vh.out];unfold bW;simp[h0]
  subst hB;repeat go_big_quiet_step (fail)
  rw[aA];rw[bV];rotate_left
  ·rfl
  rw[aN];simp only[pick,List.map_cons,List.map_nil,List.getD_cons_zero,List.getD_cons_succ,Act.put,List.setIfInBounds_toArray,List.set_cons_succ,List.set_cons_zero];repeat go_big_quiet_step (fail)
  rw[aA];rw[bV];rotate_left
  ·rfl
  rw[aT];simp only[pick,List.map_cons,List.map_nil,List.getD_cons_zero,List.getD_cons_succ,Act.put,List.setIfInBounds_toArray,List.set_cons_succ,List.set_cons_zero];repeat go_big_quiet_step (fail)
  rw[aA];go_wp2;go_ret;exact⟨rfl,hs⟩
end
section
variable {w w':World} {B:Nat→Prop} {pp:Nat} {p:PS} {q:PA} {n:Nat} {t:Tb} {kp:Nat} {k:KS} {a:KA}
theorem PW.uy {A2:Option Addr} {C2:Nat} {rs:List Int} (h:PW B w pp p q) (hf:ah (fun b=>b=pp∨rowOf q.rA b) w w') (hb:ax w' pp 58 (fZ { p with refs:=rs } { q with rA:=A2,rC:=C2 }))
  (ho:Row1 w' 28 rc A2 rs.length C2 rs) (hn:∀ b,rowOf A2 b→rowOf q.rA b∨w.heap.size≤b) (hB:∀ b,B b→b<w.heap.size) :
  PW B w' pp { p with refs:=rs } { q with rA:=A2,rC:=C2 }∧Up B w w':=by
 have hS:∀ b,(b=pp∨rowOf q.rA b)→ML pp q b:=fun b hb=>hb.elim .inl (fun h=>.inr (.inl h))
 have tk:∀ t,TW w p.m.n t→TW w' p.m.n t:=fun t ht=>ht.PX hf h.blk (by decide) h.refs (by decide) (fun _ h=>h)
 have hM:∀ b,lM q.mp q.b b→¬ (b=pp∨rowOf q.rA b):=by
  rintro b hm (hb | hb)
  ·subst hb;rcases hm with hm | ⟨x,hx,hm⟩ | ⟨x,hx,hm⟩ | ⟨x,hx,hm⟩
   ·have:=h.blk
    rw[hm] at this;exact absurd (ax.inj this h.m.blk).1 (by decide)
   ·exact h.m.ord.av h.blk (by decide) x hx hm
   ·exact h.m.hs.av h.blk (by decide) x hx hm
   ·exact h.m.tr.av h.blk (by decide) x hx hm
  ·exact h.m.aL h.refs (by decide) (by decide) (by decide) b hb hm
 refine⟨⟨hb,h.k.ag hf (fun b hk hs=>h.kl b (hS b hs) hk),h.m.ag hf hM (fun r hr b hrb hs=>?_),ho,h.ts.ag hf (by
   rintro x hx (hs | hs)
   ·exact h.ts.av h.blk (by decide) x hx hs
   ·exact h.ts.aL h.refs (by decide) _ ⟨x,hx,rfl⟩ hs),fun t ht=>tk t (h.tt t ht),h.te,h.vs.ag hf (by
   rintro x hx (hs | hs)
   ·exact h.vs.av h.blk (by decide) x hx hs
   ·exact h.vs.aL h.refs (by decide) _ ⟨x,hx,rfl⟩ hs),fun t ht=>tk t (h.vt t ht),h.ve,h.ds.ag hf (by
   rintro x hx (hs | hs)
   ·exact h.ds.av h.blk (by decide) x hx hs
   ·exact h.ds.aL h.refs (by decide) _ ⟨x,hx,rfl⟩ hs),?_,?_,?_⟩,hf.mono (fun b _ hb=>h.base b (.inr (hS b hb)))⟩
 ·obtain⟨x,hx,rfl⟩:=hrb;rcases hs with hs | hs
  ·exact(h.m.tw r hr).own.av h.blk (by decide) x hx hs
  ·exact(h.m.tw r hr).own.aL h.refs (by decide) _ ⟨x,hx,rfl⟩ hs
 ·rintro b (hb | hb | hb | hb | hb | hb) hk
  ·exact h.kl b ((.inl hb)) hk
  ·rcases hn b hb with h1 | h1
   ·exact h.kl b (.inr (.inl h1)) hk
   ·have:=h.k.lt hk
    omega
  ·exact h.kl b (.inr (.inr (.inl hb))) hk
  ·exact h.kl b (.inr (.inr (.inr (.inl hb)))) hk
  ·exact h.kl b (.inr (.inr (.inr (.inr (.inl hb))))) hk
  ·exact h.kl b (.inr (.inr (.inr (.inr (.inr (hb)))))) hk
 ·exact h.tv
 ·rintro b (hb | hb | hb | hb | hb | hb | hb)
  ·exact h.base b (.inl hb)
  ·exact h.base b (.inr ((.inl hb)))
  ·rcases hn b hb with h1 | h1
   ·exact h.base b (.inr (.inr (.inl h1)))
   ·exact fun hx=>by have:=hB b hx;omega
  ·exact h.base b (.inr (.inr (.inr (.inl hb))))
  ·exact h.base b (.inr (.inr (.inr (.inr (.inl hb)))))
  ·exact h.base b (.inr (.inr (.inr (.inr (.inr (.inl hb))))))
  ·exact h.base b (.inr (.inr (.inr (.inr (.inr (.inr (hb)))))))
theorem PW.YK {A2:Option Addr} {C2:Nat} {us:List Tb} (h:PW B w pp p q) (hf:ah (fun b=>b=pp∨rowOf q.tA b) w w') (hb:ax w' pp 58 (fZ { p with ts:=us.map Tb.ws } { q with tA:=A2,tC:=C2,tt:=us }))
  (ho:Go.Tk.Own w' 108 2 Tb.cells A2 us.length C2 us) (ht:∀ t∈us,TW w p.m.n t) (hn:∀ b,rowOf A2 b→rowOf q.tA b∨w.heap.size≤b) (hB:∀ b,B b→b<w.heap.size) :
  PW B w' pp { p with ts:=us.map Tb.ws } { q with tA:=A2,tC:=C2,tt:=us }∧Up B w w':=by
 have hS:∀ b,(b=pp∨rowOf q.tA b)→ML pp q b:=fun b hb=>hb.elim .inl (fun h=>.inr (.inr (.inl h)))
 have tk:∀ t,TW w p.m.n t→TW w' p.m.n t:=fun t ht=>ht.PX hf h.blk (by decide) h.ts (by decide) (fun _ h=>h)
 have hM:∀ b,lM q.mp q.b b→¬ (b=pp∨rowOf q.tA b):=by
  rintro b hm (hb | hb)
  ·subst hb;rcases hm with hm | ⟨x,hx,hm⟩ | ⟨x,hx,hm⟩ | ⟨x,hx,hm⟩
   ·have:=h.blk
    rw[hm] at this;exact absurd (ax.inj this h.m.blk).1 (by decide)
   ·exact h.m.ord.av h.blk (by decide) x hx hm
   ·exact h.m.hs.av h.blk (by decide) x hx hm
   ·exact h.m.tr.av h.blk (by decide) x hx hm
  ·exact h.m.aL h.ts (by decide) (by decide) (by decide) b hb hm
 refine⟨⟨hb,h.k.ag hf (fun b hk hs=>h.kl b (hS b hs) hk),h.m.ag hf hM (fun r hr b hrb hs=>?_),h.refs.ag hf (by
   rintro x hx (hs | hs)
   ·exact h.refs.av h.blk (by decide) x hx hs
   ·exact h.refs.aL h.ts (by decide) _ ⟨x,hx,rfl⟩ hs),ho,fun t hm=>tk t (ht t hm),rfl,h.vs.ag hf (by
   rintro x hx (hs | hs)
   ·exact h.vs.av h.blk (by decide) x hx hs
   ·exact h.tv _ hs ⟨x,hx,rfl⟩),fun t ht=>tk t (h.vt t ht),h.ve,h.ds.ag hf (by
   rintro x hx (hs | hs)
   ·exact h.ds.av h.blk (by decide) x hx hs
   ·exact h.ds.aL h.ts (by decide) _ ⟨x,hx,rfl⟩ hs),?_,?_,?_⟩,hf.mono (fun b _ hb=>h.base b (.inr (hS b hb)))⟩
 ·obtain⟨x,hx,rfl⟩:=hrb;rcases hs with hs | hs
  ·exact(h.m.tw r hr).own.av h.blk (by decide) x hx hs
  ·exact(h.m.tw r hr).own.aL h.ts (by decide) _ ⟨x,hx,rfl⟩ hs
 ·rintro b (hb | hb | hb | hb | hb | hb) hk
  ·exact h.kl b ((.inl hb)) hk
  ·exact h.kl b (.inr (.inl hb)) hk
  ·rcases hn b hb with h1 | h1
   ·exact h.kl b (.inr (.inr (.inl h1))) hk
   ·have:=h.k.lt hk
    omega
  ·exact h.kl b (.inr (.inr (.inr (.inl hb)))) hk
  ·exact h.kl b (.inr (.inr (.inr (.inr (.inl hb))))) hk
  ·exact h.kl b (.inr (.inr (.inr (.inr (.inr (hb)))))) hk
 ·intro b hb hv;rcases hn b hb with h1 | h1
  ·exact h.tv b h1 hv
  ·have:=dV h.vs hv
   omega
 ·rintro b (hb | hb | hb | hb | hb | hb | hb)
  ·exact h.base b (.inl hb)
  ·exact h.base b (.inr ((.inl hb)))
  ·exact h.base b (.inr (.inr (.inl hb)))
  ·rcases hn b hb with h1 | h1
   ·exact h.base b (.inr (.inr (.inr (.inl h1))))
   ·exact fun hx=>by have:=hB b hx;omega
  ·exact h.base b (.inr (.inr (.inr (.inr (.inl hb)))))
  ·exact h.base b (.inr (.inr (.inr (.inr (.inr (.inl hb))))))
  ·exact h.base b (.inr (.inr (.inr (.inr (.inr (.inr (hb)))))))
theorem PW.Rn {A2:Option Addr} {C2:Nat} {ds:List Bool} (h:PW B w pp p q) (hf:ah (fun b=>b=pp∨rowOf q.dA b) w w') (hb:ax w' pp 58 (fZ { p with dead:=ds } { q with dA:=A2,dC:=C2 }))
  (ho:Ma w' A2 ds.length C2 ds) (hn:∀ b,rowOf A2 b→rowOf q.dA b∨w.heap.size≤b) (hB:∀ b,B b→b<w.heap.size) :
  PW B w' pp { p with dead:=ds } { q with dA:=A2,dC:=C2 }∧Up B w w':=by
 have hS:∀ b,(b=pp∨rowOf q.dA b)→ML pp q b:=fun b hb=>hb.elim .inl (fun h=>.inr (.inr (.inr (.inr (.inl h)))))
 have tk:∀ t,TW w p.m.n t→TW w' p.m.n t:=fun t ht=>ht.PX hf h.blk (by decide) h.ds (by decide) (fun _ h=>h)
 have hM:∀ b,lM q.mp q.b b→¬ (b=pp∨rowOf q.dA b):=by
  rintro b hm (hb | hb)
  ·subst hb;rcases hm with hm | ⟨x,hx,hm⟩ | ⟨x,hx,hm⟩ | ⟨x,hx,hm⟩
   ·have:=h.blk
    rw[hm] at this;exact absurd (ax.inj this h.m.blk).1 (by decide)
   ·exact h.m.ord.av h.blk (by decide) x hx hm
   ·exact h.m.hs.av h.blk (by decide) x hx hm
   ·exact h.m.tr.av h.blk (by decide) x hx hm
  ·exact h.m.aL h.ds (by decide) (by decide) (by decide) b hb hm
 refine⟨⟨hb,h.k.ag hf (fun b hk hs=>h.kl b (hS b hs) hk),h.m.ag hf hM (fun r hr b hrb hs=>?_),h.refs.ag hf (by
   rintro x hx (hs | hs)
   ·exact h.refs.av h.blk (by decide) x hx hs
   ·exact h.refs.aL h.ds (by decide) _ ⟨x,hx,rfl⟩ hs),h.ts.ag hf (by
   rintro x hx (hs | hs)
   ·exact h.ts.av h.blk (by decide) x hx hs
   ·exact h.ts.aL h.ds (by decide) _ ⟨x,hx,rfl⟩ hs),fun t ht=>tk t (h.tt t ht),h.te,h.vs.ag hf (by
   rintro x hx (hs | hs)
   ·exact h.vs.av h.blk (by decide) x hx hs
   ·exact h.vs.aL h.ds (by decide) _ ⟨x,hx,rfl⟩ hs),fun t ht=>tk t (h.vt t ht),h.ve,ho,?_,?_,?_⟩,hf.mono (fun b _ hb=>h.base b (.inr (hS b hb)))⟩
 ·obtain⟨x,hx,rfl⟩:=hrb;rcases hs with hs | hs
  ·exact(h.m.tw r hr).own.av h.blk (by decide) x hx hs
  ·exact(h.m.tw r hr).own.aL h.ds (by decide) _ ⟨x,hx,rfl⟩ hs
 ·rintro b (hb | hb | hb | hb | hb | hb) hk
  ·exact h.kl b ((.inl hb)) hk
  ·exact h.kl b (.inr (.inl hb)) hk
  ·exact h.kl b (.inr (.inr (.inl hb))) hk
  ·exact h.kl b (.inr (.inr (.inr (.inl hb)))) hk
  ·rcases hn b hb with h1 | h1
   ·exact h.kl b (.inr (.inr (.inr (.inr (.inl h1))))) hk
   ·have:=h.k.lt hk
    omega
  ·exact h.kl b (.inr (.inr (.inr (.inr (.inr (hb)))))) hk
 ·exact h.tv
 ·rintro b (hb | hb | hb | hb | hb | hb | hb)
  ·exact h.base b (.inl hb)
  ·exact h.base b (.inr ((.inl hb)))
  ·exact h.base b (.inr (.inr (.inl hb)))
  ·exact h.base b (.inr (.inr (.inr (.inl hb))))
  ·exact h.base b (.inr (.inr (.inr (.inr (.inl hb)))))
  ·rcases hn b hb with h1 | h1
   ·exact h.base b (.inr (.inr (.inr (.inr (.inr (.inl h1))))))
   ·exact fun hx=>by have:=hB b hx;omega
  ·exact h.base b (.inr (.inr (.inr (.inr (.inr (.inr (hb)))))))
end
def rV (M:MS) (v:Int) (z:List Nat):Bool:=decide (xQ M.n M.ord z<0)||decide (dU M.ord v<dU M.ord (xQ M.n M.ord z))
def oJ (M:MS) (v:Int) (lo hi:List Nat):MS×List Nat×Int :=
 if v<0∨(M.n:Int)≤v then (M,[],2)
 else if !(nQ M lo&&nQ M hi) then (M,[],3)
 else if !decide (lo=hi)&&!(rV M v lo&&rV M v hi) then (M,[],4)
 else ((jq M (qJ M.n v.toNat lo hi)).1,I6 (qJ M.n v.toNat lo hi) (jq M (qJ M.n v.toNat lo hi)).2,(jq M (qJ M.n v.toNat lo hi)).2)
theorem Cz {w:World} {n v:Nat} {lo hi:List Nat} {A:Option Addr} {C:Nat} (hn:n≤16) (h:dN w A (qJ n v lo hi).length C (qJ n v lo hi)):TW w n ⟨n,A,C,qJ n v lo hi⟩:=⟨rfl,h,gG hn,fun x hx=>kX x hx⟩
section
variable {w w':World} {mp:Nat} {M:MS} {a:MA} {n:Nat} {lo hi:Tb}
theorem MW.mW (h:MW w mp M a) {g:Nat} {cs:Array Value} (hb:ax w g 108 cs) {u v:Value}:MW ((w.setCell ⟨g,0,none⟩ u).setCell ⟨g,1,none⟩ v) mp M a:=by
 refine h.ag (S:=fun b=>b=g) (((ah.refl (fun b=>b=g) w).set 0 u rfl).set 1 v rfl) ?_ ?_
 ·rintro b (hk | hk | hk | hk) rfl
  ·subst hk;exact absurd (ax.inj h.blk hb).1 (by decide)
  ·obtain⟨x,hx,hxb⟩:=hk;exact h.ord.av hb (by decide) x hx hxb
  ·obtain⟨x,hx,hxb⟩:=hk;exact h.hs.av hb (by decide) x hx hxb
  ·obtain⟨x,hx,hxb⟩:=hk;exact h.tr.av hb (by decide) x hx hxb
 ·rintro q hq b ⟨x,hx,hxb⟩ rfl;exact(h.tw q hq).own.av hb (by decide) x hx hxb
end
section
variable {w w':World} {mp:Nat} {M:MS} {a:MA} {n:Nat} {lo hi:Tb}
def aby (w:World) (mp:Nat) (M:MS) (a:MA) (R:MS×List Nat×Int) (e:Ending) (w':World):Prop :=
 ∃ A C,e=.returned (.tuple #[.agg #[.int .i64 (BS M.n R.2.2),.slice A R.2.1.length C],.int .i64 R.2.2])∧dN w' A R.2.1.length C R.2.1∧bQ w.heap.size A∧∃ a',MW w' mp R.1 a'∧iW mp w a w' a'
theorem zZ (hM:MW w mp M a) (ho:eY M) (v:Int) (hlo:TW w M.n lo) (hhi:TW w M.n hi) (hc:rU M) (hl:M.held.length<1500000) :
  Calls Tryz.prog 105 #[.pointer (some ⟨mp,0,none⟩),.int .i64 v,lo.val,hi.val] w (aby w mp M a (oJ M v lo.ws hi.ws)):=by
 have HM:=Lib.hid hM;have HO:=Lib.hid ho;have hn16:=hM.n16;obtain⟨la,hla⟩:∃ z,nQ M lo.ws=z:=⟨_,rfl⟩;obtain⟨lb,hlb⟩:∃ z,nQ M hi.ws=z:=⟨_,rfl⟩;obtain⟨ua,Vk⟩:∃ z,rV M v lo.ws=z:=⟨_,rfl⟩;obtain⟨ub,hub⟩:∃ z,rV M v hi.ws=z:=⟨_,rfl⟩;obtain⟨sb,hsb⟩:∃ z,decide (lo.ws=hi.ws)=z:=⟨_,rfl⟩;have hil:=fun w' (hs:Same w w')=>wE (hM.same hs) ho (hlo.same hs)
 have hih:=fun w' (hs:Same w w')=>wE (hM.same hs) ho (hhi.same hs)
 have hal:=fun w' (hs:Same w w')=>yL (hM.same hs) ho v (hlo.same hs)
 have hah:=fun w' (hs:Same w w')=>yL (hM.same hs) ho v (hhi.same hs)
 have hsm:=fun w' (hs:Same w w')=>fJ lo.N lo.A lo.ws.length lo.C lo.ws hi.N hi.A hi.ws.length hi.C hi.ws w' (hlo.same hs).ok.wl (hhi.same hs).ok.wl (by rw[hlo.fm.len];have:=iD hlo.fm.n16;omega)
 have hse:sm lo.N hi.N lo.ws hi.ws=sb:=by
  unfold sm;rw[hlo.N,hhi.N,← hsb];simp
 obtain⟨R,hR⟩:∃ z,oJ M v lo.ws hi.ws=z:=⟨_,rfl⟩;rw[hR];unfold oJ at hR
 change ∀ w',Same w w'→Calls _ _ _ _ (fun e w''=>e=.returned (.bool (rV M v lo.ws))∧Same w' w'') at hal
 change ∀ w',Same w w'→Calls _ _ _ _ (fun e w''=>e=.returned (.bool (rV M v hi.ws))∧Same w' w'') at hah
 rw[hla,hlb,Vk,hub,hsb] at hR;rw[hla] at hil;rw[hlb] at hih;rw[Vk] at hal;rw[hub] at hah;simp only[hse] at hsm;have hif:=fun (m:Nat) (hm:m<M.n) w' (hs:Same w w')=>GG m hm (hlo.same hs) (hhi.same hs)
 unfold Tb.val at hil hih hal hah hif ⊢;have hN1:=hlo.N;have Mo:=hhi.N;rw[hN1] at hil hal hif hsm ⊢;rw[Mo] at hih hah hif hsm ⊢;have HIL:=Lib.hid hil;have HIH:=Lib.hid hih;have ZA:=Lib.hid hal;have HAH:=Lib.hid hah;have zQ:=Lib.hid hsm;have HIF:=Lib.hid hif;have PY:=fun (m:Nat) w' (A:Option Addr) (C:Nat) (hs:Same w w') (ht:TW w' M.n ⟨M.n,A,C,qJ M.n m lo.ws hi.ws⟩)=>EO (hM.same hs) ho ht hc hl
 unfold Tb.val at PY;simp only at PY;have PZ:=Lib.hid PY;have HR:=Lib.hid hR;have HC:=Lib.hid hc;have HL:=Lib.hid hl;have hmp:=hM.blk.lt;have c0:=hM.c0;clear hM ho hlo hhi hc hl hil hih hal hah hsm hif PY hR hla hlb Vk hub hsb hse hN1 Mo;go_enter Tryz.func105,Tryz.ntmps105;go_upto_region 1 with fail
 refine ai fun w1 hw1=>?_
 have hs1:Same w w1:=by rw[hw1];exact(((ah.refl _ _).alloc _).alloc _).alloc _
 have hB1:ax w1 w.heap.size 108 #[.int .i64 M.n,.slice lo.A lo.ws.length lo.C]:=by
  rw[hw1];exact(((ax.new w 108 #[.int .i64 M.n,.slice lo.A lo.ws.length lo.C]).alloc _).alloc _)
 have hB2:ax w1 (w.heap.size+1) 108 #[.int .i64 M.n,.slice hi.A hi.ws.length hi.C]:=by
  rw[hw1]
  have:=((ax.new (w.alloc (.cells #[.int .i64 M.n,.slice lo.A lo.ws.length lo.C] 108)) 108 #[.int .i64 M.n,.slice hi.A hi.ws.length hi.C]).alloc (.cells #[.int .i64 0,.slice none 0 0] 108))
  simpa using this
 have fV:ax w1 (w.heap.size+1+1) 108 #[.int .i64 0,.slice none 0 0]:=by
  rw[hw1]
  have:=ax.new ((w.alloc (.cells #[.int .i64 M.n,.slice lo.A lo.ws.length lo.C] 108)).alloc (.cells #[.int .i64 M.n,.slice hi.A hi.ws.length hi.C] 108)) 108 #[.int .i64 0,.slice none 0 0]
  simpa using this
 obtain⟨T1,hT1⟩:∃ z,z=w.heap.size:=⟨_,rfl⟩;obtain⟨T2,EN⟩:∃ z,z=w.heap.size+1:=⟨_,rfl⟩;obtain⟨R8,hR8⟩:∃ z,z=w.heap.size+1+1:=⟨_,rfl⟩;have o6:w.heap.size≤R8:=by omega
 have acS:w.heap.size≤T1:=by omega
 have acT:w.heap.size≤T2:=by omega
 have hm1:mp<w.heap.size:=hmp;have Tv:T1+1=T2:=by omega
 have hR2:T2+1=R8:=by omega
 have hn1:T1≠R8:=by omega
 have hn2:T2≠R8:=by omega
 simp only[← hT1,Tv,hR2] at hB1 hB2 fV;simp only[← hT1,Tv,hR2];have HS:=Lib.hid hs1;have HB1:=Lib.hid hB1;have HB2:=Lib.hid hB2;have bP:=Lib.hid fV;clear hw1 hs1 hB1 hB2 fV hT1 EN hR8 Tv hR2 c0 hmp;have x0:=HB1.out.cell 0;have x1:=HB1.out.cell 1;have xl:=HB1.out.lt;have y0:=HB2.out.cell 0;have y1:=HB2.out.cell 1;have yl:=HB2.out.lt;have r0:=bP.out.cell 0;have r1:=bP.out.cell 1;have rl:=bP.out.lt;have g0:=bP.out.free 0;have g1:=bP.out.free 1;have c0:=(HM.out.same HS.out).c0;have hmp:=(HM.out.same HS.out).blk.lt;simp at x0 x1 y0 y1 r0 r1;by_cases hv:v<0
 ·have hR:=HR.out;rw[if_pos (.inl hv)] at hR;subst hR;go_wp2;refine bE fun we bY=>?_
  have dx:ax we R8 108 #[.int .i64 0,.slice none 0 0]:=by
   rw[bY]
   have:=(bP.out.set 0 (.int .i64 0)).set 1 (.slice none 0 0)
   simpa using this
  have jl:Same w we:=by rw[bY];exact(HS.out.aj 0 _ o6).aj 1 _ o6
  have hr0:=dx.cell 0;have hr1:=dx.cell 1;simp at hr0 hr1;clear bY dx;refine bodyPost_ret (v:=.tuple #[.agg #[.int .i64 0,.slice none 0 0],.int .i64 2]) (by simp[results,Tryz.results105,go_sem,hr0,hr1]) rfl ?_;exact⟨none,0,rfl,Own.nil _ _ _ _,aS _,a,HM.out.same jl,iW.same jl⟩
 by_cases hv2:v≥(M.n:Int)
 ·have hR:=HR.out;rw[if_pos (.inr hv2)] at hR;subst hR;go_wp2;refine bE fun we bY=>?_
  have dx:ax we R8 108 #[.int .i64 0,.slice none 0 0]:=by
   rw[bY]
   have:=(bP.out.set 0 (.int .i64 0)).set 1 (.slice none 0 0)
   simpa using this
  have jl:Same w we:=by rw[bY];exact(HS.out.aj 0 _ o6).aj 1 _ o6
  have hr0:=dx.cell 0;have hr1:=dx.cell 1;simp at hr0 hr1;clear bY dx;refine bodyPost_ret (v:=.tuple #[.agg #[.int .i64 0,.slice none 0 0],.int .i64 2]) (by simp[results,Tryz.results105,go_sem,hr0,hr1]) rfl ?_;exact⟨none,0,rfl,Own.nil _ _ _ _,aS _,a,HM.out.same jl,iW.same jl⟩
 have hR:=HR.out;rw[if_neg (by omega)] at hR;replace HR:=Lib.hid hR;clear hR;go_wp2_with (fail)
 refine(HIL.out _ HS.out).mono ?_;rintro e w2 ⟨rfl,hs2⟩;replace HB1:=Lib.hid (HB1.out.ag hs2 id);replace HB2:=Lib.hid (HB2.out.ag hs2 id);replace bP:=Lib.hid (bP.out.ag hs2 id);replace HS:=Lib.hid (HS.out.trans hs2 (fun _ _ h=>h));clear x0 x1 xl y0 y1 yl r0 r1 rl g0 g1 c0 hmp;clear hs2;have x0:=HB1.out.cell 0;have x1:=HB1.out.cell 1;have xl:=HB1.out.lt;have y0:=HB2.out.cell 0;have y1:=HB2.out.cell 1;have yl:=HB2.out.lt;have r0:=bP.out.cell 0;have r1:=bP.out.cell 1;have rl:=bP.out.lt;have g0:=bP.out.free 0;have g1:=bP.out.free 1;have c0:=(HM.out.same HS.out).c0;have hmp:=(HM.out.same HS.out).blk.lt;simp at x0 x1 y0 y1 r0 r1;cases la with
 | false =>
  have hR:=HR.out;rw[if_pos (by simp)] at hR;subst hR;go_wp2;refine bE fun we bY=>?_
  have dx:ax we R8 108 #[.int .i64 0,.slice none 0 0]:=by
   rw[bY]
   have:=(bP.out.set 0 (.int .i64 0)).set 1 (.slice none 0 0)
   simpa using this
  have jl:Same w we:=by rw[bY];exact(HS.out.aj 0 _ o6).aj 1 _ o6
  have hr0:=dx.cell 0;have hr1:=dx.cell 1;simp at hr0 hr1;clear bY dx;refine bodyPost_ret (v:=.tuple #[.agg #[.int .i64 0,.slice none 0 0],.int .i64 3]) (by simp[results,Tryz.results105,go_sem,hr0,hr1]) rfl ?_;exact⟨none,0,rfl,Own.nil _ _ _ _,aS _,a,HM.out.same jl,iW.same jl⟩
 | true =>
  go_wp2_with (fail)
  refine(HIH.out _ HS.out).mono ?_;rintro e w3 ⟨rfl,hs3⟩;replace HB1:=Lib.hid (HB1.out.ag hs3 id);replace HB2:=Lib.hid (HB2.out.ag hs3 id);replace bP:=Lib.hid (bP.out.ag hs3 id);replace HS:=Lib.hid (HS.out.trans hs3 (fun _ _ h=>h));clear x0 x1 xl y0 y1 yl r0 r1 rl g0 g1 c0 hmp;clear hs3;have x0:=HB1.out.cell 0;have x1:=HB1.out.cell 1;have xl:=HB1.out.lt;have y0:=HB2.out.cell 0;have y1:=HB2.out.cell 1;have yl:=HB2.out.lt;have r0:=bP.out.cell 0;have r1:=bP.out.cell 1;have rl:=bP.out.lt;have g0:=bP.out.free 0;have g1:=bP.out.free 1;have c0:=(HM.out.same HS.out).c0;have hmp:=(HM.out.same HS.out).blk.lt;simp at x0 x1 y0 y1 r0 r1;cases lb with
  | false =>
   have hR:=HR.out;rw[if_pos (by simp)] at hR;subst hR;go_wp2;refine bE fun we bY=>?_
   have dx:ax we R8 108 #[.int .i64 0,.slice none 0 0]:=by
    rw[bY]
    have:=(bP.out.set 0 (.int .i64 0)).set 1 (.slice none 0 0)
    simpa using this
   have jl:Same w we:=by rw[bY];exact(HS.out.aj 0 _ o6).aj 1 _ o6
   have hr0:=dx.cell 0;have hr1:=dx.cell 1;simp at hr0 hr1;clear bY dx;refine bodyPost_ret (v:=.tuple #[.agg #[.int .i64 0,.slice none 0 0],.int .i64 3]) (by simp[results,Tryz.results105,go_sem,hr0,hr1]) rfl ?_;exact⟨none,0,rfl,Own.nil _ _ _ _,aS _,a,HM.out.same jl,iW.same jl⟩
  | true =>
   have hR:=HR.out;rw[if_neg (by simp)] at hR;replace HR:=Lib.hid hR;clear hR;go_wp2_with (fail)
   refine(zQ.out _ HS.out).mono ?_;rintro e w4 ⟨rfl,hs4⟩;replace HB1:=Lib.hid (HB1.out.ag hs4 id);replace HB2:=Lib.hid (HB2.out.ag hs4 id);replace bP:=Lib.hid (bP.out.ag hs4 id);replace HS:=Lib.hid (HS.out.trans hs4 (fun _ _ h=>h));clear x0 x1 xl y0 y1 yl r0 r1 rl g0 g1 c0 hmp;clear hs4;have x0:=HB1.out.cell 0;have x1:=HB1.out.cell 1;have xl:=HB1.out.lt;have y0:=HB2.out.cell 0;have y1:=HB2.out.cell 1;have yl:=HB2.out.lt;have r0:=bP.out.cell 0;have r1:=bP.out.cell 1;have rl:=bP.out.lt;have g0:=bP.out.free 0;have g1:=bP.out.free 1;have c0:=(HM.out.same HS.out).c0;have hmp:=(HM.out.same HS.out).blk.lt;simp at x0 x1 y0 y1 r0 r1;have GH:=HR.out;clear HIL HIH zQ;obtain⟨m,rfl⟩:=Int.eq_ofNat_of_zero_le (show 0≤v by omega);have XO:m<M.n:=by omega
   simp only[Int.toNat_natCast] at GH;cases sb with
   | true =>
    rw[if_neg (by simp)] at GH;replace HR:=Lib.hid GH;clear GH;go_wp2_with (fail)
    refine(HIF.out m XO _ HS.out).mono ?_;rintro e w5 ⟨A5,C5,rfl,yM⟩;have hs5:=yM.2.2;have mX:=yM.1;have CE:bQ w.heap.size A5:=fun b hb=>Nat.le_trans HS.out.size (yM.2.1 b hb)
    have F6:=Lib.hid CE;have pz:=Lib.hid mX;clear yM mX CE;replace HB1:=Lib.hid (HB1.out.ag hs5 id);replace HB2:=Lib.hid (HB2.out.ag hs5 id);replace bP:=Lib.hid (bP.out.ag hs5 id);replace HS:=Lib.hid (HS.out.trans hs5 (fun _ _ h=>h));clear x0 x1 xl y0 y1 yl r0 r1 rl g0 g1;clear hs5;have x0:=HB1.out.cell 0;have x1:=HB1.out.cell 1;have xl:=HB1.out.lt;have y0:=HB2.out.cell 0;have y1:=HB2.out.cell 1;have yl:=HB2.out.lt;have r0:=bP.out.cell 0;have r1:=bP.out.cell 1;have rl:=bP.out.lt;have g0:=bP.out.free 0;have g1:=bP.out.free 1;simp at x0 x1 y0 y1 r0 r1;go_wp2_with (fail)
    have z8:TW (w5.alloc (.cells #[.int .i64 M.n,.slice A5 (qJ M.n m lo.ws hi.ws).length C5] 108)) M.n ⟨M.n,A5,C5,qJ M.n m lo.ws hi.ws⟩:=(Cz hn16 pz.out).same ((ah.refl _ _).alloc _);have hs6:Same w (w5.alloc (.cells #[.int .i64 M.n,.slice A5 (qJ M.n m lo.ws hi.ws).length C5] 108)):=HS.out.alloc _;have uu:=ax.new w5 108 #[.int .i64 M.n,.slice A5 (qJ M.n m lo.ws hi.ws).length C5];replace bP:=Lib.hid (bP.out.alloc (.cells #[.int .i64 M.n,.slice A5 (qJ M.n m lo.ws hi.ws).length C5] 108));have pE:w.heap.size≤w5.heap.size:=HS.out.size;have abz:w5.heap.size≠R8:=by omega
    generalize (w5.alloc (.cells #[.int .i64 M.n,.slice A5 (qJ M.n m lo.ws hi.ws).length C5] 108))=w6 at z8 hs6 uu bP ⊢;refine(PZ.out m w6 A5 C5 hs6 z8).mono ?_;rintro e w7 ⟨rfl,a7,YL,uZ⟩;have hnm:∀ g,w.heap.size≤g→¬ lM mp a g:=fun g hg hk=>by
     have:=HM.out.lt hk
     omega
    have Ac:=uu.ag uZ.ag (hnm _ pE);replace bP:=Lib.hid (bP.out.ag uZ.ag (hnm _ o6));have Js:=(z8.Jj (HM.out.same hs6) uZ.ag (fun _ h=>h)).own;clear x0 x1 xl y0 y1 yl r0 r1 rl g0 g1;have r0:=bP.out.cell 0;have r1:=bP.out.cell 1;have rl:=bP.out.lt;have g0:=bP.out.free 0;have g1:=bP.out.free 1;have t0:=Ac.cell 0;have t1:=Ac.cell 1;have tl:=Ac.lt;simp at r0 r1 t0 t1;have Ik:=Lib.hid ((iW.same hs6).trans uZ);have MM:=Lib.hid YL;have ER:=Lib.hid Js;clear uu Ac YL uZ Js z8 hs6 hnm;obtain⟨z,hz⟩:∃ z,qJ M.n m lo.ws hi.ws=z:=⟨_,rfl⟩;rw[hz] at MM HR t1 ER ⊢;clear hz PZ pz;obtain⟨⟨N7,E7⟩,YM⟩:∃ q,jq M z=q:=⟨_,rfl⟩;rw[YM] at MM HR ⊢;simp only at MM HR ⊢;clear YM;by_cases hE0:E7=0
    ·subst hE0;have hR:=HR.out;subst hR;go_wp2;refine bE fun we bY=>?_
     have dx:ax we R8 108 #[.int .i64 M.n,.slice A5 z.length C5]:=by
      rw[bY]
      have:=(bP.out.set 0 (.int .i64 M.n)).set 1 (.slice A5 z.length C5)
      simpa using this
     have xP:dN we A5 z.length C5 z:=by
      rw[bY];exact(Own.far (p:=⟨R8,0,none⟩) ER.out (fun x hx h=>Own.av ER.out bP.out (by decide) x hx h) _).far (p:=⟨R8,1,none⟩) (fun x hx h=>Own.av ER.out bP.out (by decide) x hx h) _
     have TM:iW mp w a we a7:=by
      rw[bY];exact⟨(Ik.out.ag.aj 0 _ o6).aj 1 _ o6,Ik.out.fp⟩
     have TP:MW we mp N7 a7:=by
      rw[bY];exact MM.out.mW bP.out
     have hr0:=dx.cell 0;have hr1:=dx.cell 1;simp at hr0 hr1;clear bY dx;refine bodyPost_ret (v:=.tuple #[.agg #[.int .i64 M.n,.slice A5 z.length C5],.int .i64 0]) (by simp[results,Tryz.results105,go_sem,hr0,hr1]) rfl ?_;exact⟨A5,C5,rfl,xP,F6.out,a7,TP,TM⟩
    ·have hR:=HR.out;have e1:I6 z E7=[]:=by unfold I6;rw[if_neg hE0]
     have e2:BS (M.n:Int) E7=0:=by unfold BS;rw[if_neg hE0]
     rw[e1] at hR;subst hR;have hb7:(E7 != 0)=true:=by simpa using hE0
     go_wp2;refine bE fun we bY=>?_
     have dx:ax we R8 108 #[.int .i64 0,.slice none 0 0]:=by
      rw[bY]
      have:=(bP.out.set 0 (.int .i64 0)).set 1 (.slice none 0 0)
      simpa using this
     have TM:iW mp w a we a7:=by
      rw[bY];exact⟨(Ik.out.ag.aj 0 _ o6).aj 1 _ o6,Ik.out.fp⟩
     have TP:MW we mp N7 a7:=by
      rw[bY];exact MM.out.mW bP.out
     have hr0:=dx.cell 0;have hr1:=dx.cell 1;simp at hr0 hr1;clear bY dx;refine bodyPost_ret (v:=.tuple #[.agg #[.int .i64 0,.slice none 0 0],.int .i64 E7]) (by simp[results,Tryz.results105,go_sem,hr0,hr1]) rfl ?_;exact⟨none,0,by simp only[e2,List.length_nil],Own.nil _ _ _ _,aS _,a7,TP,TM⟩
   | false =>
    go_wp2_with (fail)
    refine(ZA.out _ HS.out).mono ?_;rintro e w4a ⟨rfl,MN⟩;replace HB1:=Lib.hid (HB1.out.ag MN id);replace HB2:=Lib.hid (HB2.out.ag MN id);replace bP:=Lib.hid (bP.out.ag MN id);replace HS:=Lib.hid (HS.out.trans MN (fun _ _ h=>h));clear x0 x1 xl y0 y1 yl r0 r1 rl g0 g1;clear MN;have x0:=HB1.out.cell 0;have x1:=HB1.out.cell 1;have xl:=HB1.out.lt;have y0:=HB2.out.cell 0;have y1:=HB2.out.cell 1;have yl:=HB2.out.lt;have r0:=bP.out.cell 0;have r1:=bP.out.cell 1;have rl:=bP.out.lt;have g0:=bP.out.free 0;have g1:=bP.out.free 1;simp at x0 x1 y0 y1 r0 r1;cases ua with
    | false =>
     rw[if_pos (by simp)] at GH;subst GH;go_wp2;refine bE fun we bY=>?_
     have dx:ax we R8 108 #[.int .i64 0,.slice none 0 0]:=by
      rw[bY]
      have:=(bP.out.set 0 (.int .i64 0)).set 1 (.slice none 0 0)
      simpa using this
     have jl:Same w we:=by rw[bY];exact(HS.out.aj 0 _ o6).aj 1 _ o6
     have hr0:=dx.cell 0;have hr1:=dx.cell 1;simp at hr0 hr1;clear bY dx;refine bodyPost_ret (v:=.tuple #[.agg #[.int .i64 0,.slice none 0 0],.int .i64 4]) (by simp[results,Tryz.results105,go_sem,hr0,hr1]) rfl ?_;exact⟨none,0,rfl,Own.nil _ _ _ _,aS _,a,HM.out.same jl,iW.same jl⟩
    | true =>
     go_wp2_with (fail)
     refine(HAH.out _ HS.out).mono ?_;rintro e w4b ⟨rfl,MO⟩;replace HB1:=Lib.hid (HB1.out.ag MO id);replace HB2:=Lib.hid (HB2.out.ag MO id);replace bP:=Lib.hid (bP.out.ag MO id);replace HS:=Lib.hid (HS.out.trans MO (fun _ _ h=>h));clear x0 x1 xl y0 y1 yl r0 r1 rl g0 g1;clear MO;have x0:=HB1.out.cell 0;have x1:=HB1.out.cell 1;have xl:=HB1.out.lt;have y0:=HB2.out.cell 0;have y1:=HB2.out.cell 1;have yl:=HB2.out.lt;have r0:=bP.out.cell 0;have r1:=bP.out.cell 1;have rl:=bP.out.lt;have g0:=bP.out.free 0;have g1:=bP.out.free 1;simp at x0 x1 y0 y1 r0 r1;cases ub with
     | false =>
      rw[if_pos (by simp)] at GH;subst GH;go_wp2;refine bE fun we bY=>?_
      have dx:ax we R8 108 #[.int .i64 0,.slice none 0 0]:=by
       rw[bY]
       have:=(bP.out.set 0 (.int .i64 0)).set 1 (.slice none 0 0)
       simpa using this
      have jl:Same w we:=by rw[bY];exact(HS.out.aj 0 _ o6).aj 1 _ o6
      have hr0:=dx.cell 0;have hr1:=dx.cell 1;simp at hr0 hr1;clear bY dx;refine bodyPost_ret (v:=.tuple #[.agg #[.int .i64 0,.slice none 0 0],.int .i64 4]) (by simp[results,Tryz.results105,go_sem,hr0,hr1]) rfl ?_;exact⟨none,0,rfl,Own.nil _ _ _ _,aS _,a,HM.out.same jl,iW.same jl⟩
     | true =>
      rw[if_neg (by simp)] at GH;replace HR:=Lib.hid GH;clear GH;go_wp2_with (fail)
      refine(HIF.out m XO _ HS.out).mono ?_;rintro e w5 ⟨A5,C5,rfl,yM⟩;have hs5:=yM.2.2;have mX:=yM.1;have CE:bQ w.heap.size A5:=fun b hb=>Nat.le_trans HS.out.size (yM.2.1 b hb)
      have F6:=Lib.hid CE;have pz:=Lib.hid mX;clear yM mX CE;replace HB1:=Lib.hid (HB1.out.ag hs5 id);replace HB2:=Lib.hid (HB2.out.ag hs5 id);replace bP:=Lib.hid (bP.out.ag hs5 id);replace HS:=Lib.hid (HS.out.trans hs5 (fun _ _ h=>h));clear x0 x1 xl y0 y1 yl r0 r1 rl g0 g1;clear hs5;have x0:=HB1.out.cell 0;have x1:=HB1.out.cell 1;have xl:=HB1.out.lt;have y0:=HB2.out.cell 0;have y1:=HB2.out.cell 1;have yl:=HB2.out.lt;have r0:=bP.out.cell 0;have r1:=bP.out.cell 1;have rl:=bP.out.lt;have g0:=bP.out.free 0;have g1:=bP.out.free 1;simp at x0 x1 y0 y1 r0 r1;go_wp2_with (fail)
      have z8:TW (w5.alloc (.cells #[.int .i64 M.n,.slice A5 (qJ M.n m lo.ws hi.ws).length C5] 108)) M.n ⟨M.n,A5,C5,qJ M.n m lo.ws hi.ws⟩:=(Cz hn16 pz.out).same ((ah.refl _ _).alloc _);have hs6:Same w (w5.alloc (.cells #[.int .i64 M.n,.slice A5 (qJ M.n m lo.ws hi.ws).length C5] 108)):=HS.out.alloc _;have uu:=ax.new w5 108 #[.int .i64 M.n,.slice A5 (qJ M.n m lo.ws hi.ws).length C5];replace bP:=Lib.hid (bP.out.alloc (.cells #[.int .i64 M.n,.slice A5 (qJ M.n m lo.ws hi.ws).length C5] 108));have pE:w.heap.size≤w5.heap.size:=HS.out.size;have abz:w5.heap.size≠R8:=by omega
      generalize (w5.alloc (.cells #[.int .i64 M.n,.slice A5 (qJ M.n m lo.ws hi.ws).length C5] 108))=w6 at z8 hs6 uu bP ⊢;refine(PZ.out m w6 A5 C5 hs6 z8).mono ?_;rintro e w7 ⟨rfl,a7,YL,uZ⟩;have hnm:∀ g,w.heap.size≤g→¬ lM mp a g:=fun g hg hk=>by
       have:=HM.out.lt hk
       omega
      have Ac:=uu.ag uZ.ag (hnm _ pE);replace bP:=Lib.hid (bP.out.ag uZ.ag (hnm _ o6));have Js:=(z8.Jj (HM.out.same hs6) uZ.ag (fun _ h=>h)).own;clear x0 x1 xl y0 y1 yl r0 r1 rl g0 g1;have r0:=bP.out.cell 0;have r1:=bP.out.cell 1;have rl:=bP.out.lt;have g0:=bP.out.free 0;have g1:=bP.out.free 1;have t0:=Ac.cell 0;have t1:=Ac.cell 1;have tl:=Ac.lt;simp at r0 r1 t0 t1;have Ik:=Lib.hid ((iW.same hs6).trans uZ);have MM:=Lib.hid YL;have ER:=Lib.hid Js;clear uu Ac YL uZ Js z8 hs6 hnm;obtain⟨z,hz⟩:∃ z,qJ M.n m lo.ws hi.ws=z:=⟨_,rfl⟩;rw[hz] at MM HR t1 ER ⊢;clear hz PZ pz;obtain⟨⟨N7,E7⟩,YM⟩:∃ q,jq M z=q:=⟨_,rfl⟩;rw[YM] at MM HR ⊢;simp only at MM HR ⊢;clear YM;by_cases hE0:E7=0
      ·subst hE0;have hR:=HR.out;subst hR;go_wp2;refine bE fun we bY=>?_
       have dx:ax we R8 108 #[.int .i64 M.n,.slice A5 z.length C5]:=by
        rw[bY]
        have:=(bP.out.set 0 (.int .i64 M.n)).set 1 (.slice A5 z.length C5)
        simpa using this
       have xP:dN we A5 z.length C5 z:=by
        rw[bY];exact(Own.far (p:=⟨R8,0,none⟩) ER.out (fun x hx h=>Own.av ER.out bP.out (by decide) x hx h) _).far (p:=⟨R8,1,none⟩) (fun x hx h=>Own.av ER.out bP.out (by decide) x hx h) _
       have TM:iW mp w a we a7:=by
        rw[bY];exact⟨(Ik.out.ag.aj 0 _ o6).aj 1 _ o6,Ik.out.fp⟩
       have TP:MW we mp N7 a7:=by
        rw[bY];exact MM.out.mW bP.out
       have hr0:=dx.cell 0;have hr1:=dx.cell 1;simp at hr0 hr1;clear bY dx;refine bodyPost_ret (v:=.tuple #[.agg #[.int .i64 M.n,.slice A5 z.length C5],.int .i64 0]) (by simp[results,Tryz.results105,go_sem,hr0,hr1]) rfl ?_;exact⟨A5,C5,rfl,xP,F6.out,a7,TP,TM⟩
      ·have hR:=HR.out;have e1:I6 z E7=[]:=by unfold I6;rw[if_neg hE0]
       have e2:BS (M.n:Int) E7=0:=by unfold BS;rw[if_neg hE0]
       rw[e1] at hR;subst hR;have hb7:(E7 != 0)=true:=by simpa using hE0
       go_wp2;refine bE fun we bY=>?_
       have dx:ax we R8 108 #[.int .i64 0,.slice none 0 0]:=by
        rw[bY]
        have:=(bP.out.set 0 (.int .i64 0)).set 1 (.slice none 0 0)
        simpa using this
       have TM:iW mp w a we a7:=by
        rw[bY];exact⟨(Ik.out.ag.aj 0 _ o6).aj 1 _ o6,Ik.out.fp⟩
       have TP:MW we mp N7 a7:=by
        rw[bY];exact MM.out.mW bP.out
       have hr0:=dx.cell 0;have hr1:=dx.cell 1;simp at hr0 hr1;clear bY dx;refine bodyPost_ret (v:=.tuple #[.agg #[.int .i64 0,.slice none 0 0],.int .i64 E7]) (by simp[results,Tryz.results105,go_sem,hr0,hr1]) rfl ?_;exact⟨none,0,by simp only[e2,List.length_nil],Own.nil _ _ _ _,aS _,a7,TP,TM⟩
end
def qE (p:PS) (x y z:Int):Nd:=⟨x,p.refs.getD y.toNat 0,p.refs.getD z.toNat 0⟩
def o9 (p:PS) (x y z:Int):MS×List Nat×Int:=oJ p.m x (p.ts.getD y.toNat []) (p.ts.getD z.toNat [])
def lY (p:PS) (x y z:Int):PS :=
 if (o9 p x y z).2.2=0 then { p with k:=(ay p.k (qE p x y z)).2.2,m:=(o9 p x y z).1,refs:=p.refs++[(ay p.k (qE p x y z)).1],ts:=p.ts++[(o9 p x y z).2.1],dead:=p.dead++[false] }
 else { p with k:=(ay p.k (qE p x y z)).2.2,m:=(o9 p x y z).1 }
section
variable {w w':World} {B:Nat→Prop} {pp:Nat} {p:PS} {q:PA} {n:Nat} {t:Tb} {kp:Nat} {k:KS} {a:KA}
theorem mY {p:PS} {i:Int} (h:bW p i=true):∃ m:Nat,i=m∧m<p.ts.length:=by
 unfold bW at h;simp only[Bool.and_eq_true,decide_eq_true_eq] at h;exact⟨i.toNat,by omega,by omega⟩
theorem ES {M:MS} {v:Int} {lo hi:List Nat} (hn:M.n≤16) (h:(oJ M v lo hi).2.2=0):lU M.n (oJ M v lo hi).2.1∧Small (oJ M v lo hi).2.1:=by
 unfold oJ at h ⊢;split at h
 ·simp at h
 ·rename_i h1;rw[if_neg h1];split at h
  ·simp at h
  ·rename_i h2;rw[if_neg h2];split at h
   ·simp at h
   ·rename_i h3;rw[if_neg h3];simp only at h ⊢;unfold I6;rw[if_pos h];exact⟨gG hn,fun x hx=>kX x hx⟩
theorem CF (hP:PW B w pp p q) (hB:∀ b,B b→b<w.heap.size) (K:KI p.k) (ho:eY p.m) (hc:rU p.m) (hh:p.m.held.length<1500000) (hd:p.dead.length=p.ts.length) (hr:p.refs.length=p.ts.length) (hll:p.live.length≤2097152000000)
  (hrg:∀ x∈p.refs,0≤x∧x<4294967296) (htl:p.ts.length≤4000000000000) (kd x y z:Int) (hL:bW p y=true) (hC:bW p z=true)
  (hag:(ay p.k (qE p x y z)).2.1=(o9 p x y z).2.2) (hz:(o9 p x y z).2.2≠0→(ay p.k (qE p x y z)).1=0) (hkn:(ay p.k (qE p x y z)).2.2.n=p.k.n) (hmn:(o9 p x y z).1.n=p.m.n) :
  Calls Tryz.prog 73 #[.pointer (some ⟨pp,0,none⟩),.agg #[.int .i64 kd,.int .i64 x,.int .i64 y,.int .i64 z]] w fun e w'=>e=.returned (.bool true)∧(∃ q',PW B w' pp (lY p x y z) q')∧Up B w w':=by
 have hlb:=fun w' (hs:Same w w')=>kN (hP.same hs) hd hll y
 have hlc:=fun w' (hs:Same w w')=>kN (hP.same hs) hd hll z
 rw[hL] at hlb;rw[hC] at hlc;obtain⟨my,rfl,N8⟩:=mY hL;obtain⟨mz,rfl,hmz⟩:=mY hC;obtain⟨ry,hry⟩:∃ r,p.refs[my]?=some r:=⟨_,List.getElem?_eq_getElem (by omega)⟩;obtain⟨rz,hrz⟩:∃ r,p.refs[mz]?=some r:=⟨_,List.getElem?_eq_getElem (by omega)⟩;obtain⟨ty,hty⟩:∃ t,q.tt[my]?=some t:=⟨_,List.getElem?_eq_getElem (by rw[hP.tl];exact N8)⟩;obtain⟨tz,htz⟩:∃ t,q.tt[mz]?=some t:=⟨_,List.getElem?_eq_getElem (by rw[hP.tl];exact hmz)⟩;have YN:p.ts.getD my []=ty.ws:=by rw[List.getD_eq_getElem?_getD,← hP.te,List.getElem?_map,hty];rfl
 have YO:p.ts.getD mz []=tz.ws:=by rw[List.getD_eq_getElem?_getD,← hP.te,List.getElem?_map,htz];rfl
 have hnd:qE p x my mz=⟨x,ry,rz⟩:=by unfold qE;rw[Int.toNat_natCast,Int.toNat_natCast,List.getD_eq_getElem?_getD,List.getD_eq_getElem?_getD,hry,hrz];rfl
 have hmd:o9 p x my mz=oJ p.m x ty.ws tz.ws:=by unfold o9;rw[Int.toNat_natCast,Int.toNat_natCast,YN,YO]
 unfold lY;rw[hnd] at hag hz hkn ⊢;rw[hmd] at hag hz hmn ⊢;have gy:=hrg ry (List.mem_of_getElem? hry);have gz:=hrg rz (List.mem_of_getElem? hrz);have hmk:=fun w' (hs:Same w w')=>yE (hP.same hs).k K.bk K.lv ⟨x,ry,rz⟩ gy.1 gy.2 gz.1 gz.2
 have FI:=fun w' (b:MA) (hM:MW w' q.mp p.m b) (h1:TW w' p.m.n ty) (h2:TW w' p.m.n tz)=>zZ hM ho x h1 h2 hc hh
 obtain⟨⟨r,E,k'⟩,hkk⟩:∃ z,ay p.k ⟨x,ry,rz⟩=z:=⟨_,rfl⟩;obtain⟨⟨m',zz,F⟩,hmm⟩:∃ z,oJ p.m x ty.ws tz.ws=z:=⟨_,rfl⟩;have hfm:=ES (M:=p.m) (v:=x) (lo:=ty.ws) (hi:=tz.ws) hP.m.n16;rw[hmm] at hfm;simp only at hfm;rw[hkk] at hag hz hkn hmk ⊢;rw[hmm] at hag hz hmn FI ⊢;simp only at hag hz hkn hmn hmk ⊢;subst hag;obtain⟨PP,Ki⟩:∃ z:PS,(if E=0 then { p with k:=k',m:=m',refs:=p.refs++[r],ts:=p.ts++[zz],dead:=p.dead++[false] } else { p with k:=k',m:=m' })=z:=⟨_,rfl⟩;rw[Ki];have Tq:=Lib.hid Ki;have HFM:=Lib.hid hfm;clear Ki hfm;have HP:=Lib.hid hP;have O8:=Lib.hid hlb;have HLC:=Lib.hid hlc;have HMK:=Lib.hid hmk;have HDM:=Lib.hid FI;have Dx:=Lib.hid hty;have HTZ:=Lib.hid htz;have HRY:=Lib.hid hry;have HRZ:=Lib.hid hrz;have HZ:=Lib.hid hz;have xD:=Lib.hid hkn;have TQ:=Lib.hid hmn;have um:=Lib.hid hr;have Dw:=Lib.hid hP.tl;have Dr:=Lib.hid hd;have Jt:=Lib.hid htl;clear hlb hlc hmk FI hL hC hty htz hry hrz hz hkn hmn hkk hmm hnd hmd YN YO hrg gy gz K ho hc hh hll;have hpl:=hP.blk.lt;clear hP hr hd htl;go_enter Tryz.func73,Tryz.ntmps73;go_upto_region 1 with fail
 refine ai fun w1 hw1=>?_
 have hO:=ax.new w 60 #[.int .i64 kd,.int .i64 x,.int .i64 my,.int .i64 mz];have hs1:Same w w1:=by rw[hw1];exact(ah.refl _ _).alloc _
 rw[← hw1] at hO;clear hw1;have o0:=hO.cell 0;have o1:=hO.cell 1;have o2:=hO.cell 2;have o3:=hO.cell 3;have ol:=hO.lt;simp at o0 o1 o2 o3;have HO:=Lib.hid hO;have HS:=Lib.hid hs1;clear hO hs1;go_wp2_with (fail)
 refine(O8.out _ HS.out).mono ?_;rintro e w2 ⟨rfl,hs2⟩;replace HO:=Lib.hid (HO.out.ag hs2 id);replace HS:=Lib.hid (HS.out.trans hs2 (fun _ _ h=>h));clear hs2 o0 o1 o2 o3 ol;have o1:=HO.out.cell 1;have o2:=HO.out.cell 2;have o3:=HO.out.cell 3;have ol:=HO.out.lt;simp at o1 o2 o3;go_wp2_with (fail)
 refine(HLC.out _ HS.out).mono ?_;rintro e w3 ⟨rfl,hs3⟩;replace HO:=Lib.hid (HO.out.ag hs3 id);replace HS:=Lib.hid (HS.out.trans hs3 (fun _ _ h=>h));clear hs3 o1 o2 o3 ol;have o1:=HO.out.cell 1;have o2:=HO.out.cell 2;have o3:=HO.out.cell 3;have ol:=HO.out.lt;simp at o1 o2 o3;go_upto_region 3 with fail
 have hP3:=HP.out.same HS.out;have c0:=hP3.c0;have c2:=hP3.c2;obtain⟨rb,hrb,MP,dy⟩:=hP3.refs.dQ (c:=rc) HRY.out;obtain⟨rb',Ju,_,dz⟩:=hP3.refs.dQ (c:=rc) HRZ.out;rw[hrb] at Ju c2;injection Ju with Ju
 injection Ju with Ju
 subst Ju;rw[um.out] at c2;unfold rc at dy dz;have kpp:¬ gX p.k.n q.kp q.a pp:=hP3.kl pp (.inl rfl);have krb:¬ gX p.k.n q.kp q.a rb:=hP3.kl rb (.inr (.inl ⟨_,hrb,rfl⟩));have kob:¬ gX p.k.n q.kp q.a w.heap.size:=fun h=>by have:=HP.out.k.lt h;omega
 clear hpl;have hpl:=hP3.blk.lt;have iy:(my:Int)<p.ts.length:=by omega
 have iz:(mz:Int)<p.ts.length:=by omega
 have PL:=Lib.hid hP3;clear hP3 hrb;refine aJ (fun b=>gX p.k.n q.kp q.a b) [([0,1,2,3,4,5,6,7,8,9,10,11,12,13,14,15,16,17,18,19,20,21],22),([23,24,25,26],27)] (by kernel_rfl) (by kernel_rfl) ?_;have hs:Same w3 w3.drew:=(ah.refl _ _).drew;rw[aN];simp only[pick,List.map_cons,List.map_nil,List.getD_cons_zero,List.getD_cons_succ];repeat go_big_quiet_step (fail)
 refine wpQuiet_nil ?_;refine aa rfl fun K hK=>?_
 go_simp;refine(HMK.out _ (HS.out.trans hs (fun _ _ h=>h))).mono ?_;rintro e w4 ⟨rfl,a4,hk4,hg4⟩;have EP:ah (fun b=>gX p.k.n q.kp q.a b) w3 w4:=(hs.mono (fun _ _ h=>h.elim)).trans hg4.ag (fun _ _ h=>h);refine hK _ _ (aZ.bu EP) ?_;clear hK K;have hB3:∀ b,B b→b<w3.heap.size:=fun b hb=>by have:=hB b hb;have:=HS.out.size;omega
 have Vl:=(PL.out.same hs).kernel hk4 hg4 xD.out hB3;have HU4:=Lib.hid (Up.trans (Up.bK (HS.out.trans hs (fun _ _ h=>h))) Vl.2);have xS:=Lib.hid Vl.1;have hB4:∀ b,B b→b<w4.heap.size:=fun b hb=>by have:=hB3 b hb;have:=EP.size;omega
 replace HO:=Lib.hid (HO.out.ag EP kob);have hO4:w.heap.size<w4.heap.size:=HO.out.lt;clear Vl hk4 hg4 EP hs c0 c2 dy dz MP kpp krb hpl o1 o2 o3 ol;rw[aT];simp only[pick,List.map_cons,List.map_nil,List.getD_cons_zero,List.getD_cons_succ];repeat go_big_quiet_step (fail)
 refine wpQuiet_nil ?_;go_upto_region 4 with fail
 have c1:=xS.out.c1;have c3:=xS.out.c3;simp only at c1 c3;obtain⟨tb,htb,Jr,y0,y1⟩:=xS.out.tat Dx.out;obtain⟨tb',htb',_,z0,z1⟩:=xS.out.tat HTZ.out;simp only at htb htb' y0 z0;rw[htb] at htb' c3;injection htb' with htb'
 injection htb' with htb'
 subst htb';rw[Dw.out] at c3;have TR:¬ lM q.mp q.b pp:=by
  rintro(hb | hb | hb | hb)
  ·have:=xS.out.blk
   rw[hb] at this;exact absurd (ax.inj this xS.out.m.blk).1 (by decide)
  ·obtain⟨x,hx,hm⟩:=hb;exact xS.out.m.ord.av xS.out.blk (by decide) x hx hm
  ·obtain⟨x,hx,hm⟩:=hb;exact xS.out.m.hs.av xS.out.blk (by decide) x hx hm
  ·obtain⟨x,hx,hm⟩:=hb;exact xS.out.m.tr.av xS.out.blk (by decide) x hx hm
 have mtb:¬ lM q.mp q.b tb:=xS.out.m.aL xS.out.ts (by decide) (by decide) (by decide) tb ⟨_,htb,rfl⟩;have mob:¬ lM q.mp q.b w.heap.size:=fun h=>by have:=HP.out.m.lt h;omega
 have o1:=HO.out.cell 1;have o2:=HO.out.cell 2;have o3:=HO.out.cell 3;have ol:=HO.out.lt;have hpl:=xS.out.blk.lt;simp at o1 o2 o3;clear htb;have Oc:=Lib.hid xS.out.m;have TS:=xS.out.tt ty (List.mem_of_getElem? Dx.out);have TT:=xS.out.tt tz (List.mem_of_getElem? HTZ.out);have FI:=fun w' (hs:Same w4 w')=>HDM.out w' q.b (Oc.out.same hs) (TS.same hs) (TT.same hs)
 unfold Tb.val at FI;rw[TS.N,TT.N] at FI;have TU:=Lib.hid FI;clear TS TT FI;go_cut [7,8] (fun s7 s8 wx=>∃ (T:Nat) (A:Option Addr) (C:Nat),s7=.pointer (some ⟨T,0,none⟩)∧s8=.int .i64 E∧ax wx T 108 #[.int .i64 (BS p.m.n E),.slice A zz.length C]∧dN wx A zz.length C zz∧w4.heap.size≤T∧∃ b',MW wx q.mp m' b'∧iW q.mp w4 q.b wx b')
 case first =>
  refine AP (fun b=>lM q.mp q.b b) (.q [0,1,2,3,4,5,6,7,8,9,10,11,12,13,14,15,16,17,18,19,20,21] (.fork 22 (.q [23,24,25] (.step 26 (.step 27 (.last 28)))) 26 (.step 22 (.q [23,24,25] (.step 27 (.last 28)))))) (by kernel_rfl) (by kernel_rfl) ?_;simp only[Dk,pick,List.map_cons,List.map_nil,List.getD_cons_zero,List.getD_cons_succ];have hs:Same w4 w4.drew:=(ah.refl _ _).drew;repeat go_big_quiet_step (fail)
  refine wpQuiet_nil ?_;refine⟨?_,?_⟩
  ·refine aa rfl fun K hK=>?_
   go_simp;refine(TU.out _ hs).mono ?_;rintro e w5 ⟨A5,C5,rfl,mX,CE,b5,wF,hg5⟩;have hgo:=(iW.same hs).trans hg5;refine hK _ _ (aZ.bu hgo.ag) ?_;clear hK K;have Aq:=Lib.hid hgo;have Yo:=Lib.hid wF;have pz:=Lib.hid mX;clear hgo wF mX hg5 CE hs;repeat go_big_quiet_step (fail)
   refine wpQuiet_nil ?_;refine aa rfl fun K hK=>?_
   go_simp;have hT:=ax.new w5 108 #[.int .i64 0,.slice none 0 0];have hfa:ah (fun b=>lM q.mp q.b b) w4 (w5.alloc (.cells #[.int .i64 0,.slice none 0 0] 108)):=Aq.out.ag.alloc _;refine hK _ _ (aZ.bu hfa) ?_;clear hK K hT;refine aa rfl fun K hK=>?_
   go_simp;refine hK _ _ (aZ.bu (Aq.out.ag.alloc _)) ?_;clear hK K;go_wp2_with fail
   go_meet
   refine⟨w5.heap.size,A5,C5,rfl,rfl,ax.new w5 _ _,pz.out.ag (S:=fun _=>False) ((ah.refl _ _).alloc _) (fun _ _=>id),Aq.out.ag.size,b5,Yo.out.same ((ah.refl _ _).alloc _),Aq.out.trans (iW.same ((ah.refl _ _).alloc _))⟩
  ·refine aa rfl fun K hK=>?_
   go_simp;have hT:=(ax.new w4 108 #[.int .i64 0,.slice none 0 0]).drew;have hsa:Same w4 (w4.alloc (.cells #[.int .i64 0,.slice none 0 0] 108)).drew:=((ah.refl _ _).alloc _).drew;refine hK _ _ (aZ.bu (ah.mono hsa (fun _ _ h=>h.elim))) ?_;clear hK K;generalize (w4.alloc (.cells #[.int .i64 0,.slice none 0 0] 108)).drew=wa at hT hsa ⊢;refine aa rfl fun K hK=>?_
   go_simp;refine(TU.out _ hsa).mono ?_;rintro e w5 ⟨A5,C5,rfl,mX,CE,b5,wF,hg5⟩;have hgo:=(iW.same hsa).trans hg5;refine hK _ _ (aZ.bu hgo.ag) ?_;clear hK K;have pE:=hT.ag hg5.ag (fun h=>by have:=Oc.out.lt h;omega);have CG:∀ x,A5=some x→x.block≠w4.heap.size:=fun x hx h=>mX.av pE (by decide) x hx h
   have t0:=pE.cell 0;have t1:=pE.cell 1;have tl:=pE.lt;have u0:=pE.free 0;have u1:=pE.free 1;simp at t0 t1;have Aq:=Lib.hid hgo;have Yo:=Lib.hid wF;have pz:=Lib.hid mX;have P5:=Lib.hid pE;have Ro:=Lib.hid CG;clear hgo wF mX hg5 CE hT pE hsa hs CG;repeat go_big_quiet_step (fail)
   refine wpQuiet_nil ?_;refine aa rfl fun K hK=>?_
   go_simp;refine hK _ _ (aZ.bu ((Aq.out.ag.aj 0 _ (Nat.le_refl _)).aj 1 _ (Nat.le_refl _))) ?_;clear hK K;go_wp2_with fail
   go_meet
   refine⟨w4.heap.size,A5,C5,rfl,rfl,?_,(Own.far (p:=⟨w4.heap.size,0,none⟩) pz.out Ro.out _).far (p:=⟨w4.heap.size,1,none⟩) Ro.out _,Nat.le_refl _,b5,Yo.out.mW P5.out,⟨(Aq.out.ag.aj 0 _ (Nat.le_refl _)).aj 1 _ (Nat.le_refl _),Aq.out.fp⟩⟩
   have:=(P5.out.set 0 (.int .i64 (BS p.m.n E))).set 1 (.slice A5 zz.length C5)
   simpa using this
 case rest =>
  obtain⟨T,A5,C5,rfl,rfl,hT,mX,hwT,b5,wF,hg5⟩:=hcut;have Kj:=xS.out.model wF hg5 TQ.out hB4;have Oe:=Lib.hid (Up.trans HU4.out Kj.2);have hB5:∀ b,B b→b<wc.heap.size:=fun b hb=>by have:=hB4 b hb;have:=hg5.ag.size;omega
  have abA:T≠pp:=fun h=>by
   have h1:=xS.out.blk.lt;omega
  have TV:=Lib.hid Kj.1;have HT:=Lib.hid hT;have pz:=Lib.hid mX;clear Kj hT mX wF hg5 c1 c3 Jr y0 y1 z0 z1 TR mtb mob o1 o2 o3 ol hpl TU Oc xS;by_cases hE:E=0
  ·subst hE;have Ki:=Tq.out;rw[if_pos rfl] at Ki;replace Tq:=Lib.hid Ki;clear Ki;have hpl:=TV.out.blk.lt;have c2:=TV.out.c2;simp only at c2;rw[um.out] at c2;go_upto_region 7 with fail
   refine aV 6 ?_;simp only[List.take_succ_cons,List.take_zero,List.drop_succ_cons,List.drop_zero];repeat (any_goals (first | go_big_quiet_step (fail) | quiet_step (fail)))
   refine wpQuiet_nil ?_;refine wpList_plain rfl fun K hK=>?_
   go_simp;refine hK _ _ ?_;clear hK K;refine aQ fun wa dR=>?_
   have hL:=ax.new wc 28 #[.int .u32 r];have hsa:Same wc wa:=by rw[dR];exact(ah.refl _ _).alloc _
   rw[← dR] at hL;clear dR;have hPa:=TV.out.same hsa;have hrow:Row1 wa 28 rc q.rA p.ts.length q.rC p.refs:=by rw[← um.out];exact hPa.refs
   refine Own.aR (f:=fun x=>[rc x]) rfl (.tmp 91) (.tmp 93) _ rfl Tryz.underlying40 iE rfl (by omega) rfl hrow (fun _=>rfl) r wc.heap.size 1 rfl (by simpa [rc] using hL) (by simp[Value.oneCell',rc]) (by rw[um.out];unfold maxLen;have:=Jt.out;omega) (by rw[um.out];have:=Jt.out;omega) ?_;intro gg cap wb hOb hgb hat;have hrA:∀ {ty:TypeId} {cs:Array Value} {g:Nat},ax wa g ty cs→28≠ty→some g≠(Value.slice q.rA p.ts.length q.rC).ownBlock:=fun hb hne hx=>by
    obtain⟨x,hx,hxb⟩:=af.1 hx.symm;exact hrow.av hb hne x hx hxb
   have hbb:=hPa.blk.grown hgb (hrA hPa.blk (by decide));have htb:=(HT.out.ag hsa id).grown hgb (hrA (HT.out.ag hsa id) (by decide));have TY:=(pz.out.ag hsa (fun _ _=>id)).gH hgb (fun b hb hA=>hrow.aL (pz.out.ag hsa (fun _ _=>id)) (by decide) b (af.1 hb) hA);have f2:=hbb.free 2;have d2:=hbb.cell 2;have hpb:=hbb.lt;simp[fZ] at d2;rw[um.out] at d2;have hfr:ah (fun b=>b=pp∨rowOf q.rA b) wc wb:=(ah.mono hsa (fun _ _ h=>h.elim)).grown hgb (fun g hg=>.inl (.inr (af.1 hg)))
   have hto:=TV.out.uy (w':=wb.setCell ⟨pp,2,none⟩ (.slice (some ⟨gg,0,none⟩) (p.ts.length+1) cap)) (rs:=p.refs++[r]) (A2:=some ⟨gg,0,none⟩) (C2:=cap) (hfr.set 2 _ (.inl rfl)) (by
     have:=hbb.set 2 (.slice (some ⟨gg,0,none⟩) (p.ts.length+1) cap)
     simpa [fZ,um.out] using this)
    (by
     have:=Own.far (p:=⟨pp,2,none⟩) hOb (fun x hx h=>Own.av hOb hbb (by decide) x hx h) (.slice (some ⟨gg,0,none⟩) (p.ts.length+1) cap)
     rw[List.length_append,um.out]
     exact this)
    (fun b hb=>by
     obtain⟨x,hx,rfl⟩:=hb;injection hx with hx
     subst hx;rcases hat with h | h
     ·exact .inl (af.1 h)
     ·have:=hsa.size
      exact .inr (by simp only;omega)) hB5
   have oF:=Lib.hid hto;have Dy:=Lib.hid (htb.far (p:=⟨pp,2,none⟩) abA (.slice (some ⟨gg,0,none⟩) (p.ts.length+1) cap));have Rp:=Lib.hid (TY.far (p:=⟨pp,2,none⟩) (fun x hx h=>TY.av hbb (by decide) x hx h) (.slice (some ⟨gg,0,none⟩) (p.ts.length+1) cap));have hB8:∀ b,B b→b<(wb.setCell ⟨pp,2,none⟩ (.slice (some ⟨gg,0,none⟩) (p.ts.length+1) cap)).heap.size:=fun b hb=>by rw[size_setCell];have:=hB5 b hb;have:=hfr.size;omega
   clear hrA hbb htb TY hfr hto hOb hgb hat hrow hPa hL hsa c2 HT pz;go_upto_region 8 with fail
   generalize wb.setCell ⟨pp,2,none⟩ (.slice (some ⟨gg,0,none⟩) (p.ts.length+1) cap)=w8 at oF Dy Rp hB8 ⊢;clear f2 d2 hpb hpl;have e0:BS (p.m.n:Int) 0=(p.m.n:Int):=rfl;rw[e0] at Dy;clear e0;obtain⟨hf1,hf2⟩:=HFM.out rfl;have sQ:TW w8 m'.n ⟨p.m.n,A5,C5,zz⟩:=⟨by rw[TQ.out],Rp.out,by rw[TQ.out];exact hf1,hf2⟩;have Aw:=Lib.hid sQ;have c3:=oF.out.1.c3;simp only at c3;rw[Dw.out] at c3;have hpl:=oF.out.1.blk.lt;have t0:=Dy.out.cell 0;have t1:=Dy.out.cell 1;have tl:=Dy.out.lt;simp at t0 t1;have npp:¬ rowOf q.tA pp:=fun ⟨x,hx,h⟩=>oF.out.1.ts.av oF.out.1.blk (by decide) x hx h
   have nT:¬ rowOf q.tA T:=fun h=>by
    have:=dV HP.out.ts h
    omega
   clear hf1 hf2 sQ;refine aJ (fun b=>rowOf q.tA b) [([0,1,2,3,4,5],6),([],7),([8,9],10)] (by kernel_rfl) (by kernel_rfl) ?_;simp only[cK,pick,List.map_cons,List.map_nil,List.getD_cons_zero,List.getD_cons_succ];have hs:Same w8 w8.drew:=(ah.refl _ _).drew;repeat (any_goals (first | go_big_quiet_step (fail) | quiet_step (fail)))
   refine wpQuiet_nil ?_;refine aa rfl fun K hK=>?_
   go_simp;refine hK _ _ (aZ.bu (ah.mono (hs.alloc _) (fun _ _ h=>h.elim))) ?_;clear hK K;refine wpQuiet_nil ?_;refine aa rfl fun K hK=>?_
   have hL:ax (w8.alloc (.cells #[.int .i64 p.m.n,.slice A5 zz.length C5] 108)).drew w8.heap.size 108 #[.int .i64 p.m.n,.slice A5 zz.length C5]:=(ax.new w8 _ _).drew;have hsl:Same w8 (w8.alloc (.cells #[.int .i64 p.m.n,.slice A5 zz.length C5] 108)).drew:=((ah.refl _ _).alloc _).drew;generalize (w8.alloc (.cells #[.int .i64 p.m.n,.slice A5 zz.length C5] 108)).drew=wl at hL hsl ⊢;have hPl:=oF.out.1.same hsl;have hrow:Go.Tk.Own wl 108 2 Tb.cells q.tA p.ts.length q.tC q.tt:=by rw[← Dw.out];exact hPl.ts
   refine Own.append (.tmp 101) (.tmp 103) _ rfl Tryz.underlying55 fq rfl (by omega) rfl hrow Tb.ak ⟨p.m.n,A5,C5,zz⟩ w8.heap.size 1 rfl (by unfold Tb.cells;exact hL) (by simp[Value.oneCell',Tb.cells]) (by rw[Dw.out];unfold maxLen;have:=Jt.out;omega) (by rw[Dw.out];have:=Jt.out;omega) ?_;intro Rh cap2 wb2 hOb hgb hat;refine hK _ _ (aZ.bu ?_) ?_
   ·exact(ah.mono hsl (fun _ _ h=>h.elim)).grown hgb (fun g hg=>.inl (af.1 hg))
   clear hK K
   have hbb:=hPl.blk.grown hgb (fun hx=>by
    obtain⟨x,hx,hxb⟩:=af.1 hx.symm
    exact npp ⟨x,hx,hxb⟩)
   have f3:=hbb.free 3;have d3:=hbb.cell 3;have hpb:=hbb.lt;simp[fZ] at d3;rw[Dw.out] at d3;have hfr:ah (fun b=>b=pp∨rowOf q.tA b) w8 wb2:=(ah.mono hsl (fun _ _ h=>h.elim)).grown hgb (fun g hg=>.inl (.inr (af.1 hg)))
   have hto:=oF.out.1.YK (w':=wb2.setCell ⟨pp,3,none⟩ (.slice (some ⟨Rh,0,none⟩) (p.ts.length+1) cap2)) (us:=q.tt++[⟨p.m.n,A5,C5,zz⟩]) (A2:=some ⟨Rh,0,none⟩) (C2:=cap2) (hfr.set 3 _ (.inl rfl)) (by
     have:=hbb.set 3 (.slice (some ⟨Rh,0,none⟩) (p.ts.length+1) cap2)
     simpa [fZ,Dw.out] using this)
    (by
     have:=Own.far (p:=⟨pp,3,none⟩) hOb (fun x hx h=>Own.av hOb hbb (by decide) x hx h) (.slice (some ⟨Rh,0,none⟩) (p.ts.length+1) cap2)
     rw[List.length_append,Dw.out]
     exact this)
    (fun t ht=>by
     rcases List.mem_append.1 ht with ht | ht
     ·exact oF.out.1.tt t ht
     ·simp at ht;subst ht
      exact Aw.out)
    (fun b hb=>by
     obtain⟨x,hx,rfl⟩:=hb;injection hx with hx
     subst hx;rcases hat with h | h
     ·exact .inl (af.1 h)
     ·have:=hsl.size
      exact .inr (by simp only;omega)) hB8
   have hte:(q.tt++[(⟨p.m.n,A5,C5,zz⟩:Tb)]).map Tb.ws=p.ts++[zz]:=by rw[List.map_append,HP.out.te];rfl
   rw[hte] at hto;have Vm:=Lib.hid hto;have hB9:∀ b,B b→b<(wb2.setCell ⟨pp,3,none⟩ (.slice (some ⟨Rh,0,none⟩) (p.ts.length+1) cap2)).heap.size:=fun b hb=>by rw[size_setCell];have:=hB8 b hb;have:=hfr.size;omega
   clear hbb hfr hto hte hOb hgb hat hrow hPl hL hsl hs c3 t0 t1 tl npp nT hpl;repeat (any_goals (first | go_big_quiet_step (fail) | quiet_step (fail)))
   refine wpQuiet_nil ?_;go_upto_region 9 with fail
   generalize wb2.setCell ⟨pp,3,none⟩ (.slice (some ⟨Rh,0,none⟩) (p.ts.length+1) cap2)=w9 at Vm hB9 ⊢;clear f3 d3 hpb;have c5:=Vm.out.1.c5;simp only at c5;rw[Dr.out] at c5;have hpl:=Vm.out.1.blk.lt;refine aV 5 ?_;simp only[List.take_succ_cons,List.take_zero,List.drop_succ_cons,List.drop_zero];repeat (any_goals (first | go_big_quiet_step (fail) | quiet_step (fail)))
   refine wpQuiet_nil ?_;refine wpList_plain rfl fun K hK=>?_
   go_simp;refine hK _ _ ?_;clear hK K;refine aQ fun wa dR=>?_
   have hL:=ax.new w9 4 #[.bool false];have hsa:Same w9 wa:=by rw[dR];exact(ah.refl _ _).alloc _
   rw[← dR] at hL;clear dR;have hPa:=Vm.out.1.same hsa;have hrow:Ma wa q.dA p.ts.length q.dC p.dead:=by rw[← Dr.out];exact hPa.ds
   refine Own.aR (f:=fun b:Bool=>[.bool b]) rfl (.tmp 111) (.tmp 112) _ rfl Tryz.underlying56 kL rfl (by omega) rfl hrow (fun _=>rfl) false w9.heap.size 1 rfl hL (by simp[Value.oneCell']) (by rw[Dr.out];unfold maxLen;have:=Jt.out;omega) (by rw[Dr.out];have:=Jt.out;omega) ?_;intro Ve Jd wb3 hOb hgb hat
   have hbb:=hPa.blk.grown hgb (fun hx=>by
    obtain⟨x,hx,hxb⟩:=af.1 hx.symm
    exact hrow.av hPa.blk (by decide) x hx hxb)
   have f5:=hbb.free 5;have d5:=hbb.cell 5;have hpb:=hbb.lt;simp[fZ] at d5;rw[Dr.out] at d5;have hfr:ah (fun b=>b=pp∨rowOf q.dA b) w9 wb3:=(ah.mono hsa (fun _ _ h=>h.elim)).grown hgb (fun g hg=>.inl (.inr (af.1 hg)))
   have hto:=Vm.out.1.Rn (w':=wb3.setCell ⟨pp,5,none⟩ (.slice (some ⟨Ve,0,none⟩) (p.ts.length+1) Jd)) (ds:=p.dead++[false]) (A2:=some ⟨Ve,0,none⟩) (C2:=Jd) (hfr.set 5 _ (.inl rfl)) (by
     have:=hbb.set 5 (.slice (some ⟨Ve,0,none⟩) (p.ts.length+1) Jd)
     simpa [fZ,Dr.out] using this)
    (by
     have:=Own.far (p:=⟨pp,5,none⟩) hOb (fun x hx h=>Own.av hOb hbb (by decide) x hx h) (.slice (some ⟨Ve,0,none⟩) (p.ts.length+1) Jd)
     rw[List.length_append,Dr.out]
     exact this)
    (fun b hb=>by
     obtain⟨x,hx,rfl⟩:=hb;injection hx with hx
     subst hx;rcases hat with h | h
     ·exact .inl (af.1 h)
     ·have:=hsa.size
      exact .inr (by simp only;omega)) hB9
   have HDS:=Lib.hid hto;clear hbb hfr hto hOb hgb hat hrow hPa hL hsa c5 hpl;go_wp2;go_ret;have Ki:=Tq.out;subst Ki;exact⟨rfl,⟨_,HDS.out.1⟩,((Oe.out.trans oF.out.2).trans Vm.out.2).trans HDS.out.2⟩
  ·have Ki:=Tq.out;rw[if_neg hE] at Ki;subst Ki;have hr0:=HZ.out hE;subst hr0;have hb:(E != 0)=true:=by simpa using hE
   go_wp2;go_ret;exact⟨rfl,⟨_,TV.out⟩,Oe.out⟩
end
section
variable {w w':World} {B:Nat→Prop} {pp:Nat} {p:PS} {q:PA}
theorem yO (pp:Nat) (x y z:Int) (R:World→Ending→World→Prop) (hM:∀ w',Same w w'→Calls Tryz.prog 73 #[.pointer (some ⟨pp,0,none⟩),.agg #[.int .i64 1,.int .i64 x,.int .i64 y,.int .i64 z]] w' fun e w''=>e=.returned (.bool true)∧R w' e w'') :
  Calls Tryz.prog 31 #[.pointer (some ⟨pp,0,none⟩),.agg #[.int .i64 1,.int .i64 x,.int .i64 y,.int .i64 z]] w fun e w''=>e=.returned (.bool true)∧∃ w',Same w w'∧R w' e w'':=by
 have HM:=Lib.hid hM;clear hM;go_enter Tryz.func31,Tryz.ntmps31;go_wp2_with (fail)
 refine(HM.out _ ((ah.refl _ _).alloc _)).mono ?_;rintro e w2 ⟨rfl,hR⟩;have HR:=Lib.hid hR;clear hR;go_wp2;go_ret;exact⟨rfl,_,(ah.refl _ _).alloc _,HR.out⟩
def gZ (p:PS) (l:Int):PS:={ p with k:=(eX p.k l).2,m:=(qC p.m l).1 }
theorem Jv (hP:PW B w pp p q) (hB:∀ b,B b→b<w.heap.size) (l y z:Int) (hn:p.k.n≤64) (hT:0≤l→l≤(p.k.n:Int)-2→∃ x y,vF p.k l.toNat x y) (htk:(p.k.tr.length+1)*8≤140737488355328) (ho:eY p.m) (hon:p.m.ord.length=p.m.n) (htm:p.m.tr.length<10000000000000)
  (hag:(eX p.k l).1=(qC p.m l).2) (hkn:(eX p.k l).2.n=p.k.n) (hmn:(qC p.m l).1.n=p.m.n) :
  Calls Tryz.prog 31 #[.pointer (some ⟨pp,0,none⟩),.agg #[.int .i64 4,.int .i64 l,.int .i64 y,.int .i64 z]] w fun e w'=>e=.returned (.bool true)∧(∃ q',PW B w' pp (gZ p l) q')∧Up B w w':=by
 have hke:=fun w' (hs:Same w w')=>yF (hP.same hs).k hn l hT htk
 have hme:=fun w' (b:MA) (hM:MW w' q.mp p.m b)=>Jo hM ho hon htm l
 unfold gZ;obtain⟨⟨E,k'⟩,hkk⟩:∃ z,eX p.k l=z:=⟨_,rfl⟩;obtain⟨⟨m',F⟩,hmm⟩:∃ z,qC p.m l=z:=⟨_,rfl⟩;rw[hkk] at hke hag hkn ⊢;rw[hmm] at hme hag hmn ⊢;simp only at hag hkn hmn hke hme ⊢;subst hag;have HP:=Lib.hid hP;have Q3:=Lib.hid hke;have YP:=Lib.hid hme;have xD:=Lib.hid hkn;have TQ:=Lib.hid hmn;have TZ:=hP.blk.lt;clear hP hke hme hkn hmn hkk hmm hT htk ho hon htm hn;go_enter Tryz.func31,Tryz.ntmps31;go_upto_region 9 with fail
 refine ai fun w1 hw1=>?_
 have hO:=ax.new w 60 #[.int .i64 4,.int .i64 l,.int .i64 y,.int .i64 z];have hs1:Same w w1:=by rw[hw1];exact(ah.refl _ _).alloc _
 rw[← hw1] at hO;clear hw1;have o1:=hO.cell 1;have ol:=hO.lt;simp at o1;have hP1:=HP.out.same hs1;have c0:=hP1.c0;have c1:=hP1.c1;have hpl:=hP1.blk.lt;have TR:¬ lM q.mp q.b pp:=by
  rintro(hb | ⟨x,hx,hm⟩ | ⟨x,hx,hm⟩ | ⟨x,hx,hm⟩)
  ·have:=hP1.blk
   rw[hb] at this;exact absurd (ax.inj this hP1.m.blk).1 (by decide)
  ·exact hP1.m.ord.av hP1.blk (by decide) x hx hm
  ·exact hP1.m.hs.av hP1.blk (by decide) x hx hm
  ·exact hP1.m.tr.av hP1.blk (by decide) x hx hm
 have spp:¬ (gX p.k.n q.kp q.a pp∨lM q.mp q.b pp):=fun h=>h.elim (fun h=>hP1.kl pp (.inl rfl) h) TR
 have sob:¬ (gX p.k.n q.kp q.a w.heap.size∨lM q.mp q.b w.heap.size):=fun h=>h.elim (fun h=>by have:=HP.out.k.lt h;omega) (fun h=>by have:=HP.out.m.lt h;omega)
 have aX:=Lib.hid hs1;have Au:=Lib.hid hP1;have hB1:∀ b,B b→b<w1.heap.size:=fun b hb=>by have:=hB b hb;have:=hs1.size;omega
 clear hO hs1 hP1 TR TZ;refine aJ (fun b=>gX p.k.n q.kp q.a b∨lM q.mp q.b b) [([0,1,2,3,4,5,7,8,9,10,11,12],6),([],13),([14],15)] (by kernel_rfl) (by kernel_rfl) ?_;have hs:Same w1 w1.drew:=(ah.refl _ _).drew;rw[aN];simp only[pick,List.map_cons,List.map_nil,List.getD_cons_zero,List.getD_cons_succ];repeat go_big_quiet_step (fail)
 refine wpQuiet_nil ?_;refine aa rfl fun K hK=>?_
 go_simp;refine(Q3.out _ (aX.out.trans hs (fun _ _ h=>h))).mono ?_;rintro e w2 ⟨rfl,a2,hk2,hg2⟩;have hP2:=(Au.out.same hs).kernel hk2 hg2 xD.out hB1;have hf2:ah (fun b=>gX p.k.n q.kp q.a b) w1 w2:=(hs.mono (fun _ _ h=>h.elim)).trans hg2.ag (fun _ _ h=>h);refine hK _ _ (aZ.bu (hf2.mono (fun _ _ h=>.inl h))) ?_;clear hK K;have zn:=Lib.hid hP2.1;have Ij:=Lib.hid (Up.trans (Up.bK (aX.out.trans hs (fun _ _ h=>h))) hP2.2);have Sv:=Lib.hid hf2;have hB2:∀ b,B b→b<w2.heap.size:=fun b hb=>by have:=hB1 b hb;have:=hf2.size;omega
 clear hP2 hk2 hg2 hf2 hs;rw[aN];simp only[pick,List.map_nil,List.getD_cons_zero,List.getD_cons_succ];refine wpQuiet_nil ?_;refine aa rfl fun K hK=>?_
 go_simp;refine(YP.out _ _ zn.out.m).mono ?_;rintro e w3 ⟨rfl,b3,Ep,hg3⟩;have hP3:=zn.out.model Ep hg3 TQ.out hB2;refine hK _ _ (aZ.bu ((Sv.out.mono (fun _ _ h=>.inl h)).trans hg3.ag (fun _ _ h=>.inr h))) ?_;clear hK K;have PL:=Lib.hid hP3.1;have xM:=Lib.hid (Ij.out.trans hP3.2);clear hP3 Ep hg3;rw[aT];simp only[pick,List.map_cons,List.map_nil,List.getD_cons_zero,List.getD_cons_succ];repeat go_big_quiet_step (fail)
 refine wpQuiet_nil ?_;go_wp2;go_ret;exact⟨by simp,⟨_,PL.out⟩,xM.out⟩
end
section
variable {w w':World} {B:Nat→Prop} {pp:Nat} {p:PS} {q:PA}
def CJ (p:PS) (i:Int):PS:={ p with k:=(aD p.k (p.refs.getD i.toNat 0)).2,m:=(oI p.m (p.ts.getD i.toNat [])).1 }
theorem Jw (hP:PW B w pp p q) (hB:∀ b,B b→b<w.heap.size) (hb:Bk p.k [] []) (hc:rU p.m) (hd:p.dead.length=p.ts.length) (hr:p.refs.length=p.ts.length) (hll:p.live.length≤2097152000000) (hrg:∀ x∈p.refs,0≤x∧x<4294967296) (i y z:Int) (hL:bW p i=true)
  (hag:(aD p.k (p.refs.getD i.toNat 0)).1=(oI p.m (p.ts.getD i.toNat [])).2) (hkn:(aD p.k (p.refs.getD i.toNat 0)).2.n=p.k.n) (hmn:(oI p.m (p.ts.getD i.toNat [])).1.n=p.m.n) :
  Calls Tryz.prog 31 #[.pointer (some ⟨pp,0,none⟩),.agg #[.int .i64 3,.int .i64 i,.int .i64 y,.int .i64 z]] w fun e w'=>e=.returned (.bool true)∧(∃ q',PW B w' pp (CJ p i) q')∧Up B w w':=by
 have hlb:=fun w' (hs:Same w w')=>kN (hP.same hs) hd hll i
 rw[hL] at hlb;obtain⟨m,rfl,hm⟩:=mY hL;obtain⟨r,hrr⟩:∃ r,p.refs[m]?=some r:=⟨_,List.getElem?_eq_getElem (by omega)⟩;obtain⟨t,ht⟩:∃ t,q.tt[m]?=some t:=⟨_,List.getElem?_eq_getElem (by rw[hP.tl];exact hm)⟩;have hte:p.ts.getD m []=t.ws:=by rw[List.getD_eq_getElem?_getD,← hP.te,List.getElem?_map,ht];rfl
 have hre:p.refs.getD m 0=r:=by rw[List.getD_eq_getElem?_getD,hrr];rfl
 unfold CJ;rw[Int.toNat_natCast,hte,hre] at hag ⊢;rw[Int.toNat_natCast,hre] at hkn;rw[Int.toNat_natCast,hte] at hmn;have gr:=hrg r (List.mem_of_getElem? hrr);have hke:=fun w' (hs:Same w w')=>yC (hP.same hs).k hb r gr.1 gr.2
 have hme:=fun w' (b:MA) (hM:MW w' q.mp p.m b) (h1:TW w' p.m.n t)=>zX hM h1 hc
 obtain⟨⟨E,k'⟩,hkk⟩:∃ z,aD p.k r=z:=⟨_,rfl⟩;obtain⟨⟨m',F⟩,hmm⟩:∃ z,oI p.m t.ws=z:=⟨_,rfl⟩;rw[hkk] at hke hag hkn ⊢;rw[hmm] at hme hag hmn ⊢;simp only at hag hkn hmn hke hme ⊢;subst hag;have HP:=Lib.hid hP;have O8:=Lib.hid hlb;have Q3:=Lib.hid hke;have YP:=Lib.hid hme;have xD:=Lib.hid hkn;have TQ:=Lib.hid hmn;have HT:=Lib.hid ht;have HR:=Lib.hid hrr;have um:=Lib.hid hr;have Dw:=Lib.hid hP.tl;have TZ:=hP.blk.lt;clear hP hlb hke hme hkn hmn hkk hmm hb hc hd hr hll hrg hL ht hrr hte hre gr;go_enter Tryz.func31,Tryz.ntmps31;go_upto_region 7 with fail
 refine ai fun w1 hw1=>?_
 have hO:=ax.new w 60 #[.int .i64 3,.int .i64 m,.int .i64 y,.int .i64 z];have hs1:Same w w1:=by rw[hw1];exact(ah.refl _ _).alloc _
 rw[← hw1] at hO;clear hw1;have o1:=hO.cell 1;have ol:=hO.lt;simp at o1;have hP1:=HP.out.same hs1;have c0:=hP1.c0;have c1:=hP1.c1;have c2:=hP1.c2;have c3:=hP1.c3;have hpl:=hP1.blk.lt;have TR:¬ lM q.mp q.b pp:=by
  rintro(hb | ⟨x,hx,hm⟩ | ⟨x,hx,hm⟩ | ⟨x,hx,hm⟩)
  ·have:=hP1.blk
   rw[hb] at this;exact absurd (ax.inj this hP1.m.blk).1 (by decide)
  ·exact hP1.m.ord.av hP1.blk (by decide) x hx hm
  ·exact hP1.m.hs.av hP1.blk (by decide) x hx hm
  ·exact hP1.m.tr.av hP1.blk (by decide) x hx hm
 obtain⟨rb,hrb,MP,dr⟩:=hP1.refs.dQ (c:=rc) HR.out;obtain⟨tb,htb,Jr,t0,t1⟩:=hP1.tat HT.out;have srb:¬ (gX p.k.n q.kp q.a rb∨lM q.mp q.b rb):=fun h=>h.elim (hP1.kl rb (.inr (.inl ⟨_,hrb,rfl⟩))) (hP1.m.aL hP1.refs (by decide) (by decide) (by decide) rb ⟨_,hrb,rfl⟩)
 have stb:¬ (gX p.k.n q.kp q.a tb∨lM q.mp q.b tb):=fun h=>h.elim (hP1.kl tb (.inr (.inr (.inl ⟨_,htb,rfl⟩)))) (hP1.m.aL hP1.ts (by decide) (by decide) (by decide) tb ⟨_,htb,rfl⟩)
 rw[hrb,um.out] at c2;rw[htb,Dw.out] at c3;unfold rc at dr;have im:(m:Int)<p.ts.length:=by omega
 have spp:¬ (gX p.k.n q.kp q.a pp∨lM q.mp q.b pp):=fun h=>h.elim (fun h=>hP1.kl pp (.inl rfl) h) TR
 have sob:¬ (gX p.k.n q.kp q.a w.heap.size∨lM q.mp q.b w.heap.size):=fun h=>h.elim (fun h=>by have:=HP.out.k.lt h;omega) (fun h=>by have:=HP.out.m.lt h;omega)
 have hty:=hP1.tt t (List.mem_of_getElem? HT.out);have Dx:=Lib.hid hty;have aX:=Lib.hid hs1;have Au:=Lib.hid hP1;have hB1:∀ b,B b→b<w1.heap.size:=fun b hb=>by have:=hB b hb;have:=hs1.size;omega
 clear hO hs1 hP1 TR TZ hrb htb hty;refine aJ (fun b=>gX p.k.n q.kp q.a b∨lM q.mp q.b b) [([0,1,2],3),([4,5,6,7,8,9,10,11,12,13,14,15,16,17,19,20,21,22,23,24,25,26,27,28,29,30],18),([],31),([32,33],34)] (by kernel_rfl) (by kernel_rfl) ?_;have hs:Same w1 w1.drew:=(ah.refl _ _).drew;rw[aN];simp only[pick,List.map_cons,List.map_nil,List.getD_cons_zero,List.getD_cons_succ];repeat go_big_quiet_step (fail)
 refine wpQuiet_nil ?_;refine aa rfl fun K hK=>?_
 go_simp;refine(O8.out _ (aX.out.trans hs (fun _ _ h=>h))).mono ?_;rintro e w1a ⟨rfl,MK⟩;have hsa:=hs.trans MK (fun _ _ h=>h);refine hK _ _ (aZ.bu (hsa.mono (fun _ _ h=>h.elim))) ?_;clear hK K hs MK;rw[aN];simp only[pick,List.map_cons,List.map_nil,List.getD_cons_zero,List.getD_cons_succ];repeat go_big_quiet_step (fail)
 refine wpQuiet_nil ?_;refine cu (by rfl) fun K hK=>?_
 go_simp;refine(Q3.out _ (aX.out.trans hsa (fun _ _ h=>h))).mono ?_;rintro e w2 ⟨rfl,a2,hk2,hg2⟩;have hP2:=(Au.out.same hsa).kernel hk2 hg2 xD.out (fun b hb=>by have:=hB1 b hb;have:=hsa.size;omega);have hf2:ah (fun b=>gX p.k.n q.kp q.a b) w1 w2:=(hsa.mono (fun _ _ h=>h.elim)).trans hg2.ag (fun _ _ h=>h);refine hK _ _ (aZ.bu (hf2.mono (fun _ _ h=>.inl h))) ?_;clear hK K;have zn:=Lib.hid hP2.1;have Ij:=Lib.hid (Up.trans (Up.bK (aX.out.trans hsa (fun _ _ h=>h))) hP2.2);have Sv:=Lib.hid hf2;have hB2:∀ b,B b→b<w2.heap.size:=fun b hb=>by have:=hB1 b hb;have:=hf2.size;omega
 clear hP2 hk2 hg2 hf2 hsa;have T9:=zn.out.tt t (List.mem_of_getElem? HT.out);have hme:=YP.out _ _ zn.out.m T9;unfold Tb.val at hme;rw[T9.N] at hme;have abB:=Lib.hid hme;clear T9 hme;rw[aN];simp only[pick,List.map_nil,List.getD_cons_zero,List.getD_cons_succ];refine wpQuiet_nil ?_;refine cu (by rfl) fun K hK=>?_
 go_simp;refine abB.out.mono ?_;rintro e w3 ⟨rfl,b3,Ep,hg3⟩;have hP3:=zn.out.model Ep hg3 TQ.out hB2;refine hK _ _ (aZ.bu ((Sv.out.mono (fun _ _ h=>.inl h)).trans hg3.ag (fun _ _ h=>.inr h))) ?_;clear hK K;have PL:=Lib.hid hP3.1;have xM:=Lib.hid (Ij.out.trans hP3.2);clear hP3 Ep hg3;rw[aT];simp only[pick,List.map_cons,List.map_nil,List.getD_cons_zero,List.getD_cons_succ];repeat go_big_quiet_step (fail)
 refine wpQuiet_nil ?_;go_wp2;go_ret;exact⟨by simp,⟨_,PL.out⟩,xM.out⟩
end
def wG (n c:Nat):PS:=⟨xK n c,Cw n c,[0,1],[aG n false,aG n true],[],[false,false]⟩
def CK (n c kp W:Nat):Nat→Value→World→Prop
 | 0,v,_=>v=.pointer (some ⟨kp,0,none⟩)
 | 1,v,_=>v=.int .i64 n
 | 2,v,_=>v=.int .i64 c
 | 3,v,w=>∃ mp b,v=.pointer (some ⟨mp,0,none⟩)∧MW w mp (Cw n c) b∧∀ x,lM mp b x→W≤x
 | 4,v,w=>∃ g,v=.slice (some ⟨g,0,none⟩) 2 2∧ax w g 28 #[.int .u32 0,.int .u32 1]∧W≤g
 | 5,v,_=>v=.int .i64 n
 | 6,v,w=>∃ A C,v=.agg #[.int .i64 n,.slice A (aG n false).length C]∧dN w A (aG n false).length C (aG n false)
 | 7,v,_=>v=.int .i64 n
 | 8,v,w=>∃ A C,v=.agg #[.int .i64 n,.slice A (aG n true).length C]∧dN w A (aG n true).length C (aG n true)
 | 9,v,w=>∃ g A C A2 C2,v=.slice (some ⟨g,0,none⟩) 2 2∧ax w g 108 #[.int .i64 n,.slice A (aG n false).length C,.int .i64 n,.slice A2 (aG n true).length C2]∧dN w A (aG n false).length C (aG n false)∧dN w A2 (aG n true).length C2 (aG n true)∧W≤g
 | 10,v,w=>∃ g,v=.slice (some ⟨g,0,none⟩) 2 2∧ax w g 4 #[.bool false,.bool false]∧W≤g
 | 11,v,w=>∃ mp b g gt A C A2 C2 gd,v=.agg #[.pointer (some ⟨kp,0,none⟩),.pointer (some ⟨mp,0,none⟩),.slice (some ⟨g,0,none⟩) 2 2,.slice (some ⟨gt,0,none⟩) 2 2,.slice none 0 0,.slice (some ⟨gd,0,none⟩) 2 2]∧
   MW w mp (Cw n c) b∧(∀ x,lM mp b x→W≤x)∧ax w g 28 #[.int .u32 0,.int .u32 1]∧ax w gt 108 #[.int .i64 n,.slice A (aG n false).length C,.int .i64 n,.slice A2 (aG n true).length C2]∧dN w A (aG n false).length C (aG n false)∧dN w A2 (aG n true).length C2 (aG n true)∧ax w gd 4 #[.bool false,.bool false]∧W≤g∧W≤gt∧W≤gd
 | 12,v,w=>∃ pp,v=.pointer (some ⟨pp,0,none⟩)∧W≤pp∧∃ mp b g gt A C A2 C2 gd,ax w pp 58 #[.pointer (some ⟨kp,0,none⟩),.pointer (some ⟨mp,0,none⟩),.slice (some ⟨g,0,none⟩) 2 2,.slice (some ⟨gt,0,none⟩) 2 2,.slice none 0 0,.slice (some ⟨gd,0,none⟩) 2 2]∧
   MW w mp (Cw n c) b∧(∀ x,lM mp b x→W≤x)∧ax w g 28 #[.int .u32 0,.int .u32 1]∧ax w gt 108 #[.int .i64 n,.slice A (aG n false).length C,.int .i64 n,.slice A2 (aG n true).length C2]∧dN w A (aG n false).length C (aG n false)∧dN w A2 (aG n true).length C2 (aG n true)∧ax w gd 4 #[.bool false,.bool false]∧W≤g∧W≤gt∧W≤gd
 | 13,v,w=>∃ pp,v=.pointer (some ⟨pp,0,none⟩)∧W≤pp∧∃ mp b g gt A C A2 C2 gd,ax w pp 58 #[.pointer (some ⟨kp,0,none⟩),.pointer (some ⟨mp,0,none⟩),.slice (some ⟨g,0,none⟩) 2 2,.slice (some ⟨gt,0,none⟩) 2 2,.slice none 0 0,.slice (some ⟨gd,0,none⟩) 2 2]∧
   MW w mp (Cw n c) b∧(∀ x,lM mp b x→W≤x)∧ax w g 28 #[.int .u32 0,.int .u32 1]∧ax w gt 108 #[.int .i64 n,.slice A (aG n false).length C,.int .i64 n,.slice A2 (aG n true).length C2]∧dN w A (aG n false).length C (aG n false)∧dN w A2 (aG n true).length C2 (aG n true)∧ax w gd 4 #[.bool false,.bool false]∧W≤g∧W≤gt∧W≤gd
 | 14,v,_=>v=.bool true
 | _,_,_=>True
theorem MQ {n c kp W:Nat}:∀ i v w1 w2,CK n c kp W i v w1→Same w1 w2→CK n c kp W i v w2:=by
 intro i v w1 w2 h hs
 match i with
 | 0 | 1 | 2 | 5 | 7 | 14=>exact h
 | 3=>obtain⟨mp,b,h1,h2,h3⟩:=h;exact⟨mp,b,h1,h2.same hs,h3⟩
 | 4=>obtain⟨g,h1,h2,h3⟩:=h;exact⟨g,h1,h2.ag hs id,h3⟩
 | 6=>obtain⟨A,C,h1,h2⟩:=h;exact⟨A,C,h1,h2.ag hs (fun _ _=>id)⟩
 | 8=>obtain⟨A,C,h1,h2⟩:=h;exact⟨A,C,h1,h2.ag hs (fun _ _=>id)⟩
 | 9=>obtain⟨g,A,C,A2,C2,h1,h2,h3,h4,h5⟩:=h;exact⟨g,A,C,A2,C2,h1,h2.ag hs id,h3.ag hs (fun _ _=>id),h4.ag hs (fun _ _=>id),h5⟩
 | 10=>obtain⟨g,h1,h2,h3⟩:=h;exact⟨g,h1,h2.ag hs id,h3⟩
 | 11=>obtain⟨mp,b,g,gt,A,C,A2,C2,gd,h0,h1,h2,h3,h4,h5,h6,h7,h8⟩:=h;exact⟨mp,b,g,gt,A,C,A2,C2,gd,h0,h1.same hs,h2,h3.ag hs id,h4.ag hs id,h5.ag hs (fun _ _=>id),h6.ag hs (fun _ _=>id),h7.ag hs id,h8⟩
 | 12=>obtain⟨pp,k1,k2,mp,b,g,gt,A,C,A2,C2,gd,h0,h1,h2,h3,h4,h5,h6,h7,h8⟩:=h;exact⟨pp,k1,k2,mp,b,g,gt,A,C,A2,C2,gd,h0.ag hs id,h1.same hs,h2,h3.ag hs id,h4.ag hs id,h5.ag hs (fun _ _=>id),h6.ag hs (fun _ _=>id),h7.ag hs id,h8⟩
 | 13=>obtain⟨pp,k1,k2,mp,b,g,gt,A,C,A2,C2,gd,h0,h1,h2,h3,h4,h5,h6,h7,h8⟩:=h;exact⟨pp,k1,k2,mp,b,g,gt,A,C,A2,C2,gd,h0.ag hs id,h1.same hs,h2,h3.ag hs id,h4.ag hs id,h5.ag hs (fun _ _=>id),h6.ag hs (fun _ _=>id),h7.ag hs id,h8⟩
 | _+15=>trivial
theorem iw {o:Oper} {F:Nat→Prop} (h:∀ e∈o.after,Region.binds .any e=true→F e.on) (j:Nat) (hj:(o.after.any fun e=>Region.binds .any e&&e.on == j)=true):F j:=by
 rw[Array.any_eq_true'] at hj;obtain⟨e,he,hb⟩:=hj;simp only[Bool.and_eq_true,beq_iff_eq] at hb;rw[← hb.2];exact h e he hb.1
theorem P6 (a:Act) (n:Nat) (h:a.tmps.size=n):a=⟨((List.range n).map fun i=>a.tmps.getD i undef).toArray,a.defers⟩:=by
 obtain⟨t,d⟩:=a;congr 1;apply Array.ext
 ·simp[← h]
 ·intro i h1 h2;simp[Array.getD_eq_getD_getElem?,h1]
theorem Own.yP {w:World} {e:TypeId} {m:Nat} {α:Type} {f:α→List Value} (hf:∀ x,(f x).length=m) {g:Nat} {cs:Array Value} (hb:ax w g e cs) (xs:List α) (hmax:xs.length≤maxLen) (hcs:cs=(xs.flatMap f).toArray):Go.Tk.Own w e m f (some ⟨g,0,none⟩) xs.length xs.length xs:=by
 subst hcs;refine⟨rfl,bg f m hf xs,.inr ⟨g,xs.length,_,rfl,Nat.zero_le _,hb,Nat.le_refl _,hmax,?_,?_⟩⟩
 ·rw[List.size_toArray,bg f m hf]
 ·rw[List.toList_toArray];apply List.take_of_length_le;rw[bg f m hf];exact Nat.le_refl _
section
variable {w w':World} {n:Nat}
theorem Jy (n c:Nat) (h1:1≤n) (h2:n≤16) (h3:2≤c) (h4:c≤1048576) (w:World) :
  Calls Tryz.prog 27 #[.int .i64 n,.int .i64 c] w fun e w'=>∃ pp q,e=.returned (.tuple #[.pointer (some ⟨pp,0,none⟩),.bool true])∧PW (fun b=>b<w.heap.size) w' pp (wG n c) q∧Same w w':=by
 have hnw:=BK (w:=w) n c h1 (by omega) h3 h4;have hnm:=fun w'=>zY n c w' h2
 have hct:∀ (b:Bool) w',Calls Tryz.prog 65 #[.int .i64 n,.bool b] w' (EE w' n (aG n b)):=fun b w'=>o5 n b w' h2
 have UX:=Lib.hid hnw;have HNM:=Lib.hid hnm;have ZR:=Lib.hid hct;have hn16:=Lib.hid h2;clear hnw hnm hct h1 h2 h3 h4;go_enter Tryz.func27,Tryz.ntmps27;go_wp2_with (fail)
 refine UX.out.mono ?_;rintro e w1 ⟨kp,a,rfl,hk1,hs1,hf1⟩;have pq:=Lib.hid hk1;have aX:=Lib.hid hs1;have HF1:=Lib.hid hf1;clear hk1 hs1 hf1;go_upto_region 4 with fail
 refine KG (V:=CK n c kp w1.heap.size) (by kernel_rfl) (by kernel_rfl) MQ ?_ ?_
 ·intro i o ho b w' hs hsz hde hold rW;have hi:i<15:=(Array.getElem?_eq_some_iff.1 ho).1;have hz:b.tmps.size=33:=hsz;have e0:b.tmps.getD 0 undef=.int .i64 n:=hold 0 (by decide);have e1:b.tmps.getD 1 undef=.int .i64 c:=hold 1 (by decide);have e6:b.tmps.getD 6 undef=.pointer (some ⟨kp,0,none⟩):=hold 6 (by decide)
  match i with
  | 0 =>
   injection ho with ho
   subst ho;go_simp;exact⟨_,rfl,ah.refl _ _,rfl⟩
  | 1 =>
   injection ho with ho
   subst ho;go_simp;exact⟨_,rfl,ah.refl _ _,rfl⟩
  | 2 =>
   injection ho with ho
   subst ho;go_simp;exact⟨_,rfl,ah.refl _ _,rfl⟩
  | 3 =>
   injection ho with ho
   subst ho;have d1:=iw (F:=fun j=>CK n c kp w1.heap.size j (dB b (dK _ j)) w') rW 1 (by kernel_rfl);have d2:=iw (F:=fun j=>CK n c kp w1.heap.size j (dB b (dK _ j)) w') rW 2 (by kernel_rfl);have f1:b.tmps.getD 21 undef=.int .i64 n:=d1;have f2:b.tmps.getD 22 undef=.int .i64 c:=d2;go_simp;refine(HNM.out w').mono ?_;rintro e w2 ⟨mp,b2,rfl,hm2,hs2,hf2⟩;exact⟨_,rfl,hs2,mp,b2,rfl,hm2,fun x hx=>Nat.le_trans hs.size (hf2 x hx)⟩
  | 4 =>
   injection ho with ho
   subst ho;go_simp;exact⟨_,rfl,(ah.refl _ _).alloc _,w'.heap.size,rfl,ax.new w' _ _,hs.size⟩
  | 5 =>
   injection ho with ho
   subst ho;go_simp;exact⟨_,rfl,ah.refl _ _,rfl⟩
  | 6 =>
   injection ho with ho
   subst ho;have d5:=iw (F:=fun j=>CK n c kp w1.heap.size j (dB b (dK _ j)) w') rW 5 (by kernel_rfl);have f5:b.tmps.getD 25 undef=.int .i64 n:=d5;go_simp;refine(ZR.out false w').mono ?_;rintro e w2 ⟨A,C,rfl,hN⟩;exact⟨_,rfl,hN.2.2,A,C,rfl,hN.1⟩
  | 7 =>
   injection ho with ho
   subst ho;go_simp;exact⟨_,rfl,ah.refl _ _,rfl⟩
  | 8 =>
   injection ho with ho
   subst ho;have d7:=iw (F:=fun j=>CK n c kp w1.heap.size j (dB b (dK _ j)) w') rW 7 (by kernel_rfl);have f7:b.tmps.getD 27 undef=.int .i64 n:=d7;go_simp;refine(ZR.out true w').mono ?_;rintro e w2 ⟨A,C,rfl,hN⟩;exact⟨_,rfl,hN.2.2,A,C,rfl,hN.1⟩
  | 9 =>
   injection ho with ho
   subst ho;have d6:=iw (F:=fun j=>CK n c kp w1.heap.size j (dB b (dK _ j)) w') rW 6 (by kernel_rfl);have d8:=iw (F:=fun j=>CK n c kp w1.heap.size j (dB b (dK _ j)) w') rW 8 (by kernel_rfl);obtain⟨A6,C6,f6,hO6⟩:=d6;obtain⟨A8,C8,f8,hO8⟩:=d8;replace f6:b.tmps.getD 26 undef=_:=f6;replace f8:b.tmps.getD 28 undef=_:=f8;have f6':=f6;simp[hz] at f6';have f8':=f8;simp[hz] at f8';go_simp;have hsa:=(ah.refl (fun _=>False) w').alloc (.cells #[.int .i64 n,.slice A6 (aG n false).length C6,.int .i64 n,.slice A8 (aG n true).length C8] 108);exact⟨_,rfl,hsa,w'.heap.size,A6,C6,A8,C8,rfl,ax.new w' _ _,hO6.ag hsa (fun _ _=>id),hO8.ag hsa (fun _ _=>id),hs.size⟩
  | 10 =>
   injection ho with ho
   subst ho;have hmk:∀ w,(Instr.makeSlice 56 (.int .i64 2) (.int .i64 2)).run Tryz.prog w=.ok (.slice (some ⟨w.heap.size,0,none⟩) 2 2) (w.alloc (.cells #[.bool false,.bool false] 4)):=fun w=>by
    have h:=eZ (P:=Tryz.prog) Tryz.underlying56 kL .i64 .i64 2 (by decide) (by decide) w;have hc:madeCells (Value.bool false).cells (2*1)=#[.bool false,.bool false]:=by kernel_rfl
    rw[hc] at h;exact h
   go_simp;exact⟨_,rfl,(ah.refl _ _).alloc _,w'.heap.size,rfl,ax.new w' _ _,hs.size⟩
  | 11 =>
   injection ho with ho
   subst ho;have d0:=iw (F:=fun j=>CK n c kp w1.heap.size j (dB b (dK _ j)) w') rW 0 (by kernel_rfl);have d3:=iw (F:=fun j=>CK n c kp w1.heap.size j (dB b (dK _ j)) w') rW 3 (by kernel_rfl);have d4:=iw (F:=fun j=>CK n c kp w1.heap.size j (dB b (dK _ j)) w') rW 4 (by kernel_rfl);have d9:=iw (F:=fun j=>CK n c kp w1.heap.size j (dB b (dK _ j)) w') rW 9 (by kernel_rfl);have d10:=iw (F:=fun j=>CK n c kp w1.heap.size j (dB b (dK _ j)) w') rW 10 (by kernel_rfl);obtain⟨mp,b2,f3,hm,Vn⟩:=d3;obtain⟨g,f4,hg,hWg⟩:=d4;obtain⟨gt,A,C,A2,C2,f9,hgt,hA,hA2,hWt⟩:=d9;obtain⟨gd,f10,hgd,hWd⟩:=d10;replace d0:b.tmps.getD 20 undef=_:=d0;replace f3:b.tmps.getD 23 undef=_:=f3;replace f4:b.tmps.getD 24 undef=_:=f4;replace f9:b.tmps.getD 29 undef=_:=f9;replace f10:b.tmps.getD 30 undef=_:=f10;have d0':=d0;simp[hz] at d0';have f3':=f3;simp[hz] at f3';have f4':=f4;simp[hz] at f4';have f9':=f9;simp[hz] at f9';have abC:=f10;simp[hz] at abC;go_simp;exact⟨_,rfl,ah.refl _ _,mp,b2,g,gt,A,C,A2,C2,gd,rfl,hm,Vn,hg,hgt,hA,hA2,hgd,hWg,hWt,hWd⟩
  | 12 =>
   injection ho with ho
   subst ho;have d11:=iw (F:=fun j=>CK n c kp w1.heap.size j (dB b (dK _ j)) w') rW 11 (by kernel_rfl);obtain⟨mp,b2,g,gt,A,C,A2,C2,gd,f11,hm,Vn,hg,hgt,hA,hA2,hgd,hW⟩:=d11;replace f11:b.tmps.getD 31 undef=_:=f11;have f11':=f11;simp[hz] at f11';go_simp;have hsa:=(ah.refl (fun _=>False) w').alloc (.cells #[.pointer (some ⟨kp,0,none⟩),.pointer (some ⟨mp,0,none⟩),.slice (some ⟨g,0,none⟩) 2 2,.slice (some ⟨gt,0,none⟩) 2 2,.slice none 0 0,.slice (some ⟨gd,0,none⟩) 2 2] 58);exact⟨_,rfl,hsa,w'.heap.size,rfl,hs.size,mp,b2,g,gt,A,C,A2,C2,gd,ax.new w' _ _,hm.same hsa,Vn,hg.ag hsa id,hgt.ag hsa id,hA.ag hsa (fun _ _=>id),hA2.ag hsa (fun _ _=>id),hgd.ag hsa id,hW⟩
  | 13 =>
   injection ho with ho
   subst ho;have d12:=iw (F:=fun j=>CK n c kp w1.heap.size j (dB b (dK _ j)) w') rW 12 (by kernel_rfl);obtain⟨pp,f12,hrest⟩:=d12;replace f12:b.tmps.getD 32 undef=_:=f12;have abD:=f12;simp[hz] at abD;go_simp;exact⟨_,rfl,ah.refl _ _,pp,rfl,hrest⟩
  | 14 =>
   injection ho with ho
   subst ho;go_simp;exact⟨_,rfl,ah.refl _ _,rfl⟩
  | _+15=>omega
 ·intro b w' hs hsz hde hold hV;have h4:CK n c kp w1.heap.size 13 (b.tmps.getD 4 undef) w':=hV 13 (by decide);have h5:b.tmps.getD 5 undef=.bool true:=hV 14 (by decide);obtain⟨pp,f4,hW,mp,b2,g,gt,A,C,A2,C2,gd,hpb,hm,Vn,hg,hgt,hA,hA2,hgd,hWg,hWt,hWd⟩:=h4;have hb:=P6 b 33 hsz;replace hde:b.defers=[]:=hde;rw[hde] at hb;simp only[List.range,List.range.loop,List.map_cons,List.map_nil] at hb;rw[f4,h5] at hb;have HB:=Lib.hid hb;have hlow:w.heap.size≤w1.heap.size:=aX.out.size;have hk:=pq.out.same hs;have hS:=aX.out.trans hs (fun _ _ h=>h);have hfin:PW (fun b=>b<w.heap.size) w' pp (wG n c) ⟨kp,a,mp,b2,some ⟨g,0,none⟩,2,some ⟨gt,0,none⟩,2,[⟨n,A,C,aG n false⟩,⟨n,A2,C2,aG n true⟩],none,0,[],some ⟨gd,0,none⟩,2⟩:=by
   have hkl:∀ x,ML pp ⟨kp,a,mp,b2,some ⟨g,0,none⟩,2,some ⟨gt,0,none⟩,2,[⟨n,A,C,aG n false⟩,⟨n,A2,C2,aG n true⟩],none,0,[],some ⟨gd,0,none⟩,2⟩ x→w1.heap.size≤x:=by
    rintro x (rfl | ⟨y,hy,rfl⟩ | ⟨y,hy,rfl⟩ | ⟨y,hy,rfl⟩ | ⟨y,hy,rfl⟩ | hx)
    ·exact hW
    ·injection hy with hy
     subst hy;exact hWg
    ·injection hy with hy
     subst hy;exact hWt
    ·cases hy
    ·injection hy with hy
     subst hy;exact hWd
    ·exact Vn x hx
   refine⟨hpb,hk,hm,Own.yP (f:=fun x=>[rc x]) (fun _=>rfl) hg [0,1] (by decide) rfl,Own.yP Tb.ak hgt _ (by simp[maxLen]) rfl,?_,rfl,Own.nil _ _ _ _,fun t ht=>(by cases ht),rfl,Own.yP (f:=fun b:Bool=>[.bool b]) (fun _=>rfl) hgd [false,false] (by decide) rfl,?_,?_,?_⟩
   ·intro t ht;simp only[List.mem_cons,List.not_mem_nil,or_false] at ht;rcases ht with rfl | rfl
    ·exact⟨rfl,hA,gG hn16.out,fun x hx=>kX x hx⟩
    ·exact⟨rfl,hA2,gG hn16.out,fun x hx=>kX x hx⟩
   ·intro x hx hkx;have h1:=hkl x hx;have h2:=pq.out.lt hkx;omega
   ·rintro x _ ⟨y,hy,_⟩;cases hy
   ·rintro x (hx | hx)
    ·exact Nat.not_lt.2 (HF1.out x hx)
    ·exact Nat.not_lt.2 (Nat.le_trans hlow (hkl x hx))
  have aF:=Lib.hid hfin;have HSS:=Lib.hid hS;clear hfin hS hk hlow hpb hm Vn hg hgt hA hA2 hgd hW hWg hWt hWd f4 h5 hV hold hs hb;rw[HB.out];generalize b.tmps=bt;go_wp2;go_ret2;exact⟨pp,rfl,⟨_,aF.out⟩,HSS.out⟩
end
theorem PW.MR {B B':Nat→Prop} {w:World} {pp:Nat} {p:PS} {q:PA} (h:PW B w pp p q) (hb:∀ b,gX p.k.n q.kp q.a b∨ML pp q b→¬ B' b):PW B' w pp p q:={ h with base:=hb }
theorem PW.MU {B:Nat→Prop} {w:World} {pp:Nat} {p:PS} {q:PA} (h:PW B w pp p q):∀ b,gX p.k.n q.kp q.a b∨ML pp q b→b<w.heap.size:=fun b hb=>hb.elim (fun h1=>h.k.lt h1) (fun h1=>h.Vi b h1)
def st0:PS:=countP (wG 2 5)
def st1:PS:=countP (lY st0 1 0 1)
def st2:PS:=countP (lY st1 0 0 2)
def tL:PS:=countP (CJ st2 2)
theorem MV:bW st0 0=true∧bW st0 1=true:=by decide +kernel
theorem Ua:(ay st0.k (qE st0 1 0 1)).2.1=(o9 st0 1 0 1).2.2:=by decide +kernel
theorem ET:(ay st0.k (qE st0 1 0 1)).2.2.n=st0.k.n∧(o9 st0 1 0 1).1.n=st0.m.n∧(o9 st0 1 0 1).2.2=0:=by decide +kernel
theorem MX:bW st1 0=true∧bW st1 2=true:=by decide +kernel
theorem Ub:(ay st1.k (qE st1 0 0 2)).2.1=(o9 st1 0 0 2).2.2:=by decide +kernel
theorem EU:(ay st1.k (qE st1 0 0 2)).2.2.n=st1.k.n∧(o9 st1 0 0 2).1.n=st1.m.n∧(o9 st1 0 0 2).2.2=0:=by decide +kernel
theorem Uc:bW st2 2=true:=by decide +kernel
theorem Ud:(aD st2.k (st2.refs.getD (2:Int).toNat 0)).1=(oI st2.m (st2.ts.getD (2:Int).toNat [])).2:=by decide +kernel
theorem MZ:(aD st2.k (st2.refs.getD (2:Int).toNat 0)).2.n=st2.k.n∧(oI st2.m (st2.ts.getD (2:Int).toNat [])).1.n=st2.m.n:=by decide +kernel
theorem Ue:(eX tL.k 0).1=(qC tL.m 0).2:=by decide +kernel
theorem M0:(eX tL.k 0).2.n=tL.k.n∧(qC tL.m 0).1.n=tL.m.n:=by decide +kernel
def Uf (k:KS):Prop:=∀ r:Int,0≤r→r<4294967296→fQ k.ls r=0→0≤(aI k.ls r).lo∧(aI k.ls r).lo<4294967296∧0≤(aI k.ls r).hi∧(aI k.ls r).hi<4294967296
def iX (k:KS) (n:Nat):Nat→Int→Option (List Nat)
 | 0,r=>if r=0∨r=1 then some (aG n (decide (r=1))) else none
 | f+1,r=>if r=0∨r=1 then some (aG n (decide (r=1))) else
  if fQ k.ls r≠0∨(aI k.ls r).v<0∨(n:Int)≤(aI k.ls r).v then none else
  match iX k n f (aI k.ls r).lo,iX k n f (aI k.ls r).hi with
  | some x,some y=>some (qJ n (aI k.ls r).v.toNat x y)
  | _,_=>none
def kz (w:World) (n:Nat) (o:Option (List Nat)) (e:Ending) (w':World):Prop :=
 ∃ A C,e=.returned (.tuple #[.agg #[.int .i64 (if o.isSome then (n:Int) else 0),.slice A (o.getD []).length C],.bool o.isSome])∧xN w (o.getD []) A C w'
theorem yQ {k:KS} {n:Nat} (hn:n≤16):∀ (f:Nat) (r:Int) (z:List Nat),iX k n f r=some z→lU n z∧Small z:=by
 intro f
 induction f with
 | zero =>
  intro r z h;unfold iX at h;split at h
  ·injection h with h
   subst h;exact⟨gG hn,fun x hx=>kX x hx⟩
  ·cases h
 | succ f ih =>
  intro r z h;unfold iX at h;split at h
  ·injection h with h
   subst h;exact⟨gG hn,fun x hx=>kX x hx⟩
  ·split at h
   ·cases h
   ·split at h
    ·injection h with h
     subst h;exact⟨gG hn,fun x hx=>kX x hx⟩
    ·cases h
section
variable {w w':World} {n:Nat} {t:Tb} {kp:Nat} {k:KS} {a:KA}
theorem sU (r:Int) (hr:r=0∨r=1) (hn:n≤16) (deep:Nat) (w:World) :
  Calls Tryz.prog 69 #[.pointer (some ⟨kp,0,none⟩),.int .u32 r,.int .i64 n,.int .i64 deep] w (kz w n (some (aG n (decide (r=1))))):=by
 have hc:∀ (b:Bool) w',Calls Tryz.prog 65 #[.int .i64 n,.bool b] w' (EE w' n (aG n b)):=fun b w'=>o5 n b w' hn
 have HC:=Lib.hid hc;clear hc;rcases hr with rfl | rfl
 ·show Calls _ _ _ _ (kz w n (some (aG n false)));go_enter Tryz.func69,Tryz.ntmps69;go_upto_region 1 with fail
  refine ai fun w1 hw1=>?_
  have hs1:Same w w1:=by rw[hw1];exact(ah.refl _ _).alloc _
  have hR:=ax.new w 108 #[.int .i64 0,.slice none 0 0];rw[← hw1] at hR;clear hw1;go_wp2_with (fail)
  refine(HC.out false w1).mono ?_;rintro e w2 ⟨A,C,rfl,hN⟩;have hR2:=hR.ag hN.2.2 id;have r0:=hR2.cell 0;have r1:=hR2.cell 1;have rl:=hR2.lt;have g0:=hR2.free 0;have g1:=hR2.free 1;simp at r0 r1;have HR2:=Lib.hid hR2;have Br:=Lib.hid hN.1;have CG:∀ x,A=some x→x.block≠w.heap.size:=fun x hx h=>hN.1.av hR2 (by decide) x hx h
  have HA:=Lib.hid CG;have HF:=Lib.hid (show bQ w.heap.size A from fun b hb=>by have:=hN.2.1 b hb;have:=hs1.size;omega);have HS:=Lib.hid (hs1.trans hN.2.2 (fun _ _ h=>h));clear hN hR2 hR hs1 CG;go_wp2;refine bE fun we bY=>?_
  have dx:ax we w.heap.size 108 #[.int .i64 n,.slice A (aG n false).length C]:=by
   rw[bY]
   have:=(HR2.out.set 0 (.int .i64 n)).set 1 (.slice A (aG n false).length C)
   simpa using this
  have xP:dN we A (aG n false).length C (aG n false):=by
   rw[bY];exact(Own.far (p:=⟨w.heap.size,0,none⟩) Br.out HA.out _).far (p:=⟨w.heap.size,1,none⟩) HA.out _
  have jl:Same w we:=by rw[bY];exact(HS.out.aj 0 _ (Nat.le_refl _)).aj 1 _ (Nat.le_refl _)
  have hr0:=dx.cell 0;have hr1:=dx.cell 1;simp at hr0 hr1;clear bY dx;refine bodyPost_ret (v:=.tuple #[.agg #[.int .i64 n,.slice A (aG n false).length C],.bool true]) (by simp[results,Tryz.results69,go_sem,hr0,hr1]) rfl ?_;exact⟨A,C,rfl,xP,HF.out,jl⟩
 ·show Calls _ _ _ _ (kz w n (some (aG n true)));go_enter Tryz.func69,Tryz.ntmps69;go_upto_region 1 with fail
  refine ai fun w1 hw1=>?_
  have hs1:Same w w1:=by rw[hw1];exact(ah.refl _ _).alloc _
  have hR:=ax.new w 108 #[.int .i64 0,.slice none 0 0];rw[← hw1] at hR;clear hw1;go_wp2_with (fail)
  refine(HC.out true w1).mono ?_;rintro e w2 ⟨A,C,rfl,hN⟩;have hR2:=hR.ag hN.2.2 id;have r0:=hR2.cell 0;have r1:=hR2.cell 1;have rl:=hR2.lt;have g0:=hR2.free 0;have g1:=hR2.free 1;simp at r0 r1;have HR2:=Lib.hid hR2;have Br:=Lib.hid hN.1;have CG:∀ x,A=some x→x.block≠w.heap.size:=fun x hx h=>hN.1.av hR2 (by decide) x hx h
  have HA:=Lib.hid CG;have HF:=Lib.hid (show bQ w.heap.size A from fun b hb=>by have:=hN.2.1 b hb;have:=hs1.size;omega);have HS:=Lib.hid (hs1.trans hN.2.2 (fun _ _ h=>h));clear hN hR2 hR hs1 CG;go_wp2;refine bE fun we bY=>?_
  have dx:ax we w.heap.size 108 #[.int .i64 n,.slice A (aG n true).length C]:=by
   rw[bY]
   have:=(HR2.out.set 0 (.int .i64 n)).set 1 (.slice A (aG n true).length C)
   simpa using this
  have xP:dN we A (aG n true).length C (aG n true):=by
   rw[bY];exact(Own.far (p:=⟨w.heap.size,0,none⟩) Br.out HA.out _).far (p:=⟨w.heap.size,1,none⟩) HA.out _
  have jl:Same w we:=by rw[bY];exact(HS.out.aj 0 _ (Nat.le_refl _)).aj 1 _ (Nat.le_refl _)
  have hr0:=dx.cell 0;have hr1:=dx.cell 1;simp at hr0 hr1;clear bY dx;refine bodyPost_ret (v:=.tuple #[.agg #[.int .i64 n,.slice A (aG n true).length C],.bool true]) (by simp[results,Tryz.results69,go_sem,hr0,hr1]) rfl ?_;exact⟨A,C,rfl,xP,HF.out,jl⟩
theorem yR (r:Int) (h0:r≠0) (h1:r≠1) (D:Nat) (N:Nd) (E:Int) (w:World) (hnq:∀ w',Same w w'→Calls Tryz.prog 20 #[.pointer (some ⟨kp,0,none⟩),.int .u32 r] w' fun e w''=>e=.returned (.tuple #[N.val,.int .i64 E])∧Same w' w'')
  (hE:E=0∨E=3) (hb:E≠0∨n<D∨N.v<0∨(n:Int)≤N.v) :
  Calls Tryz.prog 69 #[.pointer (some ⟨kp,0,none⟩),.int .u32 r,.int .i64 n,.int .i64 D] w (kz w n none):=by
 have b0:(r == 0)=false:=by simpa using h0
 have b1:(r == 1)=false:=by simpa using h1
 unfold Nd.val at hnq;have P7:=Lib.hid hnq;clear hnq;rcases hE with rfl | rfl
 ·by_cases c1:(D:Int)>(n:Int)
  ·clear hb;go_enter Tryz.func69,Tryz.ntmps69;go_upto_region 1 with fail
   refine ai fun w1 hw1=>?_
   have hs1:Same w w1:=by rw[hw1];exact(ah.refl _ _).alloc _
   have hR:=ax.new w 108 #[.int .i64 0,.slice none 0 0];rw[← hw1] at hR;clear hw1;go_wp2_with (fail)
   refine(P7.out w1 hs1).mono ?_;rintro e w2 ⟨rfl,hs2⟩;go_upto_region 4 with fail
   refine ai fun w3 hw3=>?_
   have hX:ax w3 w2.heap.size 37 #[.int .i64 N.v,.int .u32 N.lo,.int .u32 N.hi]:=by
    rw[hw3];exact ax.new w2 _ _
   have hs3:Same w2 w3:=by rw[hw3];exact(ah.refl _ _).alloc _
   clear hw3;have fP:=hR.ag (hs2.trans hs3 (fun _ _ h=>h)) id;have HS:=Lib.hid (hs1.trans (hs2.trans hs3 (fun _ _ h=>h)) (fun _ _ h=>h));have r0:=fP.cell 0;have r1:=fP.cell 1;have rl:=fP.lt;have g0:=fP.free 0;have g1:=fP.free 1;have x0:=hX.cell 0;have x1:=hX.cell 1;have x2:=hX.cell 2;have xl:=hX.lt;simp at r0 r1 x0 x1 x2;have HR:=Lib.hid fP;have HX:=Lib.hid hX;have Ay:w.heap.size≠w2.heap.size:=by have:=hR.ag hs2 id |>.lt;omega
   clear hR fP hs1 hs2 hs3 hX;go_wp2;refine bE fun we bY=>?_
   have dx:ax we w.heap.size 108 #[.int .i64 0,.slice none 0 0]:=by
    rw[bY]
    have:=(HR.out.set 0 (.int .i64 0)).set 1 (.slice none 0 0)
    simpa using this
   have jl:Same w we:=by rw[bY];exact(HS.out.aj 0 _ (Nat.le_refl _)).aj 1 _ (Nat.le_refl _)
   have hr0:=dx.cell 0;have hr1:=dx.cell 1;simp at hr0 hr1;clear bY dx;refine bodyPost_ret (v:=.tuple #[.agg #[.int .i64 0,.slice none 0 0],.bool false]) (by simp[results,Tryz.results69,go_sem,hr0,hr1]) rfl ?_;exact⟨none,0,rfl,Own.nil _ _ _ _,aS _,jl⟩
  ·by_cases c2:N.v<0
   ·clear hb;go_enter Tryz.func69,Tryz.ntmps69;go_upto_region 1 with fail
    refine ai fun w1 hw1=>?_
    have hs1:Same w w1:=by rw[hw1];exact(ah.refl _ _).alloc _
    have hR:=ax.new w 108 #[.int .i64 0,.slice none 0 0];rw[← hw1] at hR;clear hw1;go_wp2_with (fail)
    refine(P7.out w1 hs1).mono ?_;rintro e w2 ⟨rfl,hs2⟩;go_upto_region 4 with fail
    refine ai fun w3 hw3=>?_
    have hX:ax w3 w2.heap.size 37 #[.int .i64 N.v,.int .u32 N.lo,.int .u32 N.hi]:=by
     rw[hw3];exact ax.new w2 _ _
    have hs3:Same w2 w3:=by rw[hw3];exact(ah.refl _ _).alloc _
    clear hw3;have fP:=hR.ag (hs2.trans hs3 (fun _ _ h=>h)) id;have HS:=Lib.hid (hs1.trans (hs2.trans hs3 (fun _ _ h=>h)) (fun _ _ h=>h));have r0:=fP.cell 0;have r1:=fP.cell 1;have rl:=fP.lt;have g0:=fP.free 0;have g1:=fP.free 1;have x0:=hX.cell 0;have x1:=hX.cell 1;have x2:=hX.cell 2;have xl:=hX.lt;simp at r0 r1 x0 x1 x2;have HR:=Lib.hid fP;have HX:=Lib.hid hX;have Ay:w.heap.size≠w2.heap.size:=by have:=hR.ag hs2 id |>.lt;omega
    clear hR fP hs1 hs2 hs3 hX;go_wp2;refine bE fun we bY=>?_
    have dx:ax we w.heap.size 108 #[.int .i64 0,.slice none 0 0]:=by
     rw[bY]
     have:=(HR.out.set 0 (.int .i64 0)).set 1 (.slice none 0 0)
     simpa using this
    have jl:Same w we:=by rw[bY];exact(HS.out.aj 0 _ (Nat.le_refl _)).aj 1 _ (Nat.le_refl _)
    have hr0:=dx.cell 0;have hr1:=dx.cell 1;simp at hr0 hr1;clear bY dx;refine bodyPost_ret (v:=.tuple #[.agg #[.int .i64 0,.slice none 0 0],.bool false]) (by simp[results,Tryz.results69,go_sem,hr0,hr1]) rfl ?_;exact⟨none,0,rfl,Own.nil _ _ _ _,aS _,jl⟩
   ·have c3:N.v≥(n:Int):=by omega
    clear hb;go_enter Tryz.func69,Tryz.ntmps69;go_upto_region 1 with fail
    refine ai fun w1 hw1=>?_
    have hs1:Same w w1:=by rw[hw1];exact(ah.refl _ _).alloc _
    have hR:=ax.new w 108 #[.int .i64 0,.slice none 0 0];rw[← hw1] at hR;clear hw1;go_wp2_with (fail)
    refine(P7.out w1 hs1).mono ?_;rintro e w2 ⟨rfl,hs2⟩;go_upto_region 4 with fail
    refine ai fun w3 hw3=>?_
    have hX:ax w3 w2.heap.size 37 #[.int .i64 N.v,.int .u32 N.lo,.int .u32 N.hi]:=by
     rw[hw3];exact ax.new w2 _ _
    have hs3:Same w2 w3:=by rw[hw3];exact(ah.refl _ _).alloc _
    clear hw3;have fP:=hR.ag (hs2.trans hs3 (fun _ _ h=>h)) id;have HS:=Lib.hid (hs1.trans (hs2.trans hs3 (fun _ _ h=>h)) (fun _ _ h=>h));have r0:=fP.cell 0;have r1:=fP.cell 1;have rl:=fP.lt;have g0:=fP.free 0;have g1:=fP.free 1;have x0:=hX.cell 0;have x1:=hX.cell 1;have x2:=hX.cell 2;have xl:=hX.lt;simp at r0 r1 x0 x1 x2;have HR:=Lib.hid fP;have HX:=Lib.hid hX;have Ay:w.heap.size≠w2.heap.size:=by have:=hR.ag hs2 id |>.lt;omega
    clear hR fP hs1 hs2 hs3 hX;go_wp2;refine bE fun we bY=>?_
    have dx:ax we w.heap.size 108 #[.int .i64 0,.slice none 0 0]:=by
     rw[bY]
     have:=(HR.out.set 0 (.int .i64 0)).set 1 (.slice none 0 0)
     simpa using this
    have jl:Same w we:=by rw[bY];exact(HS.out.aj 0 _ (Nat.le_refl _)).aj 1 _ (Nat.le_refl _)
    have hr0:=dx.cell 0;have hr1:=dx.cell 1;simp at hr0 hr1;clear bY dx;refine bodyPost_ret (v:=.tuple #[.agg #[.int .i64 0,.slice none 0 0],.bool false]) (by simp[results,Tryz.results69,go_sem,hr0,hr1]) rfl ?_;exact⟨none,0,rfl,Own.nil _ _ _ _,aS _,jl⟩
 ·clear hb;go_enter Tryz.func69,Tryz.ntmps69;go_upto_region 1 with fail
  refine ai fun w1 hw1=>?_
  have hs1:Same w w1:=by rw[hw1];exact(ah.refl _ _).alloc _
  have hR:=ax.new w 108 #[.int .i64 0,.slice none 0 0];rw[← hw1] at hR;clear hw1;go_wp2_with (fail)
  refine(P7.out w1 hs1).mono ?_;rintro e w2 ⟨rfl,hs2⟩;go_upto_region 4 with fail
  refine ai fun w3 hw3=>?_
  have hX:ax w3 w2.heap.size 37 #[.int .i64 N.v,.int .u32 N.lo,.int .u32 N.hi]:=by
   rw[hw3];exact ax.new w2 _ _
  have hs3:Same w2 w3:=by rw[hw3];exact(ah.refl _ _).alloc _
  clear hw3;have fP:=hR.ag (hs2.trans hs3 (fun _ _ h=>h)) id;have HS:=Lib.hid (hs1.trans (hs2.trans hs3 (fun _ _ h=>h)) (fun _ _ h=>h));have r0:=fP.cell 0;have r1:=fP.cell 1;have rl:=fP.lt;have g0:=fP.free 0;have g1:=fP.free 1;have x0:=hX.cell 0;have x1:=hX.cell 1;have x2:=hX.cell 2;have xl:=hX.lt;simp at r0 r1 x0 x1 x2;have HR:=Lib.hid fP;have HX:=Lib.hid hX;have Ay:w.heap.size≠w2.heap.size:=by have:=hR.ag hs2 id |>.lt;omega
  clear hR fP hs1 hs2 hs3 hX;go_wp2;refine bE fun we bY=>?_
  have dx:ax we w.heap.size 108 #[.int .i64 0,.slice none 0 0]:=by
   rw[bY]
   have:=(HR.out.set 0 (.int .i64 0)).set 1 (.slice none 0 0)
   simpa using this
  have jl:Same w we:=by rw[bY];exact(HS.out.aj 0 _ (Nat.le_refl _)).aj 1 _ (Nat.le_refl _)
  have hr0:=dx.cell 0;have hr1:=dx.cell 1;simp at hr0 hr1;clear bY dx;refine bodyPost_ret (v:=.tuple #[.agg #[.int .i64 0,.slice none 0 0],.bool false]) (by simp[results,Tryz.results69,go_sem,hr0,hr1]) rfl ?_;exact⟨none,0,rfl,Own.nil _ _ _ _,aS _,jl⟩
end
end Go.Proofs.YtiomgckodmecbaaGreat
