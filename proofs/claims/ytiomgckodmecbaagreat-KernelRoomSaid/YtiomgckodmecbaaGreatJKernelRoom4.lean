/- Contracts and plain laws, put together in one file. No condition. -/
import Derived.Test.YtiomgckodmecbaaGreatJ3
import Derived.Test.YtiomgckodmecbaaGreatProg
import Derived.KernelRfl
import Derived.Maps.RangeWalk
import Derived.Maps.OwnSet
import Derived.DeepKeys4

set_option maxRecDepth 100000
set_option maxHeartbeats 32000000
namespace Go.Proofs.YtiomgckodmecbaaGreat
open Go.RowKit Go.Tk
structure Nd where
 v:Int
 lo:Int
 hi:Int
deriving DecidableEq,Inhabited
def Nd.cells (n:Nd):List Value:=[.int .i64 n.v,.int .u32 n.lo,.int .u32 n.hi]
def Nd.val (n:Nd):Value:=.agg #[.int .i64 n.v,.int .u32 n.lo,.int .u32 n.hi]
theorem RN (x y:Nd) (w:World):(binOp .eql 37 x.val y.val).run Tryz.prog w=.ok (.bool (decide (x=y))) w:=by
 obtain⟨o,a,b⟩:=x;obtain⟨o',a',b'⟩:=y;unfold Nd.val;simp only[binOp];by_cases h1:o=o' <;> by_cases h2:a=a' <;> by_cases h3:b=b' <;> simp[Op.equal,Op.maxDepth,run_equalIn_struct,go_sem,h1,h2,h3]
structure Pl where
 n:Nd
 t:Bool
 c:Int
def Pl.cells (p:Pl):List Value:=[.int .i64 p.n.v,.int .u32 p.n.lo,.int .u32 p.n.hi,.bool p.t,.int .u8 p.c]
theorem Pl.ak (p:Pl):p.cells.length=5:=rfl
def rc (r:Int):Value:=.int .u32 r
def tk (ls:List Pl) (r:Int):Bool:=match ls[r.toNat]? with | some p=>p.t | none=>false
def J2 (ls:List Pl) (n:Nd):Int:=if n.v<0∨64≤n.v then 2 else if tk ls n.lo=false∨tk ls n.hi=false then 3 else 0
def qU (ls:List Pl) (r:Int):Int:=if r≤1∨tk ls r=false then 3 else 0
theorem nG (g:Nat) (v0 v2 v3:Value) (ls:List Pl) (A:Option Addr) (C:Nat) (r:Int) (w:World) (hb:ax w g 141 #[v0,.slice A ls.length C,v2,v3]) (ho:Go.Tk.Own w 166 5 Pl.cells A ls.length C ls)
  (_hm:ls.length<4294967296) (hr0:0≤r) (hr1:r<4294967296) :
  Calls Tryz.prog 119 #[.pointer (some ⟨g,0,none⟩),.int .u32 r] w fun e w'=>e=.returned (.bool (tk ls r))∧w=w':=by
 obtain⟨n,rfl⟩:=Int.eq_ofNat_of_zero_le hr0;have h1:=hb.cell 1;simp at h1;by_cases hlt:n<ls.length
 ·obtain⟨p,hp⟩:∃ p,ls[n]?=some p:=⟨_,List.getElem?_eq_getElem hlt⟩;obtain⟨sb,rfl,hsb,hc⟩:=ho.get Pl.ak hp;have c3:w.cell? ⟨sb,n*5+3,none⟩=some (.bool p.t):=hc 3 (by omega);have hi:(n:Int)<ls.length:=by omega
  have HP:=Lib.hid hp;clear hp ho hb hc;go_enter Tryz.func119,Tryz.ntmps119;go_wp2;go_ret;exact⟨by simp[tk,HP.out],rfl⟩
 ·have hi:decide ((n:Int)<(ls.length:Int))=false:=by simp <;> omega
  have HN:Hid (ls[n]?=none):=Lib.hid (List.getElem?_eq_none (by omega));clear ho hb;go_enter Tryz.func119,Tryz.ntmps119;go_wp2;go_ret;exact⟨by simp[tk,HN.out],rfl⟩
theorem Ia (g:Nat) (v0 v2 v3:Value) (ls:List Pl) (A:Option Addr) (C:Nat) (n:Nd) (w:World) (hb:ax w g 141 #[v0,.slice A ls.length C,v2,v3]) (ho:Go.Tk.Own w 166 5 Pl.cells A ls.length C ls)
  (hm:ls.length<4294967296) (hl0:0≤n.lo) (hl1:n.lo<4294967296) (hh0:0≤n.hi) (uQ:n.hi<4294967296) :
  Calls Tryz.prog 118 #[.pointer (some ⟨g,0,none⟩),n.val] w fun e w'=>e=.returned (.int .i64 (J2 ls n))∧Same w w':=by
 have tkl:∀ w',Same w w'→Calls Tryz.prog 119 #[.pointer (some ⟨g,0,none⟩),.int .u32 n.lo] w' fun e w''=>e=.returned (.bool (tk ls n.lo))∧w'=w'' :=
  fun w' h=>nG g v0 v2 v3 ls A C n.lo w' (hb.ag h id) (ho.ag h (fun _ _=>id)) hm hl0 hl1
 have tkh:∀ w',Same w w'→Calls Tryz.prog 119 #[.pointer (some ⟨g,0,none⟩),.int .u32 n.hi] w' fun e w''=>e=.returned (.bool (tk ls n.hi))∧w'=w'' :=
  fun w' h=>nG g v0 v2 v3 ls A C n.hi w' (hb.ag h id) (ho.ag h (fun _ _=>id)) hm hh0 uQ
 have TL:=Lib.hid tkl;have TH:=Lib.hid tkh;clear tkl tkh hb ho;unfold Nd.val;have hsame:Same w (w.alloc (.cells #[.int .i64 n.v,.int .u32 n.lo,.int .u32 n.hi] 37)):=(ah.refl _ _).alloc _;by_cases h1:n.v<0
 ·go_enter Tryz.func118,Tryz.ntmps118;go_wp2_with (fail)
  go_ret;exact⟨fG (by simp[J2,h1]),hsame⟩
 ·by_cases h2:n.v≥64
  ·go_enter Tryz.func118,Tryz.ntmps118;go_wp2_with (fail)
   go_ret;exact⟨fG (by simp[J2] <;> omega),hsame⟩
  ·go_enter Tryz.func118,Tryz.ntmps118;go_wp2_with (fail)
   refine(TL.out _ hsame).mono ?_;rintro e w1 ⟨rfl,rfl⟩;cases hl:tk ls n.lo with
   | false =>
    go_wp2_with (fail)
    go_ret;exact⟨fG (by simp only[J2];rw[if_neg (by omega),if_pos (.inl hl)]),hsame⟩
   | true =>
    go_wp2_with (fail)
    refine(TH.out _ hsame).mono ?_;rintro e w1 ⟨rfl,rfl⟩;cases hh:tk ls n.hi with
    | false =>
     go_wp2_with (fail)
     go_ret;exact⟨fG (by simp only[J2];rw[if_neg (by omega),if_pos (.inr hh)]),hsame⟩
    | true =>
     go_wp2_with (fail)
     go_ret;exact⟨fG (by simp only[J2];rw[if_neg (by omega),if_neg (by simp[hl,hh])]),hsame⟩
theorem Ou (g:Nat) (v0 v2 v3:Value) (ls:List Pl) (A:Option Addr) (C:Nat) (r:Int) (w:World) (hb:ax w g 141 #[v0,.slice A ls.length C,v2,v3]) (ho:Go.Tk.Own w 166 5 Pl.cells A ls.length C ls)
  (hm:ls.length<4294967296) (hr0:0≤r) (hr1:r<4294967296) :
  Calls Tryz.prog 120 #[.pointer (some ⟨g,0,none⟩),.int .u32 r] w fun e w'=>e=.returned (.int .i64 (qU ls r))∧w=w':=by
 have T:=Lib.hid (nG g v0 v2 v3 ls A C r w hb ho hm hr0 hr1);clear hb ho;by_cases h1:r≤1
 ·go_enter Tryz.func120,Tryz.ntmps120;go_wp2_with (fail)
  go_ret;exact⟨fG (by simp[qU,h1]),rfl⟩
 ·go_enter Tryz.func120,Tryz.ntmps120;go_wp2_with (fail)
  refine T.out.mono ?_;rintro e w1 ⟨rfl,rfl⟩;cases ht:tk ls r with
  | false =>
   go_wp2_with (fail)
   go_ret;exact⟨fG (by simp[qU,ht]),rfl⟩
  | true =>
   go_wp2_with (fail)
   go_ret;exact⟨fG (by simp[qU,ht,h1]),rfl⟩
structure lV (w:World) (g:Nat) (pl us:Int) (ls:List Pl) (fr:List Int) (A:Option Addr) (C:Nat) (A':Option Addr) (C':Nat):Prop where
 blk:ax w g 141 #[.int .i64 pl,.slice A ls.length C,.slice A' fr.length C',.int .i64 us]
 own:Go.Tk.Own w 166 5 Pl.cells A ls.length C ls
 qV:Row1 w 28 rc A' fr.length C' fr
 len:ls.length≤1048576
 VH:-4000000≤us
 UN:us≤4000000
def qH (g:Nat) (A A':Option Addr) (b:Nat):Prop:=b=g∨rowOf A b∨rowOf A' b
theorem lV.ag {w w':World} {S:Nat→Prop} {g:Nat} {pl us:Int} {ls:List Pl} {fr:List Int} {A:Option Addr} {C:Nat} {A':Option Addr} {C':Nat} (h:lV w g pl us ls fr A C A' C') (hf:ah S w w') (hs:∀ b,qH g A A' b→¬ S b) :
  lV w' g pl us ls fr A C A' C' :=
 ⟨h.blk.ag hf (hs _ (.inl rfl)),h.own.ag hf (fun a ha=>hs _ (.inr (.inl ⟨a,ha,rfl⟩))),h.qV.ag hf (fun a ha=>hs _ (.inr (.inr ⟨a,ha,rfl⟩))),h.len,h.VH,h.UN⟩
theorem lV.lt {w:World} {g:Nat} {pl us:Int} {ls:List Pl} {fr:List Int} {A:Option Addr} {C:Nat} {A':Option Addr} {C':Nat} (h:lV w g pl us ls fr A C A' C'):∀ b,qH g A A' b→b<w.heap.size:=by
 rintro b (rfl | ⟨a,ha,rfl⟩ | ⟨a,ha,rfl⟩)
 ·exact h.blk.lt
 ·exact h.own.block a ha
 ·exact h.qV.block a ha
theorem lV.apart {w:World} {g:Nat} {pl us:Int} {ls:List Pl} {fr:List Int} {A:Option Addr} {C:Nat} {A':Option Addr} {C':Nat} (h:lV w g pl us ls fr A C A' C') :
  (∀ b,rowOf A b→b≠g∧¬ rowOf A' b)∧(∀ b,rowOf A' b→b≠g∧¬ rowOf A b):=by
 refine⟨fun b hb=>⟨?_,h.own.aL h.qV (by decide) b hb⟩,fun b hb=>⟨?_,fun h2=>h.own.aL h.qV (by decide) b h2 hb⟩⟩
 ·obtain⟨a,ha,rfl⟩:=hb;exact h.own.av h.blk (by decide) a ha
 ·obtain⟨a,ha,rfl⟩:=hb;exact h.qV.av h.blk (by decide) a ha
section
variable {w:World} {g:Nat} {pl us:Int} {ls:List Pl} {fr:List Int} {A:Option Addr} {C:Nat} {A':Option Addr} {C':Nat}
theorem lV.check (h:lV w g pl us ls fr A C A' C') (n:Nd) (hl0:0≤n.lo) (hl1:n.lo<4294967296) (hh0:0≤n.hi) (uQ:n.hi<4294967296) :
  Calls Tryz.prog 118 #[.pointer (some ⟨g,0,none⟩),n.val] w fun e w'=>e=.returned (.int .i64 (J2 ls n))∧Same w w' :=
 Ia g _ _ _ ls A C n w h.blk h.own (by have:=h.len;omega) hl0 hl1 hh0 uQ
theorem lV.VI (h:lV w g pl us ls fr A C A' C') (r:Int) (hr0:0≤r) (hr1:r<4294967296) :
  Calls Tryz.prog 120 #[.pointer (some ⟨g,0,none⟩),.int .u32 r] w fun e w'=>e=.returned (.int .i64 (qU ls r))∧w=w' :=
 Ou g _ _ _ ls A C r w h.blk h.own (by have:=h.len;omega) hr0 hr1
theorem lV.taken (h:lV w g pl us ls fr A C A' C') (r:Int) (hr0:0≤r) (hr1:r<4294967296) :
  Calls Tryz.prog 119 #[.pointer (some ⟨g,0,none⟩),.int .u32 r] w fun e w'=>e=.returned (.bool (tk ls r))∧w=w' :=
 nG g _ _ _ ls A C r w h.blk h.own (by have:=h.len;omega) hr0 hr1
theorem Ib {r:Nat} (h:lV w g pl us ls (fr++[(r:Int)]) A C A' C') (n:Nd) (hl0:0≤n.lo) (hl1:n.lo<4294967296) (hh0:0≤n.hi) (uQ:n.hi<4294967296) (hc:J2 ls n=0) (hr:r<ls.length) (hu:us<4000000) :
  Calls Tryz.prog 91 #[.pointer (some ⟨g,0,none⟩),n.val] w fun e w'=>e=.returned (.tuple #[.int .u32 r,.int .i64 0])∧lV w' g pl (us+1) (ls.set r ⟨n,true,0⟩) fr A C A' C'∧ah (qH g A A') w w':=by
 have H:=Lib.hid h;have HC:=Lib.hid hc;have hlen:=h.len;have hu0:=h.VH;have hfl:=h.qV.len;have wZ:fr.length<9223372036854775807:=by
  rcases h.qV.own.2 with⟨_,h0⟩ | ⟨_,cap,_,h1,_,_,h3,h4,_⟩
  ·simp at h0
  ·unfold maxLen at h4;simp at h3;omega
 clear h hc;unfold Nd.val;go_enter Tryz.func91,Tryz.ntmps91;go_wp2_with (fail)
 refine ek fun w1 hw1=>?_
 have hs1:Same w w1:=by rw[hw1];exact(ah.refl _ _).alloc _
 have hX:=ax.new w 37 #[.int .i64 n.v,.int .u32 n.lo,.int .u32 n.hi];rw[← hw1] at hX;clear hw1;refine((H.out.ag hs1 (fun _ _=>id)).check n hl0 hl1 hh0 uQ).mono ?_;rintro e w2 ⟨rfl,hs2⟩;rw[HC.out];have hs:=hs1.trans hs2 (fun _ _ h=>h);have h2:=H.out.ag hs (fun _ _=>id);have hX2:=hX.ag hs2 id;have hB:=h2.blk;have hO:=h2.own;have hF:=h2.qV;obtain⟨fb,rfl,aag,hfc⟩:=hF.dQ (i:=fr.length) (x:=(r:Int)) (by simp);obtain⟨p,hp⟩:∃ p,ls[r]?=some p:=⟨_,List.getElem?_eq_getElem hr⟩;obtain⟨sb,rfl,hsb,hcc⟩:=hO.get Pl.ak hp;have Ov:(fr++[(r:Int)]).length=fr.length+1:=by simp
 rw[Ov] at hB;have g0:=hB.cell 0;have g1:=hB.cell 1;have g2:=hB.cell 2;have g3:=hB.cell 3;have f0:=hB.free 0;have f1:=hB.free 1;have f2:=hB.free 2;have f3:=hB.free 3;have x0:=hX2.cell 0;have x1:=hX2.cell 1;have x2:=hX2.cell 2;have hg:=hB.lt;have hx:=hX2.lt;have c0:w2.cell? ⟨sb,r*5,none⟩=some (.int .i64 p.n.v):=hcc 0 (by omega);have c1:w2.cell? ⟨sb,r*5+1,none⟩=some (.int .u32 p.n.lo):=hcc 1 (by omega);have c2:w2.cell? ⟨sb,r*5+2,none⟩=some (.int .u32 p.n.hi):=hcc 2 (by omega);have c3:w2.cell? ⟨sb,r*5+3,none⟩=some (.bool p.t):=hcc 3 (by omega);have c4:w2.cell? ⟨sb,r*5+4,none⟩=some (.int .u8 p.c):=hcc 4 (by omega);have k0:=hO.free (r*5);have k1:=hO.free (r*5+1);have k2:=hO.free (r*5+2);have k3:=hO.free (r*5+3);have k4:=hO.free (r*5+4);have hcap:fr.length+1≤C':=by
  rcases hF.own.2 with⟨h0,_⟩ | ⟨_,cap,_,h1,_,_,h3,h4,_⟩
  ·cases h0
  ·injection h1 with _ _ hC;subst hC;simp at h3;omega
 have hap:=h2.apart;have hgs:sb≠g:=(hap.1 sb ⟨_,rfl,rfl⟩).1;have hgf:fb≠g:=(hap.2 fb ⟨_,rfl,rfl⟩).1;have VJ:sb≠fb:=fun h=>(hap.1 sb ⟨_,rfl,rfl⟩).2 ⟨_,rfl,h.symm⟩
 have hXg:w.heap.size≠g:=by have:=H.out.blk.lt;omega
 have hXs:w.heap.size≠sb:=by have:=H.out.own.block _ rfl;simp at this;omega
 have aah:w2.cell? ⟨fb,fr.length,none⟩=some (.int .u32 r):=hfc;simp at g0 g1 g2 g3 x0 x1 x2;have hi0:(0:Int)≤r:=by omega
 have hi1:(r:Int)<ls.length:=by omega
 have HO:=Lib.hid hO;have HF:=Lib.hid hF;have HB:=Lib.hid hB;have HP:=Lib.hid hp;have HS:=Lib.hid hs;have HX:=Lib.hid hX2;clear hO hF hB hX hX2 hp hcc hfc h2 hap hs hs1 hs2 Ov;go_wp2_with (fail)
 refine ai fun w3 hw3=>?_
 have hB3:=HB.out.set 2 (.slice (some ⟨fb,0,none⟩) fr.length C');have hO3:=HO.out.far (p:=⟨g,2,none⟩) (fun a ha=>by injection ha with ha;subst ha;exact hgs) (.slice (some ⟨fb,0,none⟩) fr.length C');have Ow:=HF.out.VA.far (p:=⟨g,2,none⟩) (fun a ha=>by injection ha with ha;subst ha;exact hgf) (.slice (some ⟨fb,0,none⟩) fr.length C');have qI:=HX.out.far (p:=⟨g,2,none⟩) hXg (.slice (some ⟨fb,0,none⟩) fr.length C');have hs3:ah (qH g (some ⟨sb,0,none⟩) (some ⟨fb,0,none⟩)) w w3:=by
  rw[hw3];exact(HS.out.mono (fun _ _ h=>h.elim)).set _ _ (.inl rfl)
 rw[← hw3] at hB3 hO3 Ow qI;clear hw3 g0 g1 g2 g3 f0 f1 f2 f3 x0 x1 x2 c0 c1 c2 c3 c4 k0 k1 k2 k3 k4 hg hx aah aag hsb;have g0:=hB3.cell 0;have g1:=hB3.cell 1;have g3:=hB3.cell 3;have f3:=hB3.free 3;have x0:=qI.cell 0;have x1:=qI.cell 1;have x2:=qI.cell 2;have hg:=hB3.lt;have hx:=qI.lt;obtain⟨_,tu,hsb,hcc⟩:=hO3.get Pl.ak HP.out;injection tu with tu
 injection tu with tu
 subst tu;have c0:w3.cell? ⟨sb,r*5,none⟩=some (.int .i64 p.n.v):=hcc 0 (by omega);have c1:w3.cell? ⟨sb,r*5+1,none⟩=some (.int .u32 p.n.lo):=hcc 1 (by omega);have c2:w3.cell? ⟨sb,r*5+2,none⟩=some (.int .u32 p.n.hi):=hcc 2 (by omega);have c3:w3.cell? ⟨sb,r*5+3,none⟩=some (.bool p.t):=hcc 3 (by omega);have c4:w3.cell? ⟨sb,r*5+4,none⟩=some (.int .u8 p.c):=hcc 4 (by omega);have k0:=hO3.free (r*5);have k1:=hO3.free (r*5+1);have k2:=hO3.free (r*5+2);have k3:=hO3.free (r*5+3);have k4:=hO3.free (r*5+4);simp at g0 g1 g3 x0 x1 x2;have HB3:=Lib.hid hB3;have RO:=Lib.hid hO3;have HF3:=Lib.hid Ow;have dY:=Lib.hid hs3;clear hB3 hO3 Ow qI hs3 hcc HB HO HF HX HS;refine dZ 8 (by kernel_rfl) (by kernel_rfl) ?_;simp only[List.take_succ_cons,List.take_zero,List.drop_succ_cons,List.drop_zero];repeat (any_goals (first | go_big_quiet_step (fail) | quiet_step (fail)))
 refine wpQuiet_nil ?_;rintro _ ⟨q,rfl⟩;go_wp2;go_ret2;have hq:=az w3 q;have hgs':¬ rowOf (some (⟨fb,0,none⟩:Addr)) sb:=by rintro⟨a,ha,hb⟩;injection ha with ha;subst ha;exact VJ hb.symm
 refine⟨rfl,⟨?_,?_,?_,by simpa using hlen,by omega,by omega⟩,?_⟩
 ·rw[List.length_set];exact(ax.put (Ne.symm hgs) [.int .i64 n.v,.int .u32 n.lo,.int .u32 n.hi,.bool true,.int .u8 0] (r*5) (HB3.out.ag hq id)).set 3 _
 ·rw[List.length_set];exact(Own.put Pl.ak (by omega) (RO.out.ag hq (fun _ _=>id)) hr ⟨n,true,0⟩).far (p:=⟨g,3,none⟩) (fun a ha=>by injection ha with ha;subst ha;exact hgs) _
 ·exact(Own.DD hgs' [.int .i64 n.v,.int .u32 n.lo,.int .u32 n.hi,.bool true,.int .u8 0] (r*5) (HF3.out.ag hq (fun _ _=>id))).far (p:=⟨g,3,none⟩) (fun a ha=>by injection ha with ha;subst ha;exact hgf) _
 ·exact(ah.put (.inr (.inl ⟨_,rfl,rfl⟩)) [.int .i64 n.v,.int .u32 n.lo,.int .u32 n.hi,.bool true,.int .u8 0] (r*5) (dY.out.trans hq (fun _ _ h=>h.elim))).set _ _ (.inl rfl)
end
section
variable {w:World} {g:Nat} {pl us:Int} {ls:List Pl} {fr:List Int} {A:Option Addr} {C:Nat} {A':Option Addr} {C':Nat}
theorem uR:(Tryz.prog.info? 166).map (fun i=>(i.zero,i.size,i.bytes))=some (some (.agg #[.int .i64 0,.int .u32 0,.int .u32 0,.bool false,.int .u8 0]),5,24):=by kernel_rfl
theorem DW (h:lV w g pl us ls [] A C A' C') (n:Nd) (hl0:0≤n.lo) (hl1:n.lo<4294967296) (hh0:0≤n.hi) (uQ:n.hi<4294967296) (hc:J2 ls n=0) (hf:(ls.length:Int)<pl) (hp:pl≤1048576) (hu:us<4000000) :
  Calls Tryz.prog 91 #[.pointer (some ⟨g,0,none⟩),n.val] w fun e w'=>e=.returned (.tuple #[.int .u32 ls.length,.int .i64 0])∧
   ∃ A2 C2,lV w' g pl (us+1) (ls++[⟨n,true,0⟩]) [] A2 C2 A' C'∧ah (qH g A A') w w'∧(∀ b,rowOf A2 b→rowOf A b∨w.heap.size≤b):=by
 have H:=Lib.hid h;have HC:=Lib.hid hc;have hf':¬ ((ls.length:Int)≥pl):=by omega
 have hlen:=h.len;have hu0:=h.VH;clear h hc;unfold Nd.val;go_enter Tryz.func91,Tryz.ntmps91;go_wp2_with (fail)
 refine ek fun w1 hw1=>?_
 have hs1:Same w w1:=by rw[hw1];exact(ah.refl _ _).alloc _
 have hX:=ax.new w 37 #[.int .i64 n.v,.int .u32 n.lo,.int .u32 n.hi];rw[← hw1] at hX;clear hw1;refine((H.out.ag hs1 (fun _ _=>id)).check n hl0 hl1 hh0 uQ).mono ?_;rintro e w2 ⟨rfl,hs2⟩;rw[HC.out];have hs:=hs1.trans hs2 (fun _ _ h=>h);have hB:=(H.out.ag hs (fun _ _=>id)).blk;have h0:=hB.cell 0;have h1:=hB.cell 1;have h2:=hB.cell 2;have hg:=hB.lt;simp at h0 h1 h2;go_wp2_with (fail)
 refine eG (by kernel_rfl) (by kernel_rfl) ?_;repeat (any_goals (first | go_big_quiet_step (fail) | quiet_step (fail)))
 refine wpQuiet_nil ?_;rintro _ ⟨q,rfl⟩;have hs3:=hs.trans (az w2 q) (fun _ _ h=>h);have qI:=hX.ag (hs2.trans (az w2 q) (fun _ _ h=>h)) id;have KH:=H.out.ag hs3 (fun _ _=>id);clear h0 h1 h2 hg hB hX hs hs2;generalize more w2 q=w3 at *
 have hB:=KH.blk;have hO:=KH.own;have hap:=KH.apart;have g0:=hB.cell 0;have g1:=hB.cell 1;have g3:=hB.cell 3;have f1:=hB.free 1;have f3:=hB.free 3;have x0:=qI.cell 0;have x1:=qI.cell 1;have x2:=qI.cell 2;have hg:=hB.lt;have hx:=qI.lt;simp at g0 g1 g3 x0 x1 x2;have hXA:¬ rowOf A w.heap.size:=by rintro⟨a,ha,hb⟩;exact hO.av qI (by decide) a ha hb
 have hgA:¬ rowOf A g:=fun h=>(hap.1 g h).1 rfl
 go_wp2_with (fail)
 refine Oi (fun b=>rowOf A b) [0,1,2,3,4,5,6] [7,8,9,10,11] (by kernel_rfl) (by kernel_rfl) ?_;simp only[pick,List.map_cons,List.map_nil,List.getD_cons_zero,List.getD_cons_succ];repeat (any_goals (first | go_big_quiet_step (fail) | quiet_step (fail)))
 refine wpQuiet_nil ?_;refine jV rfl (fun K hK=>?_);go_simp;refine hK _ _ (aZ.bu (((ah.refl _ _).drew).alloc _)) ?_;clear hK K;refine jV rfl (fun K hK=>?_);refine Own.append (.tmp 72) (.tmp 75) _ rfl Tryz.underlying139 uR rfl (by omega) rfl ((hO.ag (((ah.refl (fun _=>False) _).alloc _).drew) (fun _ _=>id))) Pl.ak ⟨n,true,0⟩ w3.heap.size 1 rfl (ax.new w3 _ _) (by simp[Value.oneCell',Pl.cells]) (by unfold maxLen;omega) (by omega) ?_;intro gg cap w4 hO4 hg4 hat;have hB4:ax w4 g 141 #[.int .i64 pl,.slice A ls.length C,.slice A' 0 C',.int .i64 us]:=((hB.alloc _).drew.grown hg4 (fun h=>hgA (af.1 h.symm)));have hL4:ah (fun b=>rowOf A b) w3 w4:=(((ah.refl _ _).alloc _).drew).grown hg4 (fun g hg=>.inl (af.1 hg));refine hK _ _ (aZ.bu hL4) ?_;clear hK K;refine jV rfl (fun K hK=>?_);go_simp;refine hK _ _ (aZ.bu hL4) ?_;clear hK K;refine jV rfl (fun K hK=>?_);go_simp;refine hK _ _ (aZ.bu hL4) ?_;clear hK K;refine DK ?_;have hat':rowOf A gg∨w.heap.size≤gg:=by
  rcases hat with h | h
  ·exact .inl (af.1 h)
  ·right
   have:=hs3.size
   simp at h;omega
 have hgg:gg≠g:=hO4.av hB4 (by decide) _ rfl;have QC:Row1 w4 28 rc A' 0 C' []:=KH.qV.ag hL4 (fun a ha h=>(hap.2 _ ⟨a,ha,rfl⟩).2 h);have aai:¬ rowOf A' g:=fun h=>(hap.2 g h).1 rfl
 have QD:ah (qH g A A') w w4:=(hs3.mono (fun _ _ h=>h.elim)).trans hL4 (fun i _ h=>.inr (.inl h));clear g0 g1 g3 f1 f3 x0 x1 x2 hg hx qI hat hg4 hL4 hs3 KH hB hO hap hXA hgA hs1;have g1:=hB4.cell 1;have g3:=hB4.cell 3;have f1:=hB4.free 1;have f3:=hB4.free 3;have hg:=hB4.lt;simp at g1 g3;have pO:=Lib.hid hB4;have nH:=Lib.hid hO4;have UO:=Lib.hid QC;have iB:=Lib.hid QD;have HAT:=Lib.hid hat';have hlb:(ls.length:Int)+1<4294967296:=by omega
 clear hB4 hO4 QC QD hat';go_wp2;go_ret2;have hne:∀ a:Addr,some (⟨gg,0,none⟩:Addr)=some a→a.block≠g:=fun a ha=>by injection ha with ha;subst ha;exact hgg
 have hne':∀ a:Addr,A'=some a→a.block≠g:=fun a ha h=>aai ⟨a,ha,h⟩
 refine⟨?_,some ⟨gg,0,none⟩,cap,⟨?_,?_,?_,by simp <;> omega,by omega,by omega⟩,?_,?_⟩
 ·simp
 ·rw[List.length_append];exact(pO.out.set 1 _).set 3 _
 ·rw[List.length_append];exact(nH.out.far (p:=⟨g,1,none⟩) hne _).far (p:=⟨g,3,none⟩) hne _
 ·exact(UO.out.far (p:=⟨g,1,none⟩) hne' _).far (p:=⟨g,3,none⟩) hne' _
 ·exact(iB.out.set _ _ (.inl rfl)).set _ _ (.inl rfl)
 ·rintro b ⟨a,ha,rfl⟩;injection ha with ha
  subst ha;exact HAT.out
end
section
variable {w:World} {g:Nat} {pl us:Int} {ls:List Pl} {fr:List Int} {A:Option Addr} {C:Nat} {A':Option Addr} {C':Nat}
theorem lV.used (h:lV w g pl us ls fr A C A' C'):Calls Tryz.prog 60 #[.pointer (some ⟨g,0,none⟩)] w fun e w'=>e=.returned (.int .i64 us)∧w=w':=by
 have h3:=h.blk.cell 3;simp at h3;clear h;go_enter Tryz.func60,Tryz.ntmps60;go_wp2;go_ret;exact⟨rfl,rfl⟩
theorem lV.places (h:lV w g pl us ls fr A C A' C'):Calls Tryz.prog 72 #[.pointer (some ⟨g,0,none⟩)] w fun e w'=>e=.returned (.int .i64 pl)∧w=w':=by
 have h3:=h.blk.cell 0;simp at h3;clear h;go_enter Tryz.func72,Tryz.ntmps72;go_wp2;go_ret;exact⟨rfl,rfl⟩
end
def NR:Nd:=⟨0,0,0⟩
def aI (ls:List Pl) (r:Int):Nd:=match ls[r.toNat]? with | some p=>if p.t then p.n else NR | none=>NR
def fQ (ls:List Pl) (r:Int):Int:=if tk ls r then 0 else 3
section
variable {w:World} {g:Nat} {pl us:Int} {ls:List Pl} {fr:List Int} {A:Option Addr} {C:Nat} {A':Option Addr} {C':Nat}
theorem lV.get (h:lV w g pl us ls fr A C A' C') (r:Int) (hr0:0≤r) (hr1:r<4294967296) :
  Calls Tryz.prog 94 #[.pointer (some ⟨g,0,none⟩),.int .u32 r] w fun e w'=>e=.returned (.tuple #[(aI ls r).val,.int .i64 (fQ ls r)])∧Same w w':=by
 have H:=Lib.hid h;clear h;cases ht:tk ls r with
 | false =>
  have HT:=Lib.hid ht;clear ht;go_enter Tryz.func94,Tryz.ntmps94;go_wp2_with (fail)
  refine ek fun w1 hw1=>?_
  have hs1:Same w w1:=by rw[hw1];exact(ah.refl _ _).alloc _
  have hX:=ax.new w 37 #[.int .i64 0,.int .u32 0,.int .u32 0];rw[← hw1] at hX;clear hw1;refine((H.out.ag hs1 (fun _ _=>id)).taken r hr0 hr1).mono ?_;rintro e w2 ⟨rfl,rfl⟩;rw[HT.out];have x0:=hX.cell 0;have x1:=hX.cell 1;have x2:=hX.cell 2;have f0:=hX.free 0;have f1:=hX.free 1;have f2:=hX.free 2;simp at x0 x1 x2;have HX:=Lib.hid hX;clear hX;go_wp2;refine bodyPost_ret (v:=.tuple #[(aI ls r).val,.int .i64 (fQ ls r)]) ?_ rfl ⟨rfl,?_⟩
  ·have hn:aI ls r=NR:=by
    have:=HT.out
    unfold tk at this;unfold aI;cases h:ls[r.toNat]? with
    | none=>rfl
    | some p=>rw[h] at this;simp only at this ⊢;rw[this];rfl
   have he:fQ ls r=3:=by unfold fQ;rw[HT.out];rfl
   rw[hn,he];have hY:=((HX.out.set 0 (.int .i64 0)).set 1 (.int .u32 0)).set 2 (.int .u32 0);generalize ((w1.setCell ⟨w.heap.size,0,none⟩ (.int .i64 0)).setCell ⟨w.heap.size,1,none⟩ (.int .u32 0)).setCell ⟨w.heap.size,2,none⟩ (.int .u32 0)=W at hY ⊢;have y0:=hY.cell 0;have y1:=hY.cell 1;have y2:=hY.cell 2;simp at y0 y1 y2;simp[results,Tryz.results94,go_sem,Nd.val,NR,y0,y1,y2]
  ·have hle:w.heap.size≤w.heap.size:=Nat.le_refl _;exact((hs1.aj _ _ hle).aj _ _ hle).aj _ _ hle
 | true =>
  have HT:=Lib.hid ht;obtain⟨p,hp,hpt⟩:∃ p,ls[r.toNat]?=some p∧p.t=true:=by
   unfold tk at ht;cases h:ls[r.toNat]? with
   | none=>rw[h] at ht;cases ht
   | some p=>rw[h] at ht;exact⟨p,rfl,ht⟩
  clear ht;obtain⟨n,rfl⟩:=Int.eq_ofNat_of_zero_le hr0;rw[Int.toNat_natCast] at hp;have hlt:=aY hp;have HP:=Lib.hid hp;have VK:=Lib.hid hpt;clear hp hpt;go_enter Tryz.func94,Tryz.ntmps94;go_wp2_with (fail)
  refine ek fun w1 hw1=>?_
  have hs1:Same w w1:=by rw[hw1];exact(ah.refl _ _).alloc _
  have hX:=ax.new w 37 #[.int .i64 0,.int .u32 0,.int .u32 0];rw[← hw1] at hX;clear hw1;have hst:=H.out.ag hs1 (fun _ _=>id);refine(hst.taken n hr0 hr1).mono ?_;rintro e w2 ⟨rfl,rfl⟩;rw[HT.out];obtain⟨sb,rfl,hsb,hc⟩:=hst.own.get Pl.ak HP.out;have c0:w1.cell? ⟨sb,n*5,none⟩=some (.int .i64 p.n.v):=hc 0 (by omega);have c1:w1.cell? ⟨sb,n*5+1,none⟩=some (.int .u32 p.n.lo):=hc 1 (by omega);have c2:w1.cell? ⟨sb,n*5+2,none⟩=some (.int .u32 p.n.hi):=hc 2 (by omega);have g1:=hst.blk.cell 1;have hi1:(n:Int)<ls.length:=by omega
  have x0:=hX.cell 0;have x1:=hX.cell 1;have x2:=hX.cell 2;have f0:=hX.free 0;have f1:=hX.free 1;have f2:=hX.free 2;simp at x0 x1 x2 g1;have HX:=Lib.hid hX;clear hX hst hc;go_wp2;refine bodyPost_ret (v:=.tuple #[(aI ls n).val,.int .i64 (fQ ls n)]) ?_ rfl ⟨rfl,?_⟩
  ·have hn:aI ls n=p.n:=by unfold aI;rw[Int.toNat_natCast,HP.out];simp[VK.out]
   have he:fQ ls n=0:=by unfold fQ;rw[HT.out];rfl
   rw[hn,he];have hY:=((HX.out.set 0 (.int .i64 p.n.v)).set 1 (.int .u32 p.n.lo)).set 2 (.int .u32 p.n.hi);generalize ((w1.setCell ⟨w.heap.size,0,none⟩ (.int .i64 p.n.v)).setCell ⟨w.heap.size,1,none⟩ (.int .u32 p.n.lo)).setCell ⟨w.heap.size,2,none⟩ (.int .u32 p.n.hi)=W at hY ⊢;have y0:=hY.cell 0;have y1:=hY.cell 1;have y2:=hY.cell 2;simp at y0 y1 y2;simp[results,Tryz.results94,go_sem,Nd.val,y0,y1,y2]
  ·have hle:w.heap.size≤w.heap.size:=Nat.le_refl _;exact((hs1.aj _ _ hle).aj _ _ hle).aj _ _ hle
end
def QE (r:Nat):Pl:=⟨⟨-1,r,r⟩,true,255⟩
def A9:List Pl:=[QE 0,QE 1]
theorem RP (p:Int) (w:World) (h1:¬ p<2) (h2:p≤1048576) :
    Calls Tryz.prog 88 #[.int .i64 p] w fun e w'=>e=.returned (.tuple #[.pointer (some ⟨w.heap.size,0,none⟩),.int .i64 0])∧∃ A C,lV w' w.heap.size p 2 A9 [] A C none 0∧Same w w'∧bQ w.heap.size A:=by
  go_enter Tryz.func88,Tryz.ntmps88;go_wp2;have hb0:=ax.new w 141 #[.int .i64 p,.slice none 0 0,.slice none 0 0,.int .i64 2];have hs0:Same w (w.alloc (.cells #[.int .i64 p,.slice none 0 0,.slice none 0 0,.int .i64 2] 141)):=(ah.refl _ _).alloc _;refine ai fun w0 hw0=>?_
  rw[← hw0] at hb0 hs0;clear hw0;go_loopw [15] (fun i wr=>∃ (k:Nat) (A:Option Addr) (C:Nat),k≤2∧i=.int .u32 k∧ax wr w.heap.size 141 #[.int .i64 p,.slice A k C,.slice none 0 0,.int .i64 2]∧Go.Tk.Own wr 166 5 Pl.cells A k C (A9.take k)∧Same w wr∧bQ w.heap.size A) (fun i _=>2-(intOf i).toNat)
  case atStart=>exact⟨0,none,0,by omega,rfl,hb0,Own.nil _ _ _ _,hs0,aS _⟩
  case round =>
    clear hb0 hs0;obtain⟨k,A,C,hk,rfl,hB,hO,hS,hA⟩:=hrel;by_cases hlt:k<2
    · have hk2:(k:Int)<2:=by omega
      have g1:=hB.cell 1;have hg:=hB.lt;simp at g1;have hgA:¬ rowOf A w.heap.size:=by rintro⟨a,ha,hb⟩;exact hO.av hB (by decide) a ha hb
      have HB:=Lib.hid hB;have HO:=Lib.hid hO;have HS:=Lib.hid hS;have HA:=Lib.hid hA;clear hB hO hS hA
      go_wp2_with (at_builtin
                   refine Own.aR rfl (.tmp 22) (.tmp 27) _ rfl Tryz.underlying139 uR rfl (by omega) rfl (HO.out.ag ((ah.refl (fun _=>False) _).alloc _) (fun _ _=>id)) Pl.ak (QE k) wr.heap.size 1 rfl (ax.new wr _ _) (by simp[Value.oneCell',Pl.cells]) (by unfold maxLen;simp <;> omega) (by simp <;> omega) ?_;intro gg cap w4 hO4 hg4 hat;have hB4:=((HB.out.alloc _).grown hg4 (fun h=>hgA (af.1 h.symm)));have hL4:ah (fun b=>rowOf A b) wr w4:=((ah.refl _ _).alloc _).grown hg4 (fun g hg=>.inl (af.1 hg));have hgg:gg≠w.heap.size:=hO4.av hB4 (by decide) _ rfl;have hge:w.heap.size≤gg:=by
                     rcases hat with h | h
                     · exact HA.out gg (af.1 h)
                     · have:=HS.out.size
                       simp at h;omega
                   have QD:Same w w4:=HS.out.trans hL4 (fun i hi h=>by have:=HA.out i h;omega);have f1:=hB4.free 1;have c1:=hB4.cell 1;simp at c1;have pO:=Lib.hid hB4;have nH:=Lib.hid hO4;have iB:=Lib.hid QD
                   clear hB4 hO4 hL4 hg4 hat HB HO HS HA hgA g1 hg QD)
      go_roundw
      case rel =>
        refine⟨k+1,some ⟨gg,0,none⟩,cap,by omega,by go_num,pO.out.set 1 _,?_,iB.out.aj _ _ (Nat.le_refl _),bR hge⟩;have h:=nH.out.far (p:=⟨w.heap.size,1,none⟩) (fun a ha=>by injection ha with ha;subst ha;exact hgg) (.slice (some ⟨gg,0,none⟩) (k+1) cap);have e:List.take k A9++[QE k]=List.take (k+1) A9:=by
          match k,hlt with
          | 0,_=>rfl
          | 1,_=>rfl
        rw[e] at h;exact h
      case measure=>simp[intOf] <;> omega
    · obtain rfl:k=2:=by omega
      have HB:=Lib.hid hB;clear hB;go_wp2;go_ret2;exact⟨rfl,A,C,⟨HB.out,hO,Own.nil _ _ _ _,by simp[A9],by omega,by omega⟩,hS,hA⟩
def DZ:Pl:=⟨NR,false,0⟩
theorem iE:(Tryz.prog.info? 28).map (fun i=>(i.zero,i.size,i.bytes))=some (some (.int .u32 0),1,4):=by kernel_rfl
theorem Ox {ls:List Pl} {r:Int} (h:qU ls r=0):1<r∧tk ls r=true:=by
  unfold qU at h;split at h
  · cases h
  · rename_i h1
    refine⟨by omega,?_⟩;cases ht:tk ls r with
    | true=>rfl
    | false=>exact absurd (.inr ht) h1
theorem RQ {ls:List Pl} {r:Nat} (h:tk ls r=true):∃ p,ls[r]?=some p∧p.t=true:=by
  unfold tk at h;rw[Int.toNat_natCast] at h;cases h':ls[r]? with
  | none=>rw[h'] at h;cases h
  | some p=>rw[h'] at h;exact⟨p,rfl,h⟩
section
variable {w:World} {g:Nat} {pl us:Int} {ls:List Pl} {fr:List Int} {A:Option Addr} {C:Nat} {A':Option Addr} {C':Nat}
theorem Oy {r:Nat} (h:lV w g pl us ls fr A C A' C') (hr1:(r:Int)<4294967296) (hc:qU ls r=0) (hu:-4000000<us) (hfl:fr.length≤1048576) :
    Calls Tryz.prog 96 #[.pointer (some ⟨g,0,none⟩),.int .u32 r] w fun e w'=>e=.returned (.int .i64 0)∧
      ∃ A2 C2,lV w' g pl (us-1) (ls.set r DZ) (fr++[(r:Int)]) A C A2 C2∧ah (qH g A A') w w'∧(∀ b,rowOf A2 b→rowOf A' b∨w.heap.size≤b):=by
  obtain⟨p,hp,hpt⟩:=RQ (Ox hc).2;have hr:=aY hp;have hlen:=h.len;have hu1:=h.UN;have hap:=h.apart;have hB:=h.blk;have hO:=h.own;have HF:=Lib.hid h.qV;have T:=Lib.hid (h.VI r (by omega) hr1);have HL:=Lib.hid hc;obtain⟨sb,rfl,hsb,hcc⟩:=hO.get Pl.ak hp;have g1:=hB.cell 1;have g2:=hB.cell 2;have g3:=hB.cell 3;have f1:=hB.free 1;have f2:=hB.free 2;have f3:=hB.free 3;have hg:=hB.lt;have c0:w.cell? ⟨sb,r*5,none⟩=some (.int .i64 p.n.v):=hcc 0 (by omega);have c1:w.cell? ⟨sb,r*5+1,none⟩=some (.int .u32 p.n.lo):=hcc 1 (by omega);have c2:w.cell? ⟨sb,r*5+2,none⟩=some (.int .u32 p.n.hi):=hcc 2 (by omega);have c3:w.cell? ⟨sb,r*5+3,none⟩=some (.bool p.t):=hcc 3 (by omega);have c4:w.cell? ⟨sb,r*5+4,none⟩=some (.int .u8 p.c):=hcc 4 (by omega);have k0:=hO.free (r*5);have k1:=hO.free (r*5+1);have k2:=hO.free (r*5+2);have k3:=hO.free (r*5+3);have k4:=hO.free (r*5+4);have hgs:sb≠g:=(hap.1 sb ⟨_,rfl,rfl⟩).1;have hsA':¬ rowOf A' sb:=(hap.1 sb ⟨_,rfl,rfl⟩).2;have aaj:¬ rowOf A' g:=fun h=>(hap.2 g h).1 rfl
  simp at g1 g2 g3;have hi0:(0:Int)≤r:=by omega
  have hi1:(r:Int)<ls.length:=by omega
  have HB:=Lib.hid hB;have HO:=Lib.hid hO;have HP:=Lib.hid hp;clear hB hO hp hcc h hap hc;go_enter Tryz.func96,Tryz.ntmps96;go_wp2_with (fail)
  refine T.out.mono ?_;rintro e w2 ⟨rfl,rfl⟩;rw[HL.out]
  go_wp2_with (at_builtin
               have hB2:ax (put w sb (r*5) DZ.cells) g 141 _:=ax.put (Ne.symm hgs) DZ.cells (r*5) HB.out;have hO2:=Own.put Pl.ak (by omega) HO.out hr DZ;have hF2:Row1 (put w sb (r*5) DZ.cells) 28 rc A' fr.length C' fr:=Own.DD hsA' DZ.cells (r*5) HF.out;have hS2:ah (qH g (some ⟨sb,0,none⟩) A') w (put w sb (r*5) DZ.cells):=ah.put (.inr (.inl ⟨_,rfl,rfl⟩)) DZ.cells (r*5) (ah.refl _ _);have hz2:(put w sb (r*5) DZ.cells).heap.size=w.heap.size:=by simp[put,Pl.cells]
               refine aQ fun w3 hw3=>?_
               replace hw3:w3=(put w sb (r*5) DZ.cells).alloc (.cells #[.int .u32 r] 28):=hw3;generalize put w sb (r*5) DZ.cells=wp at *
               have hN:=ax.new wp 28 #[.int .u32 r];rw[hz2] at hN;have hB3:=hB2.alloc (.cells #[.int .u32 r] 28);have hO3:=hO2.ag ((ah.refl (fun _=>False) wp).alloc (.cells #[.int .u32 r] 28)) (fun _ _=>id);have Ow:=hF2.ag ((ah.refl (fun _=>False) wp).alloc (.cells #[.int .u32 r] 28)) (fun _ _=>id);have hS3:=hS2.alloc (.cells #[.int .u32 r] 28);have hz3:w.heap.size≤w3.heap.size:=by rw[hw3];simp <;> omega
               rw[← hw3] at hN hB3 hO3 Ow hS3;refine Own.aR (f:=fun x=>[rc x]) rfl (.tmp 25) (.tmp 27) _ rfl Tryz.underlying40 iE rfl (by omega) rfl Ow (fun _=>rfl) (r:Int) w.heap.size 1 rfl hN (by simp[Value.oneCell',rc]) (by unfold maxLen;omega) (by omega) ?_;intro gg cap w4 QC hg4 hat;have hL4:ah (fun b=>rowOf A' b) w3 w4:=(ah.refl _ _).grown hg4 (fun g hg=>.inl (af.1 hg));have hB4:=hB3.ag hL4 aaj;have hO4:=hO3.ag hL4 (fun a ha h=>by injection ha with ha;subst ha;exact hsA' h);have QD:ah (qH g (some ⟨sb,0,none⟩) A') w w4:=hS3.trans hL4 (fun i _ h=>.inr (.inr h));have hgg:gg≠g:=QC.av hB4 (by decide) _ rfl;have hat':rowOf A' gg∨w.heap.size≤gg:=by
                 rcases hat with h | h
                 · exact .inl (af.1 h)
                 · right;omega
               have y2:=hB4.cell 2;have y3:=hB4.cell 3;have z2:=hB4.free 2;have z3:=hB4.free 3;simp at y2 y3;have pO:=Lib.hid hB4;have nH:=Lib.hid hO4;have UO:=Lib.hid QC;have iB:=Lib.hid QD;have HAT:=Lib.hid hat'
               clear hB4 hO4 QC QD hat' hat hL4 hg4 hN hB3 hO3 Ow hS3 hz3 hw3 hB2 hO2 hF2 hS2 hz2 HB HO HF g1 g2 g3 f1 f2 f3 c0 c1 c2 c3 c4 k0 k1 k2 k3 k4 hg)
  go_ret;have hne:∀ a:Addr,some (⟨gg,0,none⟩:Addr)=some a→a.block≠g:=fun a ha=>by injection ha with ha;subst ha;exact hgg
  have hne':∀ a:Addr,some (⟨sb,0,none⟩:Addr)=some a→a.block≠g:=fun a ha=>by injection ha with ha;subst ha;exact hgs
  refine⟨rfl,some ⟨gg,0,none⟩,cap,⟨?_,?_,?_,by simpa using hlen,by omega,by omega⟩,?_,?_⟩
  · rw[List.length_append,List.length_set]
    exact(pO.out.set 2 _).set 3 _
  · rw[List.length_set]
    exact(nH.out.far (p:=⟨g,2,none⟩) hne' _).far (p:=⟨g,3,none⟩) hne' _
  · rw[List.length_append]
    exact(UO.out.far (p:=⟨g,2,none⟩) hne _).far (p:=⟨g,3,none⟩) hne _
  · exact(iB.out.set _ _ (.inl rfl)).set _ _ (.inl rfl)
  · rintro b ⟨a,ha,rfl⟩
    injection ha with ha
    subst ha;exact HAT.out
end
section
variable {w:World} {g:Nat} {pl us:Int} {ls:List Pl} {fr:List Int} {A:Option Addr} {C:Nat} {A':Option Addr} {C':Nat}
theorem lV.D5 {sb r j:Nat} {p p':Pl} {u:Value} (h:lV w g pl us ls fr (some ⟨sb,0,none⟩) C A' C') (hp:ls[r]?=some p) (hj:j<5) (hc:p'.cells=p.cells.set j u) :
  lV (w.setCell ⟨sb,r*5+j,none⟩ u) g pl us (ls.set r p') fr (some ⟨sb,0,none⟩) C A' C'∧ah (qH g (some ⟨sb,0,none⟩) A') w (w.setCell ⟨sb,r*5+j,none⟩ u):=by
 have hap:=h.apart.1 sb ⟨_,rfl,rfl⟩;refine⟨⟨?_,?_,?_,by simpa using h.len,h.VH,h.UN⟩,(ah.refl _ _).set _ _ (.inr (.inl ⟨_,rfl,rfl⟩))⟩
 ·rw[List.length_set];exact h.blk.far (p:=⟨sb,r*5+j,none⟩) (Ne.symm hap.1) u
 ·rw[List.length_set];exact h.own.store Pl.ak r j p p' u hp hj hc
 ·exact h.qV.far (p:=⟨sb,r*5+j,none⟩) (fun a ha he=>hap.2 ⟨a,ha,he⟩) u
end
section
variable {w:World} {g:Nat} {pl us:Int} {ls:List Pl} {fr:List Int} {A:Option Addr} {C:Nat} {A':Option Addr} {C':Nat}
theorem lV.setNode {sb r:Nat} {p:Pl} (h:lV w g pl us ls fr (some ⟨sb,0,none⟩) C A' C') (hp:ls[r]?=some p) (n:Nd) :
  lV (put w sb (r*5) [.int .i64 n.v,.int .u32 n.lo,.int .u32 n.hi]) g pl us (ls.set r ⟨n,p.t,p.c⟩) fr (some ⟨sb,0,none⟩) C A' C'∧ah (qH g (some ⟨sb,0,none⟩) A') w (put w sb (r*5) [.int .i64 n.v,.int .u32 n.lo,.int .u32 n.hi]):=by
 have hr:=aY hp;obtain⟨a1,f1⟩:=h.D5 (j:=0) (p':=⟨⟨n.v,p.n.lo,p.n.hi⟩,p.t,p.c⟩) (u:=.int .i64 n.v) hp (by omega) rfl;obtain⟨a2,f2⟩:=a1.D5 (j:=1) (r:=r) (p:=⟨⟨n.v,p.n.lo,p.n.hi⟩,p.t,p.c⟩) (p':=⟨⟨n.v,n.lo,p.n.hi⟩,p.t,p.c⟩) (u:=.int .u32 n.lo) (by rw[List.getElem?_set_self hr]) (by omega) rfl;obtain⟨a3,f3⟩:=a2.D5 (j:=2) (r:=r) (p:=⟨⟨n.v,n.lo,p.n.hi⟩,p.t,p.c⟩) (p':=⟨⟨n.v,n.lo,n.hi⟩,p.t,p.c⟩) (u:=.int .u32 n.hi) (by rw[List.getElem?_set_self (by simpa using hr)]) (by omega) rfl;rw[List.set_set,List.set_set] at a3;exact⟨a3,(f1.trans f2 (fun _ _ h=>h)).trans f3 (fun _ _ h=>h)⟩
theorem RU {r:Nat} {p:Pl} (h:lV w g pl us ls fr A C A' C') (n:Nd) (hr1:(r:Int)<4294967296) (hl0:0≤n.lo) (hl1:n.lo<4294967296) (hh0:0≤n.hi) (uQ:n.hi<4294967296) (hc:J2 ls n=0) (ho:qU ls r=0) (hp:ls[r]?=some p) :
  Calls Tryz.prog 100 #[.pointer (some ⟨g,0,none⟩),.int .u32 r,n.val] w fun e w'=>e=.returned (.int .i64 0)∧lV w' g pl us (ls.set r ⟨n,p.t,p.c⟩) fr A C A' C'∧ah (qH g A A') w w':=by
 have H:=Lib.hid h;have HC:=Lib.hid hc;have HO:=Lib.hid ho;have HP:=Lib.hid hp;have hlt:=aY hp;clear h hc ho hp;unfold Nd.val;go_enter Tryz.func100,Tryz.ntmps100;go_wp2_with (fail)
 refine ek fun w1 hw1=>?_
 have hs1:Same w w1:=by rw[hw1];exact(ah.refl _ _).alloc _
 have hX:=ax.new w 37 #[.int .i64 n.v,.int .u32 n.lo,.int .u32 n.hi];rw[← hw1] at hX;clear hw1;refine((H.out.ag hs1 (fun _ _=>id)).check n hl0 hl1 hh0 uQ).mono ?_;rintro e w2 ⟨rfl,hs2⟩;rw[HC.out];have hs:=hs1.trans hs2 (fun _ _ h=>h);have hX2:=hX.ag hs2 id;go_wp2_with (fail)
 refine((H.out.ag hs (fun _ _=>id)).VI r (by omega) hr1).mono ?_;rintro e w3 ⟨rfl,rfl⟩;rw[HO.out];have hst:=H.out.ag hs (fun _ _=>id);obtain⟨sb,rfl,hsb,hcc⟩:=hst.own.get Pl.ak HP.out;have x0:=hX2.cell 0;have x1:=hX2.cell 1;have x2:=hX2.cell 2;have g1:=hst.blk.cell 1;have hg:=hst.blk.lt;have hx:=hX2.lt;have c0:w2.cell? ⟨sb,r*5,none⟩=some (.int .i64 p.n.v):=hcc 0 (by omega);have c1:w2.cell? ⟨sb,r*5+1,none⟩=some (.int .u32 p.n.lo):=hcc 1 (by omega);have c2:w2.cell? ⟨sb,r*5+2,none⟩=some (.int .u32 p.n.hi):=hcc 2 (by omega);have k0:=hst.own.free (r*5);have k1:=hst.own.free (r*5+1);have k2:=hst.own.free (r*5+2);have hi1:(r:Int)<ls.length:=by omega
 simp at x0 x1 x2 g1;have HST:=Lib.hid hst;have HS:=Lib.hid hs;clear hst hcc hX hX2 hs hs1 hs2;go_wp2_with (fail)
 refine dZ 8 (by kernel_rfl) (by kernel_rfl) ?_;simp only[List.take_succ_cons,List.take_zero,List.drop_succ_cons,List.drop_zero];repeat (any_goals (first | go_big_quiet_step (fail) | quiet_step (fail)))
 all_goals (refine wpQuiet_nil ?_;rintro _ ⟨q,rfl⟩)
 go_wp2;go_ret;have hq:=az w2 q;obtain⟨a,f⟩:=(HST.out.ag hq (fun _ _=>id)).setNode HP.out n;exact⟨rfl,a,((HS.out.trans hq (fun _ _ h=>h)).mono (fun _ _ h=>h.elim)).trans f (fun _ _ h=>h)⟩
end
end Go.Proofs.YtiomgckodmecbaaGreat
namespace Go.Proofs.YtiomgckodmecbaaGreat
open Go.RowKit Go.Maps
def Nd.ok (n:Nd):Prop:=(Lit.int .i64 n.v).wf=true∧(Lit.int .u32 n.lo).wf=true∧(Lit.int .u32 n.hi).wf=true
def Nd.key (n:Nd):Lit:=.string (keyBytes [.int .i64 n.v,.int .u32 n.lo,.int .u32 n.hi])
theorem Nd.isKey (n:Nd):WideAt.IsKeyLit n.key:=trivial
theorem FK:laidOutB Tryz.prog=true:=by kernel_rfl
theorem zg:(match Tryz.prog.underlying 37 with | some (.array _ _) | some (.struct _)=>true | _=>false)=true:=by kernel_rfl
theorem D6:(37:TypeId)<Tryz.prog.types.size:=of_decide_eq_true (by kernel_rfl)
theorem KN:Keyed Tryz.prog 37:=Keyed.of_law (deep_law_laid FK (m:=2) (by omega) D6 (by kernel_rfl) zg)
theorem qW:Tryz.prog.cellsOf 37=3:=by kernel_rfl
theorem VL:Tryz.prog.cellsOf 3=1:=by kernel_rfl
theorem VM:Tryz.prog.cellsOf 28=1:=by kernel_rfl
theorem Ic (n:Nd):n.val.formed Tryz.prog 37=true:=by
 simp[Nd.val,Value.formed,Tryz.underlying37,qW]
theorem zi {d:Nat} {t:TypeId} {q:IntKind} (ht:Tryz.prog.underlying t=some (.int q)) (v:Int):Tryz.prog.keyLits (d+1) t [.int q v]=if (Lit.int q v).wf=true then some [.int q v] else none:=by
 simp[Program.keyLits,ht]
theorem mF {d:Nat} {t:TypeId} {q:IntKind} (ht:Tryz.prog.underlying t=some (.int q)) {a:Value} {L:List Lit} (h:Tryz.prog.keyLits (d+1) t [a]=some L):∃ v,a=.int q v∧(Lit.int q v).wf=true∧L=[.int q v]:=by
 unfold Program.keyLits at h;rw[ht] at h;cases a <;> simp at h;obtain⟨⟨rfl,hw⟩,rfl⟩:=h;exact⟨_,rfl,hw,rfl⟩
theorem FL (d:Nat) (a b c:Value):Tryz.prog.keyLits (d+2) 37 [a,b,c]=(Tryz.prog.keyLits (d+1) 3 [a]).bind fun x=>(Tryz.prog.keyLits (d+1) 28 [b]).bind fun y=>(Tryz.prog.keyLits (d+1) 28 [c]).bind fun z=>some (x++(y++z)):=by
 generalize hK:Tryz.prog.keyLits (d+1)=K;rw[show d+2=(d+1)+1 from rfl]
 conv=>lhs;unfold Program.keyLits
 rw[hK];simp only[Tryz.underlying37];simp[qW,VL,VM];cases K 3 [a] <;> simp;cases K 28 [b] <;> simp;cases K 28 [c] <;> simp
theorem Ba:∃ d,Tryz.prog.types.size+1=d+2:=⟨Tryz.prog.types.size-1,by have h:=D6;have:(0:Nat)<Tryz.prog.types.size:=Nat.lt_of_le_of_lt (Nat.zero_le _) h;omega⟩
theorem gI {n:Nd} (h:n.ok):keyOf Tryz.prog 37 n.val=some n.key:=by
 unfold keyOf;rw[Tryz.underlying37];have hk:Tryz.prog.keyType 37=true:=by kernel_rfl
 simp only[hk,Ic,Bool.and_self,if_true];obtain⟨d,hd⟩:=Ba;rw[hd];obtain⟨h1,h2,h3⟩:=h;show Option.map _ (Tryz.prog.keyLits (d+2) 37 [_,_,_])=_;rw[FL,zi Tryz.underlying3,zi Tryz.underlying28,zi Tryz.underlying28,if_pos h1,if_pos h2,if_pos h3];rfl
theorem RV {d:Nat} {cs:List Value} {L:List Lit} (h:Tryz.prog.keyLits (d+2) 37 cs=some L):cs.length=3:=by
 generalize hK:Tryz.prog.keyLits (d+1)=K at h;rw[show d+2=(d+1)+1 from rfl] at h;unfold Program.keyLits at h;rw[hK] at h;simp only[Tryz.underlying37,qW] at h;split at h
 ·rename_i hc;exact hc.1
 ·cases h
theorem uS {key:Value} {kl:Lit} (h:keyOf Tryz.prog 37 key=some kl):∃ n:Nd,n.ok∧key=n.val∧kl=n.key:=by
 obtain⟨xs,L,rfl,hL,rfl⟩:=keyOf_top zg h;clear h;obtain⟨d,hd⟩:=Ba;rw[hd] at hL;have h3:=RV hL;obtain⟨l⟩:=xs
 match l,h3,hL with
 | [a,b,c],_,hL =>
  rw[FL] at hL;obtain⟨x,hx,hL⟩:=Option.bind_eq_some_iff.1 hL;obtain⟨y,hy,hL⟩:=Option.bind_eq_some_iff.1 hL;obtain⟨z,hz,hL⟩:=Option.bind_eq_some_iff.1 hL;obtain⟨v,rfl,h1,rfl⟩:=mF Tryz.underlying3 hx;obtain⟨p,rfl,h2,rfl⟩:=mF Tryz.underlying28 hy;obtain⟨q,rfl,h3,rfl⟩:=mF Tryz.underlying28 hz;cases hL;exact⟨⟨v,p,q⟩,⟨h1,h2,h3⟩,rfl,rfl⟩
theorem kY {a b:Nd} (ha:a.ok) (hb:b.ok) (h:a.key=b.key):a=b:=by
 have:=KN.inj (gI ha) (h ▸ gI hb)
 simp only[Nd.val] at this;cases a;cases b
 simp_all
end Go.Proofs.YtiomgckodmecbaaGreat
namespace Go.Tk
open Go.RowKit Go.Maps
theorem ow {H:Type} {P:Program} {k:TypeId} {R:Value→Option (DataW H×List MemPlace)} {w:World} {b n:Nat} {D:DataW H} (h:w.ownsMap P k R b n D):w.ownsMap P k R b (Maps.size D) D:=by
 obtain⟨es,clock,hb,F,hs,rfl⟩:=h;exact⟨es,clock,hb,F,by show es.size≤(List.foldr DataW.insert [] _).length;rw[length_sorted];simp,rfl⟩
theorem xz {H:Type} {P:Program} {k:TypeId} {R:Value→Option (DataW H×List MemPlace)} {w w':World} {b n:Nat} {D:DataW H} {S:Nat→Prop} (h:w.ownsMap P k R b n D) (hf:ah S w w') (hS:¬ S b):w'.ownsMap P k R b n D:=by
 have hlt:=h.lt;obtain⟨es,clock,hb,rest⟩:=h;exact⟨es,clock,(hf.block b hlt hS).trans hb,rest⟩
end Go.Tk
namespace Go.Proofs.YtiomgckodmecbaaGreat
open Go.RowKit Go.Tk Go.Maps
abbrev bN:=Nd×Int
def keys (L:List bN):List Nd:=L.map (·.1)
structure oO (q:IntKind) (D:DataW Unit) (L:List bN):Prop where
 nd:(keys L).Nodup
 ok:∀ p∈L,p.1.ok∧(Lit.int q p.2).wf=true
 dom:∀ n:Nd,n.ok→(Maps.has D n.key=true↔n∈keys L)
 val:∀ p∈L,∀ z,D.atKey p.1.key z=.lit (.int q p.2)
 size:Maps.size D=L.length
theorem mem_keys {L:List bN} {n:Nd}:n∈keys L↔∃ r,(n,r)∈L:=by
 unfold keys;rw[List.mem_map];constructor
 ·rintro⟨⟨a,r⟩,h,rfl⟩;exact⟨r,h⟩
 ·rintro⟨r,h⟩;exact⟨_,h,rfl⟩
theorem oO.made (q:IntKind):oO q (.map []) []:=⟨List.nodup_nil,by simp,fun n _=>by simp[keys];rfl,by simp,rfl⟩
theorem oO.put {q:IntKind} {D:DataW Unit} {L:List bN} (h:oO q D L) (ht:Tidy D) (hm:IsMap D) {n:Nd} {r:Int} (hn:n.ok) (hr:(Lit.int q r).wf=true) (hnew:n∉keys L):oO q (D.put n.key (.lit (.int q r))) (L++[(n,r)]):=by
 have hno:∀ m:Nd,m.ok→m≠n→m.key≠n.key:=fun m hm hne e=>hne (kY hm hn e)
 have hfalse:Maps.has D n.key=false:=by
  rcases hh:Maps.has D n.key with _ | _
  ·rfl
  ·exact absurd ((h.dom n hn).1 hh) hnew
 refine⟨?_,?_,?_,?_,?_⟩
 ·have:keys (L++[(n,r)])=keys L++[n]:=by simp[keys]
  rw[this,List.nodup_append];exact⟨h.nd,by simp,fun a ha b hb e=>hnew (by simp at hb;rw[← hb,← e];exact ha)⟩
 ·intro p hp;rcases List.mem_append.1 hp with hp | hp
  ·exact h.ok p hp
  ·obtain rfl:=List.mem_singleton.1 hp;exact⟨hn,hr⟩
 ·intro m hmo
  have:keys (L++[(n,r)])=keys L++[n]:=by simp[keys]
  rw[this,List.mem_append,List.mem_singleton];by_cases e:m=n
  ·subst e;exact⟨fun _=>.inr rfl,fun _=>has_put_same hm m.isKey _⟩
  ·rw[has_put_other (hno m hmo e),h.dom m hmo];exact⟨.inl,fun h=>h.elim id (fun h=>absurd h e)⟩
 ·intro p hp z;rcases List.mem_append.1 hp with hp | hp
  ·rw[atKey_put_other (hno p.1 (h.ok p hp).1 (fun e=>hnew (e ▸ mem_keys.2 ⟨p.2,hp⟩)))];exact h.val p hp z
  ·obtain rfl:=List.mem_singleton.1 hp;exact atKey_put_same hm n.isKey _ z
 ·rw[size_put ht,hfalse,h.size];simp
theorem oO.set {q:IntKind} {D:DataW Unit} {L L':List bN} (h:oO q D L) (ht:Tidy D) (hm:IsMap D) {n:Nd} {r:Int} (hn:n.ok) (hr:(Lit.int q r).wf=true) (hold:n∈keys L) (hL:L'=L.map fun p=>if p.1=n then (n,r) else p):oO q (D.put n.key (.lit (.int q r))) L':=by
 have hno:∀ m:Nd,m.ok→m≠n→m.key≠n.key:=fun m hm hne e=>hne (kY hm hn e)
 have hk:keys L'=keys L:=by
  rw[hL];unfold keys;rw[List.map_map];refine List.map_congr_left fun p _=>?_
  by_cases e:p.1=n
  ·simp[e]
  ·simp[e]
 refine⟨by rw[hk];exact h.nd,?_,?_,?_,?_⟩
 ·intro p hp;rw[hL] at hp;obtain⟨p0,hp0,rfl⟩:=List.mem_map.1 hp;by_cases e:p0.1=n
  ·rw[if_pos e];exact⟨hn,hr⟩
  ·rw[if_neg e];exact h.ok p0 hp0
 ·intro m hmo;rw[hk];by_cases e:m=n
  ·subst e;exact⟨fun _=>hold,fun _=>has_put_same hm m.isKey _⟩
  ·rw[has_put_other (hno m hmo e),h.dom m hmo]
 ·intro p hp z;rw[hL] at hp;obtain⟨p0,hp0,rfl⟩:=List.mem_map.1 hp;by_cases e:p0.1=n
  ·rw[if_pos e];exact atKey_put_same hm n.isKey _ z
  ·rw[if_neg e,atKey_put_other (hno p0.1 (h.ok p0 hp0).1 e)];exact h.val p0 hp0 z
 ·rw[size_put ht,(h.dom n hn).2 hold,h.size,hL];simp
theorem jf {α:Type} {l:List α} (p:α→Bool) (h:l.Nodup):(l.filter p).Nodup:=h.sublist List.filter_sublist
def without (n:Nd) (L:List bN):List bN:=L.filter fun p=>decide (p.1≠n)
theorem jg (n:Nd) (L:List bN):keys (without n L)=(keys L).filter fun m=>decide (m≠n):=by
 unfold keys without
 induction L with
 | nil=>rfl
 | cons a L ih =>
  rw[List.filter_cons,List.map_cons,List.filter_cons];by_cases e:a.1=n
  ·rw[if_neg (by simp[e]),if_neg (by simp[e])];exact ih
  ·rw[if_pos (by simp[e]),if_pos (by simp[e]),List.map_cons,ih]
theorem sJ {n:Nd}:∀ {L:List bN},(keys L).Nodup→n∈keys L→(without n L).length+1=L.length
 | [],_,h=>by cases h
 | p::L,hn,h=>by
  obtain⟨h1,h2⟩:=List.nodup_cons.1 (show(p.1::keys L).Nodup from hn);by_cases e:p.1=n
  ·have:without n (p::L)=L:=by
    unfold without;rw[List.filter_cons,if_neg (by simp[e])];refine List.filter_eq_self.2 fun x hx=>?_
    simp;intro hx2;exact h1 (by rw[e,← hx2];exact List.mem_map_of_mem hx)
   rw[this];rfl
  ·have h3:n∈keys L:=by
    rcases List.mem_cons.1 (show n∈p.1::keys L from h) with h | h
    ·exact absurd h.symm e
    ·exact h
   have:without n (p::L)=p::without n L:=by
    unfold without;rw[List.filter_cons,if_pos (by simp[e])]
   rw[this,List.length_cons,List.length_cons,sJ h2 h3]
theorem oO.del {q:IntKind} {D:DataW Unit} {L:List bN} (h:oO q D L) (ht:Tidy D) {n:Nd} (hn:n.ok) (hold:n∈keys L):oO q (D.del n.key) (without n L):=by
 have hno:∀ m:Nd,m.ok→m≠n→m.key≠n.key:=fun m hm hne e=>hne (kY hm hn e)
 refine⟨by rw[jg];exact jf _ h.nd,fun p hp=>h.ok p ((List.mem_filter.1 hp).1),fun m hm=>?_,fun p hp z=>?_,?_⟩
 ·rw[jg,List.mem_filter];by_cases e:m=n
  ·subst e;rw[has_del_same];simp
  ·rw[has_del_other (hno m hm e),h.dom m hm];simp[e]
 ·obtain⟨h1,h2⟩:=List.mem_filter.1 hp;rw[atKey_del_other (hno p.1 (h.ok p h1).1 (by simpa using h2))];exact h.val p h1 z
 ·have:=size_del (k:=n.key) ht
  rw[(h.dom n hn).2 hold,h.size] at this;have h2:=sJ h.nd hold;simp at this;omega
noncomputable def Oz (e:TypeId):Value→Option (DataW Unit×List MemPlace):=plainElem Tryz.prog e
def NM (e:TypeId) (q:IntKind) (w:World) (b:Nat) (L:List bN):Prop:=∃ D:DataW Unit,w.ownsMap Tryz.prog 37 (Oz e) b L.length D∧oO q D L
theorem NM.lt {e:TypeId} {q:IntKind} {w:World} {b:Nat} {L:List bN} (h:NM e q w b L):b<w.heap.size:=by
 obtain⟨D,h,_⟩:=h;exact h.lt
theorem NM.made (e:TypeId) (q:IntKind) (w:World):NM e q (w.alloc (.map #[] 0)) w.heap.size []:=⟨_,World.ownsMap_made _ _ _ _,oO.made q⟩
theorem NM.ag {e:TypeId} {q:IntKind} {w w':World} {b:Nat} {L:List bN} {S:Nat→Prop} (h:NM e q w b L) (hf:ah S w w') (hS:¬ S b):NM e q w' b L:=by
 obtain⟨D,h1,h2⟩:=h;exact⟨D,xz h1 hf hS,h2⟩
def look (L:List bN) (n:Nd):Option Int:=(L.find? fun p=>decide (p.1=n)).map (·.2)
theorem bX {L:List bN} {n:Nd}:look L n=none↔n∉keys L:=by
 unfold look;rw[Option.map_eq_none_iff,List.find?_eq_none,mem_keys];constructor
 ·rintro h ⟨r,hr⟩
  have:=h _ hr
  simp at this
 ·rintro h ⟨m,r⟩ hp;simp;rintro rfl;exact h ⟨r,hp⟩
theorem fD {L:List bN} {n:Nd} {r:Int} (h:look L n=some r):(n,r)∈L:=by
 unfold look at h;obtain⟨⟨m,r'⟩,hp,rfl⟩:=Option.map_eq_some_iff.1 h;have h1:=List.find?_some hp;simp at h1;subst h1;exact List.mem_of_find?_eq_some hp
theorem fI {L:List bN} (hn:(keys L).Nodup) {n:Nd} {r s:Int} (h1:(n,r)∈L) (h2:(n,s)∈L):r=s:=by
 induction L with
 | nil=>cases h1
 | cons a L ih =>
  obtain⟨ha,hn'⟩:=List.nodup_cons.1 (show(a.1::keys L).Nodup from hn);rcases List.mem_cons.1 h1 with e1 | h1 <;> rcases List.mem_cons.1 h2 with e2 | h2
  ·rw[← e1] at e2;exact(Prod.mk.inj e2).2.symm
  ·exact absurd (mem_keys.2 ⟨s,h2⟩) (by rw[← e1] at ha;exact ha)
  ·exact absurd (mem_keys.2 ⟨r,h1⟩) (by rw[← e2] at ha;exact ha)
  ·exact ih hn' h1 h2
theorem kF {L:List bN} (hn:(keys L).Nodup) {n:Nd} {r:Int} (h:(n,r)∈L):look L n=some r:=by
 rcases hh:look L n with _ | s
 ·exact absurd (mem_keys.2 ⟨r,h⟩) (bX.1 hh)
 ·rw[fI hn h (fD hh)]
end Go.Proofs.YtiomgckodmecbaaGreat
namespace Go.Proofs.YtiomgckodmecbaaGreat
open Go.RowKit Go.Tk Go.Maps
structure mG where
 T:Nat
 sb:Nat
 mb:Nat→Nat
def jv (L:List bN) (v:Nat):List bN:=L.filter fun p=>decide (p.1.v=(v:Int))
structure UT (w:World) (U:mG) (vars:Nat) (L:List bN):Prop where
 hv:1≤vars∧vars≤64
 t:ax w U.T 131 #[.slice (some ⟨U.sb,0,none⟩) vars vars]
 s:∀ v,v<vars→w.cell? ⟨U.sb,v,none⟩=some (.map (some (U.mb v)))
 sl:U.sb<w.heap.size
 m:∀ v,v<vars→NM 28 .u32 w (U.mb v) (jv L v)
 inj:∀ u v,u<vars→v<vars→U.mb u=U.mb v→u=v
 nt:∀ v,v<vars→U.mb v≠U.T∧U.mb v≠U.sb
 vs:∀ p∈L,0≤p.1.v∧p.1.v<vars
 nd:(keys L).Nodup
def UB (U:mG) (vars:Nat) (x:Nat):Prop:=∃ v,v<vars∧x=U.mb v
theorem UT.ag {w w':World} {U:mG} {vars:Nat} {L:List bN} {S:Nat→Prop} (h:UT w U vars L) (hf:ah S w w') (h1:¬ S U.T) (h2:¬ S U.sb) (h3:∀ v,v<vars→¬ S (U.mb v)):UT w' U vars L :=
 ⟨h.hv,h.t.ag hf h1,fun v hv=>(hf.cell h.sl h2).trans (h.s v hv),Nat.lt_of_lt_of_le h.sl hf.size,fun v hv=>(h.m v hv).ag hf (h3 v hv),h.inj,h.nt,h.vs,h.nd⟩
theorem UT.same {w w':World} {U:mG} {vars:Nat} {L:List bN} (h:UT w U vars L) (hf:Same w w'):UT w' U vars L:=h.ag hf id id fun _ _=>id
theorem UT.turn {w w':World} {U:mG} {vars:Nat} {L L':List bN} {v:Nat} (h:UT w U vars L) (hv:v<vars) (hf:ah (fun x=>x=U.mb v) w w') (hm:NM 28 .u32 w' (U.mb v) (jv L' v)) (ho:∀ u,u<vars→u≠v→jv L' u=jv L u) (hvs:∀ p∈L',0≤p.1.v∧p.1.v<vars) (hnd:(keys L').Nodup):UT w' U vars L' :=
 ⟨h.hv,h.t.ag hf (fun e=>(h.nt v hv).1 e.symm),fun u hu=>(hf.cell h.sl (fun e=>(h.nt v hv).2 e.symm)).trans (h.s u hu),Nat.lt_of_lt_of_le h.sl hf.size,fun u hu=>by
  by_cases e:u=v
  ·subst e;exact hm
  ·rw[ho u hu e];exact(h.m u hu).ag hf (fun e2=>e (h.inj u v hu hv e2)),h.inj,h.nt,hvs,hnd⟩
def nX (vars:Nat) (v:Int):Int:=if 0≤v∧v<vars then 0 else 2
theorem iF (U:mG) (vars:Nat) (L:List bN) (v:Int) (w:World) (h:UT w U vars L) :
  Calls Tryz.prog 114 #[.pointer (some ⟨U.T,0,none⟩),.int .i64 v] w fun e w'=>e=.returned (.int .i64 (nX vars v))∧w'=w:=by
 have ct:w.cell? ⟨U.T,0,none⟩=some (.slice (some ⟨U.sb,0,none⟩) vars vars):=h.t.cell 0;have lt:=h.t.lt;clear h;rcases Int.lt_or_le v 0 with h1 | h1
 ·have hE:nX vars v=2:=if_neg (by omega);rw[hE];go_enter Tryz.func114,Tryz.ntmps114;go_wp2;go_ret;exact⟨rfl,rfl⟩
 ·have h1':¬ v<0:=by omega
  by_cases h2:v<vars
  ·have hE:nX vars v=0:=if_pos ⟨h1,h2⟩;rw[hE];go_enter Tryz.func114,Tryz.ntmps114;go_wp2;go_ret;exact⟨rfl,rfl⟩
  ·have hE:nX vars v=2:=if_neg (by omega);rw[hE];go_enter Tryz.func114,Tryz.ntmps114;go_wp2;go_ret;exact⟨rfl,rfl⟩
end Go.Proofs.YtiomgckodmecbaaGreat
namespace Go.Proofs.YtiomgckodmecbaaGreat
open Go.RowKit Go.Tk Go.Maps
section
variable {o:Oper} {a:Act} {w:World} {K:Act→World→Prop} {Q:Exit→Act→World→Prop} {e:TypeId} {q:IntKind} {b:Nat} {L:List bN}
theorem NM.tidy (h:NM e q w b L):∃ D,w.ownsMap Tryz.prog 37 (Oz e) b L.length D∧oO q D L∧Tidy D∧IsMap D:=by
 obtain⟨D,h1,h2⟩:=h;exact⟨D,h1,h2,h1.tidy KN,h1.isMap⟩
theorem kG {q:IntKind} {x y:Int} (h:(DataW.lit (.int q x):DataW Unit)=.lit (.int q y)):x=y:=by
 simpa using h
theorem wf0 (q:IntKind):(Lit.int q 0).wf=true:=by cases q <;> decide
theorem NM.KJ (h:NM e q w b L) {t:TypeId} (ht:Tryz.prog.underlying t=some (.map 37 e)) (he:Tryz.prog.underlying e=some (.int q)) (hz:(zeroValue e).run Tryz.prog w=.ok (.int q 0) w) {n:Nd} (hn:n.ok) :
  (Instr.lookup t (.map (some b)) n.val true).run Tryz.prog w=.ok (.tuple #[.int q ((look L n).getD 0),.bool (look L n).isSome]) w:=by
 obtain⟨D,h1,h2⟩:=h
 suffices hs:∀ (x:Int) (y:Bool),x=(look L n).getD 0→y=(look L n).isSome→(Instr.lookup t (.map (some b)) n.val true).run Tryz.prog w=.ok (.tuple #[.int q x,.bool y]) w→(Instr.lookup t (.map (some b)) n.val true).run Tryz.prog w=.ok (.tuple #[.int q ((look L n).getD 0),.bool (look L n).isSome]) w by
  obtain⟨v,ps,hrun,hv⟩:=h1.look_ok KN ht hz (zd:=.lit (.int q 0)) (zp:=[]) (plainElem_int he (wf0 q)) (gI hn);obtain⟨c,rfl,hc,_⟩:=plainElem_int_inv he hv;have hc1:=congrArg Prod.fst hc;simp only at hc1;refine hs c _ ?_ ?_ hrun
  ·rcases hl:look L n with _ | r
   ·have hno:Maps.has D n.key=false:=by
     rcases hh:Maps.has D n.key with _ | _
     ·rfl
     ·exact absurd ((h2.dom n hn).1 hh) (bX.1 hl)
    rw[atKey_of_not_has hno] at hc1;exact(kG hc1).symm
   ·rw[h2.val _ (fD hl)] at hc1;exact(kG hc1).symm
  ·rcases hl:look L n with _ | r
   ·rcases hh:Maps.has D n.key with _ | _
    ·rfl
    ·exact absurd ((h2.dom n hn).1 hh) (bX.1 hl)
   ·exact(h2.dom n hn).2 (mem_keys.2 ⟨r,fD hl⟩)
 rintro x y rfl rfl h;exact h
theorem Own.pQ (m x:Operand) (t:TypeId) (ho:o.op=Op.lookup t m x true) (ht:Tryz.prog.underlying t=some (.map 37 e)) (he:Tryz.prog.underlying e=some (.int q)) (hz:(zeroValue e).run Tryz.prog w=.ok (.int q 0) w)
  (hm:a.eval m=.map (some b)) (h:NM e q w b L) (n:Nd) (hn:n.ok) (hx:a.eval x=n.val) (hK:K (a.put o.dst (.tuple #[.int q ((look L n).getD 0),.bool (look L n).isSome])) w):o.wp Tryz.prog a w K Q:=by
 have hrun:=h.KJ ht he hz hn;unfold Oper.wp;simp[execOp,ho,hm,hx,hrun,Result.andThen];exact hK
theorem Own.VN (m x v:Operand) (t:TypeId) (ho:o.op=Op.mapUpdate t m x v) (ht:Tryz.prog.underlying t=some (.map 37 e)) (he:Tryz.prog.underlying e=some (.int q))
  (hm:a.eval m=.map (some b)) (h:NM e q w b L) (hlen:L.length<maxLen) (n:Nd) (hn:n.ok) (hx:a.eval x=n.val) (r:Int) (hr:(Lit.int q r).wf=true) (hv:a.eval v=.int q r) (hnew:n∉keys L)
  (hK:∀ w',NM e q w' b (L++[(n,r)])→ah (fun x=>x=b) w w'→K (a.put o.dst undef) w'):o.wp Tryz.prog a w K Q:=by
 obtain⟨D,h1,h2,h3,h4⟩:=h.tidy;obtain⟨w',hrun,r1,r2⟩:=h1.store KN ht hlen (gI hn) (plainElem_int (H:=Unit) he hr);unfold Oper.wp;simp[execOp,ho,hm,hx,hv,hrun,Result.andThen];exact hK _ ⟨_,by rw[List.length_append];exact r1,h2.put h3 h4 hn hr hnew⟩ ((ah.refl _ w).grown r2.grown (fun g hg=>.inl (Option.some.inj hg).symm))
theorem Own.VO (m x:Operand) (t:TypeId) (ho:o.op=Op.call { callee:=Callee.builtin Builtin.delete,args:=#[m,x],argTypes:=#[t,37] }) (ht:Tryz.prog.underlying t=some (.map 37 e))
  (hm:a.eval m=.map (some b)) (h:NM e q w b L) (n:Nd) (hn:n.ok) (hx:a.eval x=n.val) (hold:n∈keys L)
  (hK:∀ w',NM e q w' b (without n L)→ah (fun x=>x=b) w w'→K (a.put o.dst (.tuple #[])) w'):o.wp Tryz.prog a w K Q:=by
 obtain⟨D,h1,h2,h3,h4⟩:=h.tidy;obtain⟨w',hrun,r1,r2⟩:=h1.drop KN ht (gI hn) o.type;unfold Oper.wp;simp[execOp,ho,resolve,invoke,builtin,hm,hx,hrun,Result.andThen];have h5:=h2.del h3 hn hold;refine hK _ ⟨_,?_,h5⟩ ((ah.refl _ w).grown r2.grown (fun g hg=>.inl (Option.some.inj hg).symm));rw[← h5.size];exact ow r1
theorem Own.QF (m:Operand) (t:TypeId) (ho:o.op=Op.call { callee:=Callee.builtin Builtin.len,args:=#[m],argTypes:=#[t] }) (ht:Tryz.prog.underlying t=some (.map 37 e))
  (hm:a.eval m=.map (some b)) (h:NM e q w b L) (hK:K (a.put o.dst (.int .i64 L.length)) w):o.wp Tryz.prog a w K Q:=by
 obtain⟨D,h1,h2,h3,h4⟩:=h.tidy;unfold Oper.wp;simp[execOp,ho,resolve,invoke,builtin,hm,h1.len ht o.type,Result.andThen];rw[h2.size];exact hK
end
end Go.Proofs.YtiomgckodmecbaaGreat
namespace Go.Proofs.YtiomgckodmecbaaGreat
open Go.RowKit Go.Tk Go.Maps
theorem uT (L:List bN) (n:Nd) {v:Nat} (h:n.v=v):look (jv L v) n=look L n:=by
 unfold look jv;rw[Maps.find_filter_keep];intro p hp;simp at hp ⊢;rw[hp,h]
theorem KL {w:World} {U:mG} {vars:Nat} {L:List bN} (h:UT w U vars L) {n:Nd} (hn:¬ (0≤n.v∧n.v<vars)):look L n=none :=
 bX.2 fun hk=>by
  obtain⟨r,hr⟩:=mem_keys.1 hk;exact hn (h.vs _ hr)
theorem oP (U:mG) (vars:Nat) (L:List bN) (n:Nd) (hn:n.ok) (w:World) (h:UT w U vars L) :
  Calls Tryz.prog 90 #[.pointer (some ⟨U.T,0,none⟩),n.val] w fun e w'=>e=.returned (.tuple #[.int .u32 ((look L n).getD 0),.bool (look L n).isSome])∧Same w w':=by
 obtain⟨w1,hw1⟩:∃ z,z=w.alloc (.cells #[.int .i64 n.v,.int .u32 n.lo,.int .u32 n.hi] 37):=⟨_,rfl⟩;have hs1:Same w w1:=by rw[hw1];exact(ah.refl _ _).alloc _
 have hX:ax w1 w.heap.size 37 #[.int .i64 n.v,.int .u32 n.lo,.int .u32 n.hi]:=by rw[hw1];exact ax.new _ _ _
 have h1:=h.same hs1;obtain⟨X,yg⟩:∃ z,z=w.heap.size:=⟨_,rfl⟩;rw[← yg] at hX;have UQ:w1.cell? ⟨X,0,none⟩=some (.int .i64 n.v):=hX.cell 0;have UR:w1.cell? ⟨X,1,none⟩=some (.int .u32 n.lo):=hX.cell 1;have UU:w1.cell? ⟨X,2,none⟩=some (.int .u32 n.hi):=hX.cell 2;have lX:=hX.lt;have aX:=Lib.hid hs1;have H1:=Lib.hid h1;have HC:=Lib.hid (iF U vars L n.v w1 h1);have HL:∀ (v:Nat),n.v=v→look (jv L v) n=look L n:=fun v hv=>uT L n hv
 have HO:=Lib.hid (fun hno=>KL h (n:=n) hno);have HL':=Lib.hid HL;clear hs1 h1 h HL hX;obtain⟨nv,nlo,nhi⟩:=n;simp only[Nd.val] at *
 go_enter Tryz.func90,Tryz.ntmps90;go_wp2_with (fail)
 rw[← yg,← hw1];refine HC.out.mono ?_;rintro e w2 ⟨rfl,rfl⟩;by_cases hv:0≤nv∧nv<vars
 ·obtain⟨v,rfl⟩:=Int.eq_ofNat_of_zero_le hv.1;have hvv:v<vars:=by omega
  have hE:nX vars v=0:=if_pos hv;rw[hE];have ct:w2.cell? ⟨U.T,0,none⟩=some (.slice (some ⟨U.sb,0,none⟩) vars vars):=H1.out.t.cell 0;have lt:=H1.out.t.lt;have cs:=H1.out.s v hvv;have ls:=H1.out.sl;have hk0:(0:Int)≤v:=hv.1;have hk1:(v:Int)<vars:=hv.2;have hm:=Lib.hid (H1.out.m v hvv);have hl:=Lib.hid (HL'.out v rfl);clear hv HO HL' hw1 yg hE HC;go_wp2;refine aJ (fun _=>False) [([0,1,2,3,4,5,6,7,8],9),([10,11,12,13],14)] (by kernel_rfl) (by kernel_rfl) ?_;simp only[cK,pick,List.map_cons,List.map_nil,List.getD_cons_zero,List.getD_cons_succ];have nS:∀ b:Nat,¬ (fun _:Nat=>False) b:=fun _ h=>h
  repeat (any_goals (first | go_big_quiet_step (fail) | quiet_step (fail)))
  refine wpQuiet_nil ?_;refine aa rfl fun K hK=>?_
  obtain⟨wd,hwd⟩:∃ z,z=w2.drew:=⟨_,rfl⟩;have hsd:Same w2 wd:=by rw[hwd];exact(ah.refl _ _).drew
  rw[← hwd];clear hwd;refine Own.pQ (.tmp 21) (.tmp 22) 132 rfl Tryz.underlying132 Tryz.underlying28 (Tryz.zeroValue28 _) rfl (hm.out.ag hsd id) ⟨v,nlo,nhi⟩ hn rfl ?_;rw[hl.out];refine hK _ _ (aZ.bu hsd) ?_;clear hK K;repeat (any_goals (first | go_big_quiet_step (fail) | quiet_step (fail)))
  refine wpQuiet_nil ?_;go_wp2;go_ret2;exact⟨rfl,aX.out.trans hsd (fun _ _ h=>h)⟩
 ·have hE:nX vars nv=2:=if_neg hv;rw[hE];have hz:=Lib.hid (HO.out hv);clear hw1 yg hE HC HO HL';go_wp2;go_ret2;exact⟨by rw[hz.out];rfl,aX.out⟩
theorem Bb (U:mG) (vars:Nat) (L:List bN) (v:Int) (w:World) (h:UT w U vars L) :
  Calls Tryz.prog 82 #[.pointer (some ⟨U.T,0,none⟩),.int .i64 v] w fun e w'=>e=.returned (.tuple #[.int .i64 (if 0≤v∧v<vars then (jv L v.toNat).length else 0:Nat),.int .i64 (nX vars v)])∧w'=w:=by
 have HC:=Lib.hid (iF U vars L v w h);have ct:w.cell? ⟨U.T,0,none⟩=some (.slice (some ⟨U.sb,0,none⟩) vars vars):=h.t.cell 0;have lt:=h.t.lt;by_cases hv:0≤v∧v<vars
 ·obtain⟨u,rfl⟩:=Int.eq_ofNat_of_zero_le hv.1;have hvv:u<vars:=by omega
  have hE:nX vars u=0:=if_pos hv;rw[if_pos hv,Int.toNat_natCast];have cs:=h.s u hvv;have ls:=h.sl;have hk0:(0:Int)≤u:=hv.1;have hk1:(u:Int)<vars:=hv.2;obtain⟨N,hN⟩:∃ z,z=(jv L u).length:=⟨_,rfl⟩;have hm:=Lib.hid (h.m u hvv);rw[hE] at HC ⊢;rw[← hN];have HN:=Lib.hid hN;clear hv h hE hN;go_enter Tryz.func82,Tryz.ntmps82;go_wp2_with (fail)
  refine HC.out.mono ?_;rintro e w2 ⟨rfl,rfl⟩;clear HC;go_upto_region 4 with fail
  refine aV 7 ?_;simp only[List.take_succ_cons,List.take_zero,List.drop_succ_cons,List.drop_zero];repeat (any_goals (first | go_big_quiet_step (fail) | quiet_step (fail)))
  refine wpQuiet_nil ?_;refine wpList_plain rfl fun K hK=>?_
  refine Own.QF (.tmp 19) 132 rfl Tryz.underlying132 rfl hm.out ?_;rw[← HN.out];refine hK _ _ ?_;clear hK K;go_wp2;go_ret2;exact⟨rfl,rfl⟩
 ·have hE:nX vars v=2:=if_neg hv;rw[if_neg hv,hE];rw[hE] at HC;clear h hE;go_enter Tryz.func82,Tryz.ntmps82;go_wp2_with (fail)
  refine HC.out.mono ?_;rintro e w2 ⟨rfl,rfl⟩;clear HC;go_wp2;go_ret2;exact⟨rfl,rfl⟩
end Go.Proofs.YtiomgckodmecbaaGreat
namespace Go.Proofs.YtiomgckodmecbaaGreat
open Go.RowKit Go.Tk Go.Maps
theorem xA {L:List bN} {n:Nd} {r:Int} {v:Nat} (h:n.v=v):jv (L++[(n,r)]) v=jv L v++[(n,r)]:=by
 unfold jv;rw[List.filter_append];simp[h]
theorem uU {L:List bN} {n:Nd} {r:Int} {v u:Nat} (h:n.v=v) (hu:u≠v):jv (L++[(n,r)]) u=jv L u:=by
 unfold jv;rw[List.filter_append];simp[h] <;> omega
theorem qX {L:List bN} {n:Nd} {v:Nat}:jv (without n L) v=without n (jv L v):=by
 unfold jv without;rw[List.filter_filter,List.filter_filter];refine List.filter_congr fun p _=>?_
 exact Bool.and_comm _ _
theorem pR {L:List bN} {n:Nd} {v u:Nat} (h:n.v=v) (hu:u≠v):jv (without n L) u=jv L u:=by
 unfold jv without;rw[List.filter_filter];refine List.filter_congr fun p _=>?_
 by_cases e:p.1=n
 ·subst e;simp[h] <;> omega
 ·simp[e]
theorem Bc {L:List bN} {n:Nd} {v:Nat} (h:n.v=v):n∈keys (jv L v)↔n∈keys L:=by
 rw[mem_keys,mem_keys];constructor
 ·rintro⟨r,hr⟩;exact⟨r,(List.mem_filter.1 hr).1⟩
 ·rintro⟨r,hr⟩;exact⟨r,List.mem_filter.2 ⟨hr,by simp[h]⟩⟩
def OA (vars:Nat) (L:List bN) (n:Nd):Int:=if 0≤n.v∧n.v<vars then (if (look L n).isSome then 11 else 0) else 2
def D7 (vars:Nat) (L:List bN) (n:Nd) (r:Int):List bN:=if 0≤n.v∧n.v<vars then (if (look L n).isSome then L else L++[(n,r)]) else L
def Ie (vars:Nat) (L:List bN) (n:Nd):Int:=if 0≤n.v∧n.v<vars then (if (look L n).isSome then 0 else 10) else 2
def Bd (vars:Nat) (L:List bN) (n:Nd):List bN:=if 0≤n.v∧n.v<vars then (if (look L n).isSome then without n L else L) else L
theorem UT.add {w w':World} {U:mG} {vars:Nat} {L:List bN} {n:Nd} {r:Int} {v:Nat} (h:UT w U vars L) (hv:v<vars) (hn:n.v=v) (hno:look L n=none) (hm:NM 28 .u32 w' (U.mb v) (jv L v++[(n,r)])) (hf:ah (fun x=>x=U.mb v) w w'):UT w' U vars (L++[(n,r)]) :=
 h.turn hv hf (by rw[xA hn];exact hm) (fun u _ hne=>uU hn hne) (fun p hp=>by
  rcases List.mem_append.1 hp with hp | hp
  ·exact h.vs p hp
  ·obtain rfl:=List.mem_singleton.1 hp;simp only[hn];omega) (by
  have:keys (L++[(n,r)])=keys L++[n]:=by simp[keys]
  rw[this,List.nodup_append]
  exact⟨h.nd,by simp,fun a ha b hb e=>bX.1 hno (by simp at hb;rw[← hb,← e];exact ha)⟩)
theorem UT.rem {w w':World} {U:mG} {vars:Nat} {L:List bN} {n:Nd} {v:Nat} (h:UT w U vars L) (hv:v<vars) (hn:n.v=v) (hm:NM 28 .u32 w' (U.mb v) (without n (jv L v))) (hf:ah (fun x=>x=U.mb v) w w'):UT w' U vars (without n L) :=
 h.turn hv hf (by rw[qX];exact hm) (fun u _ hne=>pR hn hne) (fun p hp=>h.vs p (List.mem_filter.1 hp).1) (by rw[jg];exact jf _ h.nd)
theorem yh (U:mG) (vars:Nat) (L:List bN) (n:Nd) (hn:n.ok) (r:Int) (hr:(Lit.int .u32 r).wf=true) (hlen:L.length<maxLen) (w:World) (h:UT w U vars L) :
  Calls Tryz.prog 93 #[.pointer (some ⟨U.T,0,none⟩),n.val,.int .u32 r] w fun e w'=>e=.returned (.int .i64 (OA vars L n))∧UT w' U vars (D7 vars L n r)∧ah (UB U vars) w w':=by
 obtain⟨w1,hw1⟩:∃ z,z=w.alloc (.cells #[.int .i64 n.v,.int .u32 n.lo,.int .u32 n.hi] 37):=⟨_,rfl⟩;have hs1:Same w w1:=by rw[hw1];exact(ah.refl _ _).alloc _
 have hX:ax w1 w.heap.size 37 #[.int .i64 n.v,.int .u32 n.lo,.int .u32 n.hi]:=by rw[hw1];exact ax.new _ _ _
 have h1:=h.same hs1;obtain⟨X,yg⟩:∃ z,z=w.heap.size:=⟨_,rfl⟩;rw[← yg] at hX;have UQ:w1.cell? ⟨X,0,none⟩=some (.int .i64 n.v):=hX.cell 0;have UR:w1.cell? ⟨X,1,none⟩=some (.int .u32 n.lo):=hX.cell 1;have UU:w1.cell? ⟨X,2,none⟩=some (.int .u32 n.hi):=hX.cell 2;have lX:=hX.lt;have aX:=Lib.hid hs1;have H1:=Lib.hid h1;have HC:=Lib.hid (iF U vars L n.v w1 h1);have D8:=Lib.hid (fun (v:Nat) (hv:n.v=v)=>uT L n hv);have VP:=Lib.hid (fun (v:Nat) (hv:n.v=v)=>Bc (L:=L) hv);have Dm:=Lib.hid (fun (v:Nat)=>Nat.lt_of_le_of_lt (List.length_filter_le (fun p:bN=>decide (p.1.v=(v:Int))) L) hlen);have HR:=Lib.hid hr;have HN:=Lib.hid hn
 have aF:=Lib.hid (show ∀ (v:Nat) (w2:World),v<vars→n.v=v→look L n=none→NM 28 .u32 w2 (U.mb v) (jv L v++[(n,r)])→ah (fun x=>x=U.mb v) w1 w2→UT w2 U vars (L++[(n,r)])∧ah (UB U vars) w w2 from
  fun v w2 hv QG hno hm hf=>⟨h1.add hv QG hno hm hf,((ah.refl (UB U vars) w).trans hs1 (fun _ _ h=>h.elim)).trans hf (fun i _ (hi:i=U.mb v)=>⟨v,hv,hi⟩)⟩)
 clear hs1 h hX h1 hlen hr hn;obtain⟨nv,nlo,nhi⟩:=n;simp only[Nd.val] at *
 by_cases hv:0≤nv∧nv<vars
 ·obtain⟨v,rfl⟩:=Int.eq_ofNat_of_zero_le hv.1;have hvv:v<vars:=by omega
  have hE:nX vars v=0:=if_pos hv;rw[hE] at HC;have ct:w1.cell? ⟨U.T,0,none⟩=some (.slice (some ⟨U.sb,0,none⟩) vars vars):=H1.out.t.cell 0;have lt:=H1.out.t.lt;have cs:=H1.out.s v hvv;have ls:=H1.out.sl;have hk0:(0:Int)≤v:=hv.1;have hk1:(v:Int)<vars:=hv.2;have hm:=Lib.hid (H1.out.m v hvv);have hl:=Lib.hid (D8.out v rfl);have KM:=Lib.hid (VP.out v rfl);have lm:=H1.out.m v hvv |>.lt
  unfold OA D7;rw[if_pos hv,if_pos hv];clear hv D8 VP hE;rcases hlk:look L ⟨v,nlo,nhi⟩ with _ | r0
  ·rw[hlk] at hl;have nY:=Lib.hid hlk;clear hlk;go_enter Tryz.func93,Tryz.ntmps93;go_wp2_with (fail)
   rw[← yg,← hw1];clear yg hw1;refine HC.out.mono ?_;rintro e w2 ⟨rfl,rfl⟩;clear HC;go_wp2;refine aJ (fun _=>False) [([0,1,2,3,4,5,6,7,8],9),([10,11,12,13],14)] (by kernel_rfl) (by kernel_rfl) ?_;simp only[cK,pick,List.map_cons,List.map_nil,List.getD_cons_zero,List.getD_cons_succ];have nS:∀ b:Nat,¬ (fun _:Nat=>False) b:=fun _ h=>h
   repeat (any_goals (first | go_big_quiet_step (fail) | quiet_step (fail)))
   refine wpQuiet_nil ?_;refine aa rfl fun K hK=>?_
   obtain⟨wd,hwd⟩:∃ z,z=w2.drew:=⟨_,rfl⟩;have hsd:Same w2 wd:=by rw[hwd];exact(ah.refl _ _).drew
   rw[← hwd];clear hwd;refine Own.pQ (.tmp 25) (.tmp 26) 132 rfl Tryz.underlying132 Tryz.underlying28 (Tryz.zeroValue28 _) rfl (hm.out.ag hsd id) ⟨v,nlo,nhi⟩ HN.out rfl ?_;rw[hl.out];refine hK _ _ (aZ.bu hsd) ?_;clear hK K;repeat (any_goals (first | go_big_quiet_step (fail) | quiet_step (fail)))
   refine wpQuiet_nil ?_;have ct:=(hsd.cell (p:=⟨U.T,0,none⟩) lt id).trans ct;have cs:=(hsd.cell (p:=⟨U.sb,v,none⟩) ls id).trans cs;have UQ:=(hsd.cell (p:=⟨X,0,none⟩) lX id).trans UQ;have UR:=(hsd.cell (p:=⟨X,1,none⟩) lX id).trans UR;have UU:=(hsd.cell (p:=⟨X,2,none⟩) lX id).trans UU;have lt:=Nat.lt_of_lt_of_le lt hsd.size;have ls:=Nat.lt_of_lt_of_le ls hsd.size;have lX:=Nat.lt_of_lt_of_le lX hsd.size;have Dn:=Lib.hid hsd;clear hsd;go_wp2;refine aJ (fun _=>False) [([0,1,2,3,4,5,6,7,8,9],10)] (by kernel_rfl) (by kernel_rfl) ?_;simp only[cK,pick,List.map_cons,List.map_nil,List.getD_cons_zero,List.getD_cons_succ];repeat (any_goals (first | go_big_quiet_step (fail) | quiet_step (fail)))
   refine wpQuiet_nil ?_;obtain⟨we,bY⟩:∃ z,z=wd.drew:=⟨_,rfl⟩;have hse:Same wd we:=by rw[bY];exact(ah.refl _ _).drew
   rw[← bY];clear bY;refine wpList_plain rfl fun K hK=>?_
   refine Own.VN (.tmp 38) (.tmp 39) (.tmp 40) 132 rfl Tryz.underlying132 Tryz.underlying28 rfl ((hm.out.ag Dn.out id).ag hse id) (Dm.out v) ⟨v,nlo,nhi⟩ HN.out rfl r HR.out rfl (by rw[KM.out];exact bX.1 nY.out) ?_;intro w3 hnm hf;refine hK _ _ ?_;have HF:=Lib.hid (aF.out v w3 hvv rfl nY.out hnm (((ah.refl _ w2).trans (Dn.out.trans hse (fun _ _ h=>h)) (fun _ _ h=>h.elim)).trans hf (fun _ _ h=>h)));clear hK K hnm hf;go_wp2;go_ret;exact⟨rfl,HF.out.1,HF.out.2⟩
  ·rw[hlk] at hl;have nY:=Lib.hid hlk;clear hlk;go_enter Tryz.func93,Tryz.ntmps93;go_wp2_with (fail)
   rw[← yg,← hw1];clear yg hw1;refine HC.out.mono ?_;rintro e w2 ⟨rfl,rfl⟩;clear HC;go_wp2;refine aJ (fun _=>False) [([0,1,2,3,4,5,6,7,8],9),([10,11,12,13],14)] (by kernel_rfl) (by kernel_rfl) ?_;simp only[cK,pick,List.map_cons,List.map_nil,List.getD_cons_zero,List.getD_cons_succ];have nS:∀ b:Nat,¬ (fun _:Nat=>False) b:=fun _ h=>h
   repeat (any_goals (first | go_big_quiet_step (fail) | quiet_step (fail)))
   refine wpQuiet_nil ?_;refine aa rfl fun K hK=>?_
   obtain⟨wd,hwd⟩:∃ z,z=w2.drew:=⟨_,rfl⟩;have hsd:Same w2 wd:=by rw[hwd];exact(ah.refl _ _).drew
   rw[← hwd];clear hwd;refine Own.pQ (.tmp 25) (.tmp 26) 132 rfl Tryz.underlying132 Tryz.underlying28 (Tryz.zeroValue28 _) rfl (hm.out.ag hsd id) ⟨v,nlo,nhi⟩ HN.out rfl ?_;rw[hl.out];refine hK _ _ (aZ.bu hsd) ?_;clear hK K;repeat (any_goals (first | go_big_quiet_step (fail) | quiet_step (fail)))
   refine wpQuiet_nil ?_;have hfw:=Lib.hid (((ah.refl (UB U vars) w).trans aX.out (fun _ _ h=>h.elim)).trans hsd (fun _ _ h=>h.elim));have HU:=Lib.hid (H1.out.same hsd);clear hsd;go_wp2;go_ret;exact⟨rfl,HU.out,hfw.out⟩
 ·have hE:nX vars nv=2:=if_neg hv;rw[hE] at HC;unfold OA D7;rw[if_neg hv,if_neg hv];have hfw:=Lib.hid ((ah.refl (UB U vars) w).trans aX.out (fun _ _ h=>h.elim));clear hE hv;go_enter Tryz.func93,Tryz.ntmps93;go_wp2_with (fail)
  rw[← yg,← hw1];clear yg hw1;refine HC.out.mono ?_;rintro e w2 ⟨rfl,rfl⟩;clear HC;go_wp2;go_ret;exact⟨rfl,H1.out,hfw.out⟩
theorem yj (U:mG) (vars:Nat) (L:List bN) (n:Nd) (hn:n.ok) (w:World) (h:UT w U vars L) :
  Calls Tryz.prog 95 #[.pointer (some ⟨U.T,0,none⟩),n.val] w fun e w'=>e=.returned (.int .i64 (Ie vars L n))∧UT w' U vars (Bd vars L n)∧ah (UB U vars) w w':=by
 obtain⟨w1,hw1⟩:∃ z,z=w.alloc (.cells #[.int .i64 n.v,.int .u32 n.lo,.int .u32 n.hi] 37):=⟨_,rfl⟩;have hs1:Same w w1:=by rw[hw1];exact(ah.refl _ _).alloc _
 have hX:ax w1 w.heap.size 37 #[.int .i64 n.v,.int .u32 n.lo,.int .u32 n.hi]:=by rw[hw1];exact ax.new _ _ _
 have h1:=h.same hs1;obtain⟨X,yg⟩:∃ z,z=w.heap.size:=⟨_,rfl⟩;rw[← yg] at hX;have UQ:w1.cell? ⟨X,0,none⟩=some (.int .i64 n.v):=hX.cell 0;have UR:w1.cell? ⟨X,1,none⟩=some (.int .u32 n.lo):=hX.cell 1;have UU:w1.cell? ⟨X,2,none⟩=some (.int .u32 n.hi):=hX.cell 2;have lX:=hX.lt;have aX:=Lib.hid hs1;have H1:=Lib.hid h1;have HC:=Lib.hid (iF U vars L n.v w1 h1);have D8:=Lib.hid (fun (v:Nat) (hv:n.v=v)=>uT L n hv);have VP:=Lib.hid (fun (v:Nat) (hv:n.v=v)=>Bc (L:=L) hv);have HN:=Lib.hid hn
 have aF:=Lib.hid (show ∀ (v:Nat) (w2:World),v<vars→n.v=v→NM 28 .u32 w2 (U.mb v) (without n (jv L v))→ah (fun x=>x=U.mb v) w1 w2→UT w2 U vars (without n L)∧ah (UB U vars) w w2 from
  fun v w2 hv QG hm hf=>⟨h1.rem hv QG hm hf,((ah.refl (UB U vars) w).trans hs1 (fun _ _ h=>h.elim)).trans hf (fun i _ (hi:i=U.mb v)=>⟨v,hv,hi⟩)⟩)
 clear hs1 h hX h1 hn;obtain⟨nv,nlo,nhi⟩:=n;simp only[Nd.val] at *
 by_cases hv:0≤nv∧nv<vars
 ·obtain⟨v,rfl⟩:=Int.eq_ofNat_of_zero_le hv.1;have hvv:v<vars:=by omega
  have hE:nX vars v=0:=if_pos hv;rw[hE] at HC;have ct:w1.cell? ⟨U.T,0,none⟩=some (.slice (some ⟨U.sb,0,none⟩) vars vars):=H1.out.t.cell 0;have lt:=H1.out.t.lt;have cs:=H1.out.s v hvv;have ls:=H1.out.sl;have hk0:(0:Int)≤v:=hv.1;have hk1:(v:Int)<vars:=hv.2;have hm:=Lib.hid (H1.out.m v hvv);have hl:=Lib.hid (D8.out v rfl);have KM:=Lib.hid (VP.out v rfl);have lm:=H1.out.m v hvv |>.lt
  unfold Ie Bd;rw[if_pos hv,if_pos hv];clear hv D8 VP hE;rcases hlk:look L ⟨v,nlo,nhi⟩ with _ | r0
  ·rw[hlk] at hl;have nY:=Lib.hid hlk;clear hlk;go_enter Tryz.func95,Tryz.ntmps95;go_wp2_with (fail)
   rw[← yg,← hw1];clear yg hw1;refine HC.out.mono ?_;rintro e w2 ⟨rfl,rfl⟩;clear HC;go_wp2;refine aJ (fun _=>False) [([0,1,2,3,4,5,6,7,8],9),([10,11,12,13],14)] (by kernel_rfl) (by kernel_rfl) ?_;simp only[cK,pick,List.map_cons,List.map_nil,List.getD_cons_zero,List.getD_cons_succ];have nS:∀ b:Nat,¬ (fun _:Nat=>False) b:=fun _ h=>h
   repeat (any_goals (first | go_big_quiet_step (fail) | quiet_step (fail)))
   refine wpQuiet_nil ?_;refine aa rfl fun K hK=>?_
   obtain⟨wd,hwd⟩:∃ z,z=w2.drew:=⟨_,rfl⟩;have hsd:Same w2 wd:=by rw[hwd];exact(ah.refl _ _).drew
   rw[← hwd];clear hwd;refine Own.pQ (.tmp 23) (.tmp 24) 132 rfl Tryz.underlying132 Tryz.underlying28 (Tryz.zeroValue28 _) rfl (hm.out.ag hsd id) ⟨v,nlo,nhi⟩ HN.out rfl ?_;rw[hl.out];refine hK _ _ (aZ.bu hsd) ?_;clear hK K;repeat (any_goals (first | go_big_quiet_step (fail) | quiet_step (fail)))
   refine wpQuiet_nil ?_;have hfw:=Lib.hid (((ah.refl (UB U vars) w).trans aX.out (fun _ _ h=>h.elim)).trans hsd (fun _ _ h=>h.elim));have HU:=Lib.hid (H1.out.same hsd);clear hsd;go_wp2;go_ret;exact⟨rfl,HU.out,hfw.out⟩
  ·rw[hlk] at hl;have nY:=Lib.hid hlk;clear hlk;go_enter Tryz.func95,Tryz.ntmps95;go_wp2_with (fail)
   rw[← yg,← hw1];clear yg hw1;refine HC.out.mono ?_;rintro e w2 ⟨rfl,rfl⟩;clear HC;go_wp2;refine aJ (fun _=>False) [([0,1,2,3,4,5,6,7,8],9),([10,11,12,13],14)] (by kernel_rfl) (by kernel_rfl) ?_;simp only[cK,pick,List.map_cons,List.map_nil,List.getD_cons_zero,List.getD_cons_succ];have nS:∀ b:Nat,¬ (fun _:Nat=>False) b:=fun _ h=>h
   repeat (any_goals (first | go_big_quiet_step (fail) | quiet_step (fail)))
   refine wpQuiet_nil ?_;refine aa rfl fun K hK=>?_
   obtain⟨wd,hwd⟩:∃ z,z=w2.drew:=⟨_,rfl⟩;have hsd:Same w2 wd:=by rw[hwd];exact(ah.refl _ _).drew
   rw[← hwd];clear hwd;refine Own.pQ (.tmp 23) (.tmp 24) 132 rfl Tryz.underlying132 Tryz.underlying28 (Tryz.zeroValue28 _) rfl (hm.out.ag hsd id) ⟨v,nlo,nhi⟩ HN.out rfl ?_;rw[hl.out];refine hK _ _ (aZ.bu hsd) ?_;clear hK K;repeat (any_goals (first | go_big_quiet_step (fail) | quiet_step (fail)))
   refine wpQuiet_nil ?_;have ct:=(hsd.cell (p:=⟨U.T,0,none⟩) lt id).trans ct;have cs:=(hsd.cell (p:=⟨U.sb,v,none⟩) ls id).trans cs;have UQ:=(hsd.cell (p:=⟨X,0,none⟩) lX id).trans UQ;have UR:=(hsd.cell (p:=⟨X,1,none⟩) lX id).trans UR;have UU:=(hsd.cell (p:=⟨X,2,none⟩) lX id).trans UU;have lt:=Nat.lt_of_lt_of_le lt hsd.size;have ls:=Nat.lt_of_lt_of_le ls hsd.size;have lX:=Nat.lt_of_lt_of_le lX hsd.size;have Dn:=Lib.hid hsd;clear hsd;go_wp2;refine aJ (fun _=>False) [([0,1,2,3,4,5,6,7,8],9)] (by kernel_rfl) (by kernel_rfl) ?_;simp only[cK,pick,List.map_cons,List.map_nil,List.getD_cons_zero,List.getD_cons_succ];repeat (any_goals (first | go_big_quiet_step (fail) | quiet_step (fail)))
   refine wpQuiet_nil ?_;obtain⟨we,bY⟩:∃ z,z=wd.drew:=⟨_,rfl⟩;have hse:Same wd we:=by rw[bY];exact(ah.refl _ _).drew
   rw[← bY];clear bY;refine wpList_plain rfl fun K hK=>?_
   refine Own.VO (.tmp 37) (.tmp 38) 132 rfl Tryz.underlying132 rfl ((hm.out.ag Dn.out id).ag hse id) ⟨v,nlo,nhi⟩ HN.out rfl (by rw[KM.out];exact mem_keys.2 ⟨r0,fD nY.out⟩) ?_;intro w3 hnm hf;refine hK _ _ ?_;have HF:=Lib.hid (aF.out v w3 hvv rfl hnm (((ah.refl _ w2).trans (Dn.out.trans hse (fun _ _ h=>h)) (fun _ _ h=>h.elim)).trans hf (fun _ _ h=>h)));clear hK K hnm hf;go_wp2;go_ret;exact⟨rfl,HF.out.1,HF.out.2⟩
 ·have hE:nX vars nv=2:=if_neg hv;rw[hE] at HC;unfold Ie Bd;rw[if_neg hv,if_neg hv];have hfw:=Lib.hid ((ah.refl (UB U vars) w).trans aX.out (fun _ _ h=>h.elim));clear hE hv;go_enter Tryz.func95,Tryz.ntmps95;go_wp2_with (fail)
  rw[← yg,← hw1];clear yg hw1;refine HC.out.mono ?_;rintro e w2 ⟨rfl,rfl⟩;clear HC;go_wp2;go_ret;exact⟨rfl,H1.out,hfw.out⟩
end Go.Proofs.YtiomgckodmecbaaGreat
namespace Go.Proofs.YtiomgckodmecbaaGreat
open Go.RowKit Go.Tk
structure KS where
 n:Nat
 c:Nat
 ac:Nat
 ls:List Pl
 fr:List Int
 L:List bN
 us:List Int
 hs:List Int
 ord:List Int
 bH:List Int
 tr:List Int
structure KA where
 g:Nat
 A:Option Addr
 C:Nat
 A':Option Addr
 C':Nat
 U:mG
 uA:Option Addr
 uC:Nat
 hA:Option Addr
 hC:Nat
 oA:Option Addr
 oC:Nat
 lA:Option Addr
 lC:Nat
 tA:Option Addr
 tC:Nat
def xB (x:Int):Value:=.int .i32 x
def KA.comp (n kp:Nat) (a:KA):Nat→Nat→Prop
 | 0,b=>b=kp
 | 1,b=>b=a.g
 | 2,b=>rowOf a.A b
 | 3,b=>rowOf a.A' b
 | 4,b=>b=a.U.T
 | 5,b=>b=a.U.sb
 | 6,b=>UB a.U n b
 | 7,b=>rowOf a.uA b
 | 8,b=>rowOf a.hA b
 | 9,b=>rowOf a.oA b
 | 10,b=>rowOf a.lA b
 | 11,b=>rowOf a.tA b
 | _,_=>False
def gX (n kp:Nat) (a:KA) (b:Nat):Prop:=∃ i,a.comp n kp i b
def cO (k:KS) (a:KA):Array Value :=
 #[.pointer (some ⟨a.g,0,none⟩),.pointer (some ⟨a.U.T,0,none⟩),.slice a.uA k.us.length a.uC,.slice a.hA k.hs.length a.hC,.int .i64 k.n,.slice a.oA k.ord.length a.oC,.slice a.lA k.bH.length a.lC,.slice a.tA k.tr.length a.tC]
structure KW (w:World) (kp:Nat) (k:KS) (a:KA):Prop where
 blk:ax w kp 100 (cO k a)
 ar:lV w a.g k.c k.ac k.ls k.fr a.A a.C a.A' a.C'
 ut:UT w a.U k.n k.L
 us:Row1 w 21 xB a.uA k.us.length a.uC k.us
 hs:Row1 w 21 xB a.hA k.hs.length a.hC k.hs
 ord:gq w 3 a.oA k.ord.length a.oC k.ord
 bH:gq w 3 a.lA k.bH.length a.lC k.bH
 tr:gq w 3 a.tA k.tr.length a.tC k.tr
 dj:∀ i j b,i≠j→a.comp k.n kp i b→¬ a.comp k.n kp j b
structure cZ (n kp:Nat) (w:World) (a:KA) (w':World) (a':KA):Prop where
 ag:ah (gX n kp a) w w'
 fp:∀ b,gX n kp a' b→gX n kp a b∨w.heap.size≤b
theorem UT.ltm {w:World} {U:mG} {vars:Nat} {L:List bN} (h:UT w U vars L) {b:Nat} (hb:UB U vars b):b<w.heap.size:=by
 obtain⟨v,hv,rfl⟩:=hb;exact(h.m v hv).lt
theorem Own.NS {w:World} {e:TypeId} {m:Nat} {α:Type} {f:α→List Value} {A:Option Addr} {N C:Nat} {xs:List α} (h:Go.Tk.Own w e m f A N C xs) {b:Nat} (hb:rowOf A b):b<w.heap.size:=by
 obtain⟨x,hx,rfl⟩:=hb;exact h.block x hx
section
variable {w w':World} {kp:Nat} {k:KS} {a:KA}
theorem KW.KO (h:KW w kp k a):∀ i b,a.comp k.n kp i b→b<w.heap.size:=by
 intro i b hb
 match i with
 | 0=>subst hb;exact h.blk.lt
 | 1=>subst hb;exact h.ar.blk.lt
 | 2=>exact Own.NS h.ar.own hb
 | 3=>exact Own.NS h.ar.qV hb
 | 4=>subst hb;exact h.ut.t.lt
 | 5=>subst hb;exact h.ut.sl
 | 6=>exact h.ut.ltm hb
 | 7=>exact Own.NS h.us hb
 | 8=>exact Own.NS h.hs hb
 | 9=>exact Own.NS h.ord hb
 | 10=>exact Own.NS h.bH hb
 | 11=>exact Own.NS h.tr hb
 | _+12=>exact hb.elim
theorem KW.lt (h:KW w kp k a) {b:Nat} (hb:gX k.n kp a b):b<w.heap.size:=by
 obtain⟨i,hi⟩:=hb;exact h.KO i b hi
theorem KW.ag {S:Nat→Prop} (h:KW w kp k a) (hf:ah S w w') (hs:∀ b,gX k.n kp a b→¬ S b):KW w' kp k a:=by
 have hc:∀ i b,a.comp k.n kp i b→¬ S b:=fun i b hb=>hs b ⟨i,hb⟩
 refine⟨h.blk.ag hf (hc 0 _ rfl),h.ar.ag hf ?_,h.ut.ag hf (hc 4 _ rfl) (hc 5 _ rfl) (fun v hv=>hc 6 _ ⟨v,hv,rfl⟩),h.us.ag hf (fun x hx=>hc 7 _ ⟨x,hx,rfl⟩),h.hs.ag hf (fun x hx=>hc 8 _ ⟨x,hx,rfl⟩),
  h.ord.ag hf (fun x hx=>hc 9 _ ⟨x,hx,rfl⟩),h.bH.ag hf (fun x hx=>hc 10 _ ⟨x,hx,rfl⟩),h.tr.ag hf (fun x hx=>hc 11 _ ⟨x,hx,rfl⟩),h.dj⟩
 rintro b (rfl | hb | hb)
 ·exact hc 1 _ rfl
 ·exact hc 2 _ hb
 ·exact hc 3 _ hb
theorem KW.same (h:KW w kp k a) (hf:Same w w'):KW w' kp k a:=h.ag hf (fun _ _=>id)
theorem cZ.same {n:Nat} (hf:Same w w'):cZ n kp w a w' a:=⟨hf.mono (fun _ _ h=>h.elim),fun _ h=>.inl h⟩
theorem cZ.refl (n kp:Nat) (w:World) (a:KA):cZ n kp w a w a:=⟨ah.refl _ _,fun _ h=>.inl h⟩
theorem cZ.trans {n:Nat} {w1 w2:World} {a1 a2:KA} (h:cZ n kp w a w1 a1) (g:cZ n kp w1 a1 w2 a2):cZ n kp w a w2 a2 :=
 ⟨h.ag.trans g.ag (fun i hi hk=>(h.fp i hk).elim id (fun h=>by omega)),fun b hb=>(g.fp b hb).elim (h.fp b) (fun h2=>.inr (Nat.le_trans h.ag.size h2))⟩
theorem cZ.apart {n:Nat} {w1:World} {a1:KA} (h:cZ n kp w a w1 a1) {T:Nat→Prop} (hT:∀ b,T b→¬ gX n kp a b) (hl:∀ b,T b→b<w.heap.size):∀ b,T b→¬ gX n kp a1 b:=by
 intro b hb hk;rcases h.fp b hk with h1 | h1
 ·exact hT b hb h1
 ·have:=hl b hb;omega
theorem kZ {n:Nat} {a':KA} (i0:Nat) (hd:∀ i j b,i≠j→a.comp n kp i b→¬ a.comp n kp j b) (hl:∀ i b,a.comp n kp i b→b<w.heap.size)
  (ho:∀ i b,i≠i0→a'.comp n kp i b→a.comp n kp i b) (hn:∀ b,a'.comp n kp i0 b→a.comp n kp i0 b∨w.heap.size≤b):∀ i j b,i≠j→a'.comp n kp i b→¬ a'.comp n kp j b:=by
 intro i j b hij hi hj;by_cases h1:i=i0
 ·subst h1;have hj':=ho j b (fun h=>hij h.symm) hj;rcases hn b hi with h | h
  ·exact hd i j b hij h hj'
  ·have:=hl j b hj';omega
 ·have hi':=ho i b h1 hi;by_cases h2:j=i0
  ·subst h2;rcases hn b hj with h | h
   ·exact hd i j b hij hi' h
   ·have:=hl i b hi';omega
  ·exact hd i j b hij hi' (ho j b h2 hj)
theorem lg {n:Nat} {a':KA} (i0:Nat) (ho:∀ i b,i≠i0→a'.comp n kp i b→a.comp n kp i b) (hn:∀ b,a'.comp n kp i0 b→a.comp n kp i0 b∨w.heap.size≤b):∀ b,gX n kp a' b→gX n kp a b∨w.heap.size≤b:=by
 rintro b ⟨i,hi⟩;by_cases h:i=i0
 ·subst h;exact(hn b hi).elim (fun h=>.inl ⟨_,h⟩) .inr
 ·exact .inl ⟨i,ho i b h hi⟩
theorem KW.arena {ac:Nat} {ls:List Pl} {fr:List Int} {A2:Option Addr} {C2:Nat} (h:KW w kp k a) (hA:lV w' a.g k.c ac ls fr A2 C2 a.A' a.C') (hf:ah (qH a.g a.A a.A') w w') (hn:∀ b,rowOf A2 b→rowOf a.A b∨w.heap.size≤b) :
  KW w' kp { k with ac:=ac,ls:=ls,fr:=fr } { a with A:=A2,C:=C2 }∧cZ k.n kp w a w' { a with A:=A2,C:=C2 }:=by
 have hS:∀ b,qH a.g a.A a.A' b→∃ i,1≤i∧i≤3∧a.comp k.n kp i b:=by
  rintro b (hb | hb | hb)
  ·exact⟨1,by omega,by omega,hb⟩
  ·exact⟨2,by omega,by omega,hb⟩
  ·exact⟨3,by omega,by omega,hb⟩
 have hc:∀ i b,(i<1∨3<i)→a.comp k.n kp i b→¬ qH a.g a.A a.A' b:=by
  intro i b hi hb hS';obtain⟨j,h1,h2,h3⟩:=hS b hS';exact h.dj i j b (by omega) hb h3
 have ho:∀ i b,i≠2→({ a with A:=A2,C:=C2 }:KA).comp k.n kp i b→a.comp k.n kp i b:=by
  intro i b hi hb
  match i with
  | 0 | 1 | 3 | 4 | 5 | 6 | 7 | 8 | 9 | 10 | 11=>exact hb
  | 2=>exact absurd rfl hi
  | _+12=>exact hb.elim
 refine⟨⟨h.blk.ag hf (hc 0 _ (by omega) rfl),hA,h.ut.ag hf (hc 4 _ (by omega) rfl) (hc 5 _ (by omega) rfl) (fun v hv=>hc 6 _ (by omega) ⟨v,hv,rfl⟩),h.us.ag hf (fun x hx=>hc 7 _ (by omega) ⟨x,hx,rfl⟩),h.hs.ag hf (fun x hx=>hc 8 _ (by omega) ⟨x,hx,rfl⟩),
  h.ord.ag hf (fun x hx=>hc 9 _ (by omega) ⟨x,hx,rfl⟩),h.bH.ag hf (fun x hx=>hc 10 _ (by omega) ⟨x,hx,rfl⟩),h.tr.ag hf (fun x hx=>hc 11 _ (by omega) ⟨x,hx,rfl⟩),kZ 2 h.dj h.KO ho hn⟩,⟨hf.mono (fun b _ hb=>?_),lg 2 ho hn⟩⟩
 obtain⟨j,_,_,h3⟩:=hS b hb;exact⟨j,h3⟩
theorem KW.RX {ac:Nat} {ls:List Pl} {fr:List Int} {A2:Option Addr} {C2:Nat} (h:KW w kp k a) (hA:lV w' a.g k.c ac ls fr a.A a.C A2 C2) (hf:ah (qH a.g a.A a.A') w w') (hn:∀ b,rowOf A2 b→rowOf a.A' b∨w.heap.size≤b) :
  KW w' kp { k with ac:=ac,ls:=ls,fr:=fr } { a with A':=A2,C':=C2 }∧cZ k.n kp w a w' { a with A':=A2,C':=C2 }:=by
 have hS:∀ b,qH a.g a.A a.A' b→∃ i,1≤i∧i≤3∧a.comp k.n kp i b:=by
  rintro b (hb | hb | hb)
  ·exact⟨1,by omega,by omega,hb⟩
  ·exact⟨2,by omega,by omega,hb⟩
  ·exact⟨3,by omega,by omega,hb⟩
 have hc:∀ i b,(i<1∨3<i)→a.comp k.n kp i b→¬ qH a.g a.A a.A' b:=by
  intro i b hi hb hS';obtain⟨j,h1,h2,h3⟩:=hS b hS';exact h.dj i j b (by omega) hb h3
 have ho:∀ i b,i≠3→({ a with A':=A2,C':=C2 }:KA).comp k.n kp i b→a.comp k.n kp i b:=by
  intro i b hi hb
  match i with
  | 0 | 1 | 2 | 4 | 5 | 6 | 7 | 8 | 9 | 10 | 11=>exact hb
  | 3=>exact absurd rfl hi
  | _+12=>exact hb.elim
 refine⟨⟨h.blk.ag hf (hc 0 _ (by omega) rfl),hA,h.ut.ag hf (hc 4 _ (by omega) rfl) (hc 5 _ (by omega) rfl) (fun v hv=>hc 6 _ (by omega) ⟨v,hv,rfl⟩),h.us.ag hf (fun x hx=>hc 7 _ (by omega) ⟨x,hx,rfl⟩),h.hs.ag hf (fun x hx=>hc 8 _ (by omega) ⟨x,hx,rfl⟩),
  h.ord.ag hf (fun x hx=>hc 9 _ (by omega) ⟨x,hx,rfl⟩),h.bH.ag hf (fun x hx=>hc 10 _ (by omega) ⟨x,hx,rfl⟩),h.tr.ag hf (fun x hx=>hc 11 _ (by omega) ⟨x,hx,rfl⟩),kZ 3 h.dj h.KO ho hn⟩,⟨hf.mono (fun b _ hb=>?_),lg 3 ho hn⟩⟩
 obtain⟨j,_,_,h3⟩:=hS b hb;exact⟨j,h3⟩
theorem KW.table {L':List bN} (h:KW w kp k a) (hU:UT w' a.U k.n L') (hf:ah (UB a.U k.n) w w'):KW w' kp { k with L:=L' } a∧cZ k.n kp w a w' a:=by
 have hc:∀ i b,i≠6→a.comp k.n kp i b→¬ UB a.U k.n b:=fun i b hi hb hS=>h.dj i 6 b hi hb hS
 refine⟨⟨h.blk.ag hf (hc 0 _ (by omega) rfl),h.ar.ag hf ?_,hU,h.us.ag hf (fun x hx=>hc 7 _ (by omega) ⟨x,hx,rfl⟩),h.hs.ag hf (fun x hx=>hc 8 _ (by omega) ⟨x,hx,rfl⟩),
  h.ord.ag hf (fun x hx=>hc 9 _ (by omega) ⟨x,hx,rfl⟩),h.bH.ag hf (fun x hx=>hc 10 _ (by omega) ⟨x,hx,rfl⟩),h.tr.ag hf (fun x hx=>hc 11 _ (by omega) ⟨x,hx,rfl⟩),h.dj⟩,⟨hf.mono (fun b _ hb=>⟨6,hb⟩),fun b hb=>.inl hb⟩⟩
 rintro b (rfl | hb | hb)
 ·exact hc 1 _ (by omega) rfl
 ·exact hc 2 _ (by omega) hb
 ·exact hc 3 _ (by omega) hb
theorem KW.QH {r:List Int} {A2:Option Addr} {C2:Nat} (h:KW w kp k a) (hf:ah (fun b=>b=kp∨rowOf a.uA b) w w') (hb:ax w' kp 100 (cO { k with us:=r } { a with uA:=A2,uC:=C2 })) (hr:Row1 w' 21 xB A2 r.length C2 r) (hn:∀ b,rowOf A2 b→rowOf a.uA b∨w.heap.size≤b) :
  KW w' kp { k with us:=r } { a with uA:=A2,uC:=C2 }∧cZ k.n kp w a w' { a with uA:=A2,uC:=C2 }:=by
 have hc:∀ i b,i≠0→i≠7→a.comp k.n kp i b→¬ (b=kp∨rowOf a.uA b):=by
  rintro i b h0 h7 hb (h1 | h1)
  ·exact h.dj i 0 b h0 hb h1
  ·exact h.dj i 7 b h7 hb h1
 have ho:∀ i b,i≠7→({ a with uA:=A2,uC:=C2 }:KA).comp k.n kp i b→a.comp k.n kp i b:=by
  intro i b hi hb
  match i with
  | 0 | 1 | 2 | 3 | 4 | 5 | 6 | 8 | 9 | 10 | 11=>exact hb
  | 7=>exact absurd rfl hi
  | _+12=>exact hb.elim
 refine⟨⟨hb,h.ar.ag hf ?_,h.ut.ag hf (hc 4 _ (by omega) (by omega) rfl) (hc 5 _ (by omega) (by omega) rfl) (fun v hv=>hc 6 _ (by omega) (by omega) ⟨v,hv,rfl⟩),hr,h.hs.ag hf (fun x hx=>hc 8 _ (by omega) (by omega) ⟨x,hx,rfl⟩),h.ord.ag hf (fun x hx=>hc 9 _ (by omega) (by omega) ⟨x,hx,rfl⟩),h.bH.ag hf (fun x hx=>hc 10 _ (by omega) (by omega) ⟨x,hx,rfl⟩),h.tr.ag hf (fun x hx=>hc 11 _ (by omega) (by omega) ⟨x,hx,rfl⟩),kZ 7 h.dj h.KO ho hn⟩,⟨hf.mono (fun b _ hb=>?_),lg 7 ho hn⟩⟩
 ·rintro b (rfl | hb | hb)
  ·exact hc 1 _ (by omega) (by omega) rfl
  ·exact hc 2 _ (by omega) (by omega) hb
  ·exact hc 3 _ (by omega) (by omega) hb
 ·rcases hb with hb | hb
  ·exact⟨0,hb⟩
  ·exact⟨7,hb⟩
theorem KW.uV {r:List Int} {A2:Option Addr} {C2:Nat} (h:KW w kp k a) (hf:ah (fun b=>b=kp∨rowOf a.hA b) w w') (hb:ax w' kp 100 (cO { k with hs:=r } { a with hA:=A2,hC:=C2 })) (hr:Row1 w' 21 xB A2 r.length C2 r) (hn:∀ b,rowOf A2 b→rowOf a.hA b∨w.heap.size≤b) :
  KW w' kp { k with hs:=r } { a with hA:=A2,hC:=C2 }∧cZ k.n kp w a w' { a with hA:=A2,hC:=C2 }:=by
 have hc:∀ i b,i≠0→i≠8→a.comp k.n kp i b→¬ (b=kp∨rowOf a.hA b):=by
  rintro i b h0 h7 hb (h1 | h1)
  ·exact h.dj i 0 b h0 hb h1
  ·exact h.dj i 8 b h7 hb h1
 have ho:∀ i b,i≠8→({ a with hA:=A2,hC:=C2 }:KA).comp k.n kp i b→a.comp k.n kp i b:=by
  intro i b hi hb
  match i with
  | 0 | 1 | 2 | 3 | 4 | 5 | 6 | 7 | 9 | 10 | 11=>exact hb
  | 8=>exact absurd rfl hi
  | _+12=>exact hb.elim
 refine⟨⟨hb,h.ar.ag hf ?_,h.ut.ag hf (hc 4 _ (by omega) (by omega) rfl) (hc 5 _ (by omega) (by omega) rfl) (fun v hv=>hc 6 _ (by omega) (by omega) ⟨v,hv,rfl⟩),h.us.ag hf (fun x hx=>hc 7 _ (by omega) (by omega) ⟨x,hx,rfl⟩),hr,h.ord.ag hf (fun x hx=>hc 9 _ (by omega) (by omega) ⟨x,hx,rfl⟩),h.bH.ag hf (fun x hx=>hc 10 _ (by omega) (by omega) ⟨x,hx,rfl⟩),h.tr.ag hf (fun x hx=>hc 11 _ (by omega) (by omega) ⟨x,hx,rfl⟩),kZ 8 h.dj h.KO ho hn⟩,⟨hf.mono (fun b _ hb=>?_),lg 8 ho hn⟩⟩
 ·rintro b (rfl | hb | hb)
  ·exact hc 1 _ (by omega) (by omega) rfl
  ·exact hc 2 _ (by omega) (by omega) hb
  ·exact hc 3 _ (by omega) (by omega) hb
 ·rcases hb with hb | hb
  ·exact⟨0,hb⟩
  ·exact⟨8,hb⟩
theorem KW.D9 {r:List Int} {A2:Option Addr} {C2:Nat} (h:KW w kp k a) (hf:ah (fun b=>b=kp∨rowOf a.oA b) w w') (hb:ax w' kp 100 (cO { k with ord:=r } { a with oA:=A2,oC:=C2 })) (hr:gq w' 3 A2 r.length C2 r) (hn:∀ b,rowOf A2 b→rowOf a.oA b∨w.heap.size≤b) :
  KW w' kp { k with ord:=r } { a with oA:=A2,oC:=C2 }∧cZ k.n kp w a w' { a with oA:=A2,oC:=C2 }:=by
 have hc:∀ i b,i≠0→i≠9→a.comp k.n kp i b→¬ (b=kp∨rowOf a.oA b):=by
  rintro i b h0 h7 hb (h1 | h1)
  ·exact h.dj i 0 b h0 hb h1
  ·exact h.dj i 9 b h7 hb h1
 have ho:∀ i b,i≠9→({ a with oA:=A2,oC:=C2 }:KA).comp k.n kp i b→a.comp k.n kp i b:=by
  intro i b hi hb
  match i with
  | 0 | 1 | 2 | 3 | 4 | 5 | 6 | 7 | 8 | 10 | 11=>exact hb
  | 9=>exact absurd rfl hi
  | _+12=>exact hb.elim
 refine⟨⟨hb,h.ar.ag hf ?_,h.ut.ag hf (hc 4 _ (by omega) (by omega) rfl) (hc 5 _ (by omega) (by omega) rfl) (fun v hv=>hc 6 _ (by omega) (by omega) ⟨v,hv,rfl⟩),h.us.ag hf (fun x hx=>hc 7 _ (by omega) (by omega) ⟨x,hx,rfl⟩),h.hs.ag hf (fun x hx=>hc 8 _ (by omega) (by omega) ⟨x,hx,rfl⟩),hr,h.bH.ag hf (fun x hx=>hc 10 _ (by omega) (by omega) ⟨x,hx,rfl⟩),h.tr.ag hf (fun x hx=>hc 11 _ (by omega) (by omega) ⟨x,hx,rfl⟩),kZ 9 h.dj h.KO ho hn⟩,⟨hf.mono (fun b _ hb=>?_),lg 9 ho hn⟩⟩
 ·rintro b (rfl | hb | hb)
  ·exact hc 1 _ (by omega) (by omega) rfl
  ·exact hc 2 _ (by omega) (by omega) hb
  ·exact hc 3 _ (by omega) (by omega) hb
 ·rcases hb with hb | hb
  ·exact⟨0,hb⟩
  ·exact⟨9,hb⟩
theorem KW.RY {r:List Int} {A2:Option Addr} {C2:Nat} (h:KW w kp k a) (hf:ah (fun b=>b=kp∨rowOf a.lA b) w w') (hb:ax w' kp 100 (cO { k with bH:=r } { a with lA:=A2,lC:=C2 })) (hr:gq w' 3 A2 r.length C2 r) (hn:∀ b,rowOf A2 b→rowOf a.lA b∨w.heap.size≤b) :
  KW w' kp { k with bH:=r } { a with lA:=A2,lC:=C2 }∧cZ k.n kp w a w' { a with lA:=A2,lC:=C2 }:=by
 have hc:∀ i b,i≠0→i≠10→a.comp k.n kp i b→¬ (b=kp∨rowOf a.lA b):=by
  rintro i b h0 h7 hb (h1 | h1)
  ·exact h.dj i 0 b h0 hb h1
  ·exact h.dj i 10 b h7 hb h1
 have ho:∀ i b,i≠10→({ a with lA:=A2,lC:=C2 }:KA).comp k.n kp i b→a.comp k.n kp i b:=by
  intro i b hi hb
  match i with
  | 0 | 1 | 2 | 3 | 4 | 5 | 6 | 7 | 8 | 9 | 11=>exact hb
  | 10=>exact absurd rfl hi
  | _+12=>exact hb.elim
 refine⟨⟨hb,h.ar.ag hf ?_,h.ut.ag hf (hc 4 _ (by omega) (by omega) rfl) (hc 5 _ (by omega) (by omega) rfl) (fun v hv=>hc 6 _ (by omega) (by omega) ⟨v,hv,rfl⟩),h.us.ag hf (fun x hx=>hc 7 _ (by omega) (by omega) ⟨x,hx,rfl⟩),h.hs.ag hf (fun x hx=>hc 8 _ (by omega) (by omega) ⟨x,hx,rfl⟩),h.ord.ag hf (fun x hx=>hc 9 _ (by omega) (by omega) ⟨x,hx,rfl⟩),hr,h.tr.ag hf (fun x hx=>hc 11 _ (by omega) (by omega) ⟨x,hx,rfl⟩),kZ 10 h.dj h.KO ho hn⟩,⟨hf.mono (fun b _ hb=>?_),lg 10 ho hn⟩⟩
 ·rintro b (rfl | hb | hb)
  ·exact hc 1 _ (by omega) (by omega) rfl
  ·exact hc 2 _ (by omega) (by omega) hb
  ·exact hc 3 _ (by omega) (by omega) hb
 ·rcases hb with hb | hb
  ·exact⟨0,hb⟩
  ·exact⟨10,hb⟩
theorem KW.ym {r:List Int} {A2:Option Addr} {C2:Nat} (h:KW w kp k a) (hf:ah (fun b=>b=kp∨rowOf a.tA b) w w') (hb:ax w' kp 100 (cO { k with tr:=r } { a with tA:=A2,tC:=C2 })) (hr:gq w' 3 A2 r.length C2 r) (hn:∀ b,rowOf A2 b→rowOf a.tA b∨w.heap.size≤b) :
  KW w' kp { k with tr:=r } { a with tA:=A2,tC:=C2 }∧cZ k.n kp w a w' { a with tA:=A2,tC:=C2 }:=by
 have hc:∀ i b,i≠0→i≠11→a.comp k.n kp i b→¬ (b=kp∨rowOf a.tA b):=by
  rintro i b h0 h7 hb (h1 | h1)
  ·exact h.dj i 0 b h0 hb h1
  ·exact h.dj i 11 b h7 hb h1
 have ho:∀ i b,i≠11→({ a with tA:=A2,tC:=C2 }:KA).comp k.n kp i b→a.comp k.n kp i b:=by
  intro i b hi hb
  match i with
  | 0 | 1 | 2 | 3 | 4 | 5 | 6 | 7 | 8 | 9 | 10=>exact hb
  | 11=>exact absurd rfl hi
  | _+12=>exact hb.elim
 refine⟨⟨hb,h.ar.ag hf ?_,h.ut.ag hf (hc 4 _ (by omega) (by omega) rfl) (hc 5 _ (by omega) (by omega) rfl) (fun v hv=>hc 6 _ (by omega) (by omega) ⟨v,hv,rfl⟩),h.us.ag hf (fun x hx=>hc 7 _ (by omega) (by omega) ⟨x,hx,rfl⟩),h.hs.ag hf (fun x hx=>hc 8 _ (by omega) (by omega) ⟨x,hx,rfl⟩),h.ord.ag hf (fun x hx=>hc 9 _ (by omega) (by omega) ⟨x,hx,rfl⟩),h.bH.ag hf (fun x hx=>hc 10 _ (by omega) (by omega) ⟨x,hx,rfl⟩),hr,kZ 11 h.dj h.KO ho hn⟩,⟨hf.mono (fun b _ hb=>?_),lg 11 ho hn⟩⟩
 ·rintro b (rfl | hb | hb)
  ·exact hc 1 _ (by omega) (by omega) rfl
  ·exact hc 2 _ (by omega) (by omega) hb
  ·exact hc 3 _ (by omega) (by omega) hb
 ·rcases hb with hb | hb
  ·exact⟨0,hb⟩
  ·exact⟨11,hb⟩
end
def au (k:KS):Nat:=match k.fr.getLast? with | some r=>r.toNat | none=>k.ls.length
def upto (l:List Int) (m:Nat):List Int:=l++List.replicate (m-l.length) 0
def bF (k:KS) (r:Int):KS:=if 1<r then { k with us:=k.us.set r.toNat (k.us.getD r.toNat 0+1) } else k
def fO (k:KS) (n:Nd):KS:={ k with ac:=k.ac+1,ls:=if k.fr=[] then k.ls++[⟨n,true,0⟩] else k.ls.set (au k) ⟨n,true,0⟩,fr:=k.fr.dropLast }
def iY (k:KS) (r:Nat):KS:={ k with us:=(upto k.us (r+1)).set r 0,hs:=(upto k.hs (r+1)).set r 0 }
def pU (k:KS) (n:Nd) (r:Int):KS:={ k with L:=D7 k.n k.L n r }
def aH (k:KS) (n:Nd):KS:=pU (bF (bF (iY (fO k n) (au k)) n.lo) n.hi) n (au k)
def dW (k:KS) (r:Int):KS:={ k with us:=k.us.set r.toNat (k.us.getD r.toNat 0-1) }
def iG (k:KS) (n:Nd):KS:={ k with L:=Bd k.n k.L n }
def iH (k:KS) (r:Int):KS:={ k with ls:=k.ls.set r.toNat DZ,fr:=k.fr++[r],ac:=k.ac-1 }
def fC:Nat→KS→List Int→KS
 | 0,k,_=>k
 | _+1,k,[]=>k
 | f+1,k,r::st =>
  if r≤1 then fC f k st
  else if 1<k.us.getD r.toNat 0 then fC f (dW k r) st
  else fC f (iH (iG (dW k r) (aI k.ls r)) r) ((aI k.ls r).hi::(aI k.ls r).lo::st)
def jh (k:KS) (r:Int):KS:=fC (3*k.ac+1) k [r]
def par (L:List bN) (r:Int):Nat:=(L.map fun p=>(if p.1.lo=r then 1 else 0)+(if p.1.hi=r then 1 else 0)).sum
theorem tV (r:Int):par [] r=0:=rfl
theorem jF (p:bN) (L:List bN) (r:Int):par (p::L) r=(if p.1.lo=r then 1 else 0)+(if p.1.hi=r then 1 else 0)+par L r:=by simp[par]
theorem uW (L M:List bN) (r:Int):par (L++M) r=par L r+par M r:=by simp[par]
theorem RZ (L:List bN) (r:Int):par L r≤2*L.length:=by
 induction L with
 | nil=>simp[tV]
 | cons p L ih=>rw[jF];simp only[List.length_cons];split <;> split <;> omega
theorem gJ {L:List bN} {r:Int}:par L r=0↔∀ p∈L,p.1.lo≠r∧p.1.hi≠r:=by
 induction L with
 | nil=>simp[tV]
 | cons p L ih =>
  rw[jF];constructor
  ·intro h q hq;rcases List.mem_cons.1 hq with rfl | hq
   ·constructor <;> (intro h1;simp[h1] at h)
   ·exact ih.1 (by omega) q hq
  ·intro h;have h1:=h p (List.mem_cons_self ..);rw[if_neg h1.1,if_neg h1.2,ih.2 (fun q hq=>h q (List.mem_cons_of_mem _ hq))]
theorem sK {L:List bN} {n:Nd} {r:Int} (hn:(keys L).Nodup) {x:Int} (hm:(n,r)∈L):par L x=par (without n L) x+((if n.lo=x then 1 else 0)+(if n.hi=x then 1 else 0)):=by
 induction L with
 | nil=>cases hm
 | cons p L ih =>
  have hn':p.1∉keys L∧(keys L).Nodup:=by simpa [keys] using hn
  by_cases hp:p.1=n
  ·have hw:without n L=L:=by
    unfold without;rw[List.filter_eq_self];intro q hq
    have:q.1≠n:=by
     rintro rfl;exact hn'.1 (by rw[hp];exact List.mem_map_of_mem hq)
    simpa using this
   have hw2:without n (p::L)=L:=by
    have:without n (p::L)=without n L:=by simp[without,hp]
    rw[this,hw]
   rw[hw2,jF,hp];omega
  ·have hm':(n,r)∈L:=by
    rcases List.mem_cons.1 hm with h | h
    ·rw[← h] at hp;exact absurd rfl hp
    ·exact h
   have hw2:without n (p::L)=p::without n L:=by simp[without,hp]
   rw[hw2,jF,jF,ih hn'.2 hm'];omega
structure Bk (k:KS) (ext:List Int) (X:List bN):Prop where
 n1:1≤k.n
 n64:k.n≤64
 c2:2≤k.c
 cM:k.c≤1048576
 l0:k.ls[0]?=some (QE 0)
 l1:k.ls[1]?=some (QE 1)
 mem:∀ n r,(n,r)∈k.L++X→∃ m:Nat,r=m∧2≤m∧m<k.us.length∧k.ls[m]?=some ⟨n,true,0⟩
 conv:∀ (m:Nat) p,2≤m→k.ls[m]?=some p→p.t=true→(p.n,(m:Int))∈k.L++X
 kn:(keys k.L).Nodup
 rn:((k.L++X).map (·.2)).Nodup
 Ea:∀ r∈k.fr,∃ m:Nat,r=m∧2≤m∧∃ p,k.ls[m]?=some p∧p.t=false
 fn:k.fr.Nodup
 cnt:k.ac=2+(k.L++X).length
 gK:k.ac+k.fr.length=k.ls.length
 lim:k.ls.length≤k.c
 ul:k.us.length=k.hs.length
 Eb:k.us.length≤k.ls.length
 fo:∀ n r,(n,r)∈k.L→0≤n.v∧n.v<k.n∧0≤n.lo∧0≤n.hi∧tk k.ls n.lo=true∧tk k.ls n.hi=true∧n.lo≠n.hi
 use:∀ n r,(n,r)∈k.L++X→k.us[r.toNat]?=some ((par k.L r+(if k.hs.getD r.toNat 0=0 then 0 else 1)+ext.count r:Nat):Int)
 hol:∀ (m:Nat) h,k.hs[m]?=some h→0≤h∧h≤65535∧(h≠0→∃ n,(n,(m:Int))∈k.L++X)
 Ap:∀ r∈ext,0≤r∧tk k.ls r=true
 bd:ext.length+k.L.length≤8000000
section
variable {k:KS} {ext:List Int} {X:List bN}
theorem jX {ls:List Pl} {m:Nat}:tk ls (m:Int)=true↔∃ p,ls[m]?=some p∧p.t=true:=by
 unfold tk;rw[Int.toNat_natCast];cases ls[m]? with
 | none=>simp
 | some p=>simp
theorem Bk.NT (h:Bk k ext X) {r:Int} (h0:0≤r):tk k.ls r=true↔r=0∨r=1∨∃ n,(n,r)∈k.L++X:=by
 obtain⟨m,rfl⟩:=Int.eq_ofNat_of_zero_le h0;rw[jX];constructor
 ·rintro⟨p,hp,ht⟩;by_cases h2:2≤m
  ·exact .inr (.inr ⟨_,h.conv m p h2 hp ht⟩)
  ·rcases Nat.lt_or_ge m 1 with h1 | h1
   ·exact .inl (by omega)
   ·exact .inr (.inl (by omega))
 ·rintro(h1 | h1 | ⟨n,hn⟩)
  ·obtain rfl:m=0:=by omega
   exact⟨_,h.l0,rfl⟩
  ·obtain rfl:m=1:=by omega
   exact⟨_,h.l1,rfl⟩
  ·obtain⟨m',h1,_,_,h4⟩:=h.mem _ _ hn;obtain rfl:m=m':=by omega
   exact⟨_,h4,rfl⟩
theorem Bk.lt (h:Bk k ext X) {r:Int} (h0:0≤r) (ht:tk k.ls r=true):r<1048576:=by
 obtain⟨m,rfl⟩:=Int.eq_ofNat_of_zero_le h0;obtain⟨p,hp,_⟩:=jX.1 ht
 have:=aY hp
 have:=h.lim
 have:=h.cM
 omega
theorem Bk.jG (h:Bk k ext X) {n:Nd} {r:Int} (hr:(n,r)∈k.L++X):2≤r∧aI k.ls r=n∧tk k.ls r=true:=by
 obtain⟨m,rfl,h2,_,h4⟩:=h.mem _ _ hr;refine⟨by omega,?_,jX.2 ⟨_,h4,rfl⟩⟩;simp[aI,h4]
theorem Bk.uniq (h:Bk k ext X) {n n':Nd} {r:Int} (hr:(n,r)∈k.L++X) (hr':(n',r)∈k.L++X):n=n':=by
 rw[← (h.jG hr).2.1,(h.jG hr').2.1]
theorem Bk.uX (h:Bk k ext X) {n:Nd} {r:Int} (hr:(n,r)∈k.L++X):∃ u:Nat,k.us[r.toNat]?=some (u:Int)∧k.us.getD r.toNat 0=(u:Int)∧u≤16000001∧ext.count r≤u:=by
 have hu:=h.use _ _ hr;refine⟨_,hu,by rw[List.getD_eq_getElem?_getD,hu];rfl,?_,?_⟩
 ·have h1:=RZ k.L r;have h2:ext.count r≤ext.length:=List.count_le_length;have h3:=h.bd;split <;> omega
 ·omega
theorem Bk.perm {ext':List Int} {X':List bN} (h:Bk k ext X) (he:ext'.Perm ext) (hX:X'.Perm X):Bk k ext' X':=by
 have hP:(k.L++X').Perm (k.L++X):=hX.append_left _;have hm:∀ p,p∈k.L++X'↔p∈k.L++X:=fun p=>hP.mem_iff
 refine⟨h.n1,h.n64,h.c2,h.cM,h.l0,h.l1,fun n r hr=>h.mem n r ((hm _).1 hr),fun m p h2 hp ht=>(hm _).2 (h.conv m p h2 hp ht),h.kn,(hP.map _).nodup_iff.2 h.rn,h.Ea,h.fn,by rw[h.cnt,hP.length_eq],h.gK,h.lim,h.ul,h.Eb,h.fo,
  fun n r hr=>?_,fun m x hx=>?_,fun r hr=>h.Ap r (he.mem_iff.1 hr),by rw[he.length_eq];exact h.bd⟩
 ·rw[h.use n r ((hm _).1 hr),he.count_eq]
 ·obtain⟨h1,h2,h3⟩:=h.hol m x hx;exact⟨h1,h2,fun h0=>(h3 h0).imp fun n hn=>(hm _).2 hn⟩
theorem iI {l:List Int} {i j:Nat} {x d:Int} (hi:i<l.length):(l.set i x).getD j d=if i=j then x else l.getD j d:=by
 rw[List.getD_eq_getElem?_getD,List.getD_eq_getElem?_getD,List.getElem?_set];by_cases h:i=j
 ·subst h;simp[hi]
 ·simp[h]
theorem nI {k:KS} {r:Int} (m:Nat):(bF k r).us[m]?=(k.us[m]?).map fun u=>if 1<r∧r=m then u+1 else u:=by
 unfold bF;by_cases h1:1<r
 ·rw[if_pos h1];show(k.us.set r.toNat (k.us.getD r.toNat 0+1))[m]?=_;rw[List.getElem?_set];by_cases hm:r=m
  ·subst hm;simp only[Int.toNat_natCast,if_true,and_true];split
   ·rename_i hlt;rw[List.getD_eq_getElem?_getD,List.getElem?_eq_getElem hlt];simp
   ·rename_i hge;rw[List.getElem?_eq_none (by omega)];rfl
  ·rw[if_neg (by omega)];cases k.us[m]? with
   | none=>rfl
   | some u=>simp[hm]
 ·rw[if_neg h1];cases k.us[m]? with
  | none=>rfl
  | some u=>simp[h1]
theorem mH {k:KS} {r:Int}:(bF k r).us.length=k.us.length:=by
 unfold bF;split <;> simp
theorem ic {k:KS} {r:Int}:(bF k r).n=k.n∧(bF k r).c=k.c∧(bF k r).ac=k.ac∧(bF k r).ls=k.ls∧(bF k r).fr=k.fr∧(bF k r).L=k.L∧(bF k r).hs=k.hs∧(bF k r).ord=k.ord∧(bF k r).bH=k.bH∧(bF k r).tr=k.tr:=by
 unfold bF;split <;> exact⟨rfl,rfl,rfl,rfl,rfl,rfl,rfl,rfl,rfl,rfl⟩
theorem ji {k:KS} {r:Int}:bF k r={ k with us:=(bF k r).us }:=by
 unfold bF;split <;> rfl
theorem Ec (h:Bk k ext X) {r:Int} (h0:0≤r) (ht:tk k.ls r=true) (hb:ext.length+k.L.length<8000000):Bk (bF k r) (r::ext) X:=by
 obtain⟨e1,e2,e3,e4,e5,e6,e7,e8,e9,e10⟩:=ic (k:=k) (r:=r)
 refine⟨by rw[e1];exact h.n1,by rw[e1];exact h.n64,by rw[e2];exact h.c2,by rw[e2];exact h.cM,by rw[e4];exact h.l0,by rw[e4];exact h.l1,?_,by rw[e4,e6];exact h.conv,by rw[e6];exact h.kn,by rw[e6];exact h.rn,by rw[e4,e5];exact h.Ea,by rw[e5];exact h.fn,
  by rw[e3,e6];exact h.cnt,by rw[e3,e4,e5];exact h.gK,by rw[e2,e4];exact h.lim,by rw[mH,e7];exact h.ul,by rw[mH,e4];exact h.Eb,by rw[e1,e4,e6];exact h.fo,?_,by rw[e6,e7];exact h.hol,?_,by rw[e6];simp only[List.length_cons];omega⟩
 ·rw[mH,e4,e6];exact h.mem
 ·rw[e6,e7];intro n q hq;have hu:=h.use n q hq;have h2:=(h.jG hq).1;rw[nI,hu,List.count_cons];simp only[Option.map_some,Option.some.injEq];by_cases hr:r=q
  ·subst hr;rw[if_pos ⟨by omega,by omega⟩];simp;omega
  ·rw[if_neg (by omega)]
   have:(r == q)=false:=by simpa using hr
   simp[this]
 ·rw[e4];intro q hq;rcases List.mem_cons.1 hq with rfl | hq
  ·exact⟨h0,ht⟩
  ·exact h.Ap q hq
theorem kH {l:List Int} {m i:Nat}:(upto l m)[i]?=if i<l.length then l[i]? else if i<m then some 0 else none:=by
 unfold upto;rw[List.getElem?_append];split
 ·rfl
 ·rw[List.getElem?_replicate];split
  ·rw[if_pos (by omega)]
  ·rw[if_neg (by omega)]
theorem gM {l:List Int} {m:Nat}:(upto l m).length=max l.length m:=by
 unfold upto;simp <;> omega
theorem eH (h:Bk k ext X):2≤au k∧tk k.ls (au k)=false∧au k≤k.ls.length∧(k.fr=[]→au k=k.ls.length)∧(k.fr≠[]→au k<k.ls.length∧k.fr=k.fr.dropLast++[(au k:Int)]):=by
 unfold au;by_cases hf:k.fr=[]
 ·rw[hf];simp only[List.getLast?_nil];have h1:=aY h.l1;refine⟨h1,?_,Nat.le_refl _,by simp,by simp⟩;unfold tk;rw[Int.toNat_natCast,List.getElem?_eq_none (Nat.le_refl _)]
 ·obtain⟨x,hx⟩:∃ x,k.fr.getLast?=some x:=⟨_,List.getLast?_eq_some_getLast hf⟩;rw[hx];obtain⟨m,rfl,h2,p,hp,ht⟩:=h.Ea x (List.mem_of_getLast? hx);simp only[Int.toNat_natCast];refine⟨h2,?_,Nat.le_of_lt (aY hp),fun h0=>absurd h0 hf,fun _=>⟨aY hp,?_⟩⟩
  ·unfold tk;rw[Int.toNat_natCast,hp];exact ht
  ·have:=List.dropLast_concat_getLast hf
   rw[List.getLast?_eq_some_getLast hf] at hx;injection hx with hx
   rw[hx] at this;exact this.symm
theorem Ig (h:Bk k ext X) (n:Nd) (m:Nat):(fO k n).ls[m]?=if m=au k then some ⟨n,true,0⟩ else k.ls[m]?:=by
 obtain⟨_,_,_,h4,h5⟩:=eH h;unfold fO;by_cases hf:k.fr=[]
 ·simp only[hf,if_true,h4 hf];by_cases hm:m=k.ls.length
  ·subst hm;simp
  ·rw[if_neg hm,List.getElem?_append];split
   ·rfl
   ·rw[List.getElem?_eq_none (by simp <;> omega),List.getElem?_eq_none (by omega)]
 ·simp only[hf,if_false];rw[List.getElem?_set];by_cases hm:m=au k
  ·subst hm;simp[(h5 hf).1]
  ·rw[if_neg (fun h=>hm h.symm),if_neg hm]
theorem Ed (h:Bk k ext X) (n:Nd):(fO k n).ls.length=max k.ls.length (au k+1):=by
 obtain⟨_,_,_,h4,h5⟩:=eH h;unfold fO;by_cases hf:k.fr=[]
 ·simp[hf,h4 hf]
 ·have:=(h5 hf).1
  simp[hf] <;> omega
theorem pV {vars:Nat} {L:List bN} {n:Nd} {r:Int} (hv:0≤n.v∧n.v<vars) (hn:n∉keys L):D7 vars L n r=L++[(n,r)]:=by
 unfold D7;rw[if_pos hv,bX.2 hn];rfl
theorem dL {n:Nd}:aH k n={ fO k n with us:=(bF (bF (iY (fO k n) (au k)) n.lo) n.hi).us,hs:=(upto k.hs (au k+1)).set (au k) 0,L:=D7 k.n k.L n (au k) }:=by
 unfold aH pU;rw[ji (r:=n.hi),ji (r:=n.lo)];rfl
theorem Be {n:Nd} (m:Nat):(aH k n).us[m]?=(((upto k.us (au k+1)).set (au k) 0)[m]?).map fun u=>u+((if 1<n.lo∧n.lo=m then 1 else 0)+(if 1<n.hi∧n.hi=m then 1 else 0)):=by
 have:(aH k n).us=(bF (bF (iY (fO k n) (au k)) n.lo) n.hi).us:=rfl
 rw[this,nI,nI];show(Option.map _ (Option.map _ (((upto k.us (au k+1)).set (au k) 0)[m]?)))=_;rw[Option.map_map];congr 1;funext u;simp only[Function.comp];split <;> split <;> omega
theorem FM (h:Bk k ext X) {n:Nd} (hc:k.ac<k.c) (hv:0≤n.v∧n.v<k.n) (hl0:0≤n.lo) (hl:tk k.ls n.lo=true) (hh0:0≤n.hi) (hh:tk k.ls n.hi=true) (hne:n.lo≠n.hi) (hnew:n∉keys k.L) (hb:ext.length+k.L.length<8000000):Bk (aH k n) ext X:=by
 obtain⟨r2,rf,rl,r4,r5⟩:=eH h;obtain⟨r,hr⟩:∃ r,au k=r:=⟨_,rfl⟩;rw[hr] at r2 rf rl r4 r5;have hls:∀ m:Nat,(aH k n).ls[m]?=if m=r then some ⟨n,true,0⟩ else k.ls[m]?:=by
  intro m;rw[dL,← hr];exact Ig h n m
 have hll:(aH k n).ls.length=max k.ls.length (r+1):=by rw[dL,← hr];exact Ed h n
 have hL:(aH k n).L=k.L++[(n,(r:Int))]:=by rw[dL,← hr];exact pV hv hnew
 have l6:∀ m:Nat,(aH k n).us[m]?=(((upto k.us (r+1)).set r 0)[m]?).map fun u=>u+((if 1<n.lo∧n.lo=m then 1 else 0)+(if 1<n.hi∧n.hi=m then 1 else 0)):=by
  intro m;rw[Be,hr]
 have qY:(aH k n).us.length=max k.us.length (r+1):=by
  have:(aH k n).us=(bF (bF (iY (fO k n) (au k)) n.lo) n.hi).us:=rfl
  rw[this,mH,mH,← hr];show((upto k.us _).set _ 0).length=_;rw[List.length_set,gM]
 have pW:(aH k n).hs=(upto k.hs (r+1)).set r 0:=by rw[dL,hr]
 have hnr:∀ n',(n',(r:Int))∉k.L++X:=by
  intro n' hm
  have:=(h.jG hm).2.2
  rw[rf] at this;cases this
 have hmem:∀ p,p∈(aH k n).L++X↔p=(n,(r:Int))∨p∈k.L++X:=by
  intro p;rw[hL];simp only[List.mem_append,List.mem_singleton];constructor
  ·rintro((h | h) | h)
   ·exact .inr (.inl h)
   ·exact .inl h
   ·exact .inr (.inr h)
  ·rintro(h | h | h)
   ·exact .inl (.inr h)
   ·exact .inl (.inl h)
   ·exact .inr h
 have hP:((aH k n).L++X).Perm ((n,(r:Int))::(k.L++X)):=by
  rw[hL,List.append_assoc,List.singleton_append];exact List.perm_middle
 have htk:∀ x:Int,0≤x→tk k.ls x=true→tk (aH k n).ls x=true:=by
  intro x hx ht;obtain⟨m,rfl⟩:=Int.eq_ofNat_of_zero_le hx;obtain⟨p,hp,hpt⟩:=jX.1 ht;have hne:m≠r:=by
   rintro rfl;rw[ht] at rf;cases rf
  exact jX.2 ⟨p,by rw[hls,if_neg hne];exact hp,hpt⟩
 have hn':(aH k n).n=k.n:=by rw[dL];rfl
 have hc':(aH k n).c=k.c:=by rw[dL];rfl
 have hac:(aH k n).ac=k.ac+1:=by rw[dL];rfl
 have hfr:(aH k n).fr=k.fr.dropLast:=by rw[dL];rfl
 have h0r:(0:Nat)≠r:=by omega
 have h1r:(1:Nat)≠r:=by omega
 have hlor:n.lo≠r:=fun he=>by rw[he,rf] at hl;cases hl
 have VQ:n.hi≠r:=fun he=>by rw[he,rf] at hh;cases hh
 refine⟨by rw[hn'];exact h.n1,by rw[hn'];exact h.n64,by rw[hc'];exact h.c2,by rw[hc'];exact h.cM,by rw[hls,if_neg h0r];exact h.l0,by rw[hls,if_neg h1r];exact h.l1,?_,?_,?_,?_,?_,?_,?_,?_,?_,?_,?_,?_,?_,?_,?_,?_⟩
 ·-- mem
  intro n' q hq;rcases(hmem _).1 hq with he | hq
  ·injection he with h1 h2
   subst h1 h2;exact⟨r,rfl,r2,by rw[qY];omega,by rw[hls,if_pos rfl]⟩
  ·obtain⟨m,rfl,h2,h3,h4⟩:=h.mem _ _ hq;have hmr:m≠r:=by rintro rfl;exact hnr _ hq
   exact⟨m,rfl,h2,by rw[qY];omega,by rw[hls,if_neg hmr];exact h4⟩
 ·-- conv
  intro m p h2 hp ht;rw[hls] at hp;by_cases hm:m=r
  ·subst hm;rw[if_pos rfl] at hp;injection hp with hp
   subst hp;exact(hmem _).2 (.inl rfl)
  ·rw[if_neg hm] at hp;exact(hmem _).2 (.inr (h.conv m p h2 hp ht))
 ·-- kn
  rw[hL];unfold keys at hnew ⊢;rw[List.map_append,List.nodup_append];refine⟨h.kn,by simp,?_⟩;intro x hx y hy hxy;simp at hy;subst hy hxy;exact hnew hx
 ·-- rn
  rw[(hP.map _).nodup_iff];rw[List.map_cons,List.nodup_cons];refine⟨?_,h.rn⟩;intro hm;obtain⟨⟨n',q⟩,hq,rfl⟩:=List.mem_map.1 hm;exact hnr _ hq
 ·-- Ea
  rw[hfr];intro q hq;obtain⟨m,rfl,h2,p,hp,ht⟩:=h.Ea q (List.dropLast_subset _ hq);refine⟨m,rfl,h2,p,?_,ht⟩;rw[hls,if_neg]
  ·exact hp
  ·rintro rfl;have hf:k.fr≠[]:=by rintro h0;rw[h0] at hq;simp at hq
   have:=h.fn
   rw[(r5 hf).2,List.nodup_append] at this;exact this.2.2 _ hq _ (List.mem_singleton_self _) rfl
 ·rw[hfr];exact h.fn.sublist (List.dropLast_sublist _)
 ·-- cnt
  rw[hac,hP.length_eq,List.length_cons,h.cnt];omega
 ·-- gK
  rw[hac,hfr,hll,List.length_dropLast]
  have:=h.gK
  by_cases hf:k.fr=[]
  ·rw[r4 hf];simp[hf] at this ⊢;omega
  ·have h1:=(r5 hf).1
   have:0<k.fr.length:=List.length_pos_iff.2 hf
   omega
 ·-- lim
  rw[hll,hc']
  have:=h.gK
  have:=h.lim
  by_cases hf:k.fr=[]
  ·have:=r4 hf;simp[hf] at *;omega
  ·have h1:=(r5 hf).1;omega
 ·rw[qY,pW,List.length_set,gM,h.ul]
 ·rw[qY,hll];have:=h.Eb;omega
 ·-- fo
  rw[hL,hn'];intro n' q hq;rcases List.mem_append.1 hq with hq | hq
  ·obtain⟨a,b,c,d,e,f,g⟩:=h.fo n' q hq;exact⟨a,b,c,d,htk _ c e,htk _ d f,g⟩
  ·simp at hq;obtain⟨rfl,_⟩:=hq;exact⟨hv.1,hv.2,hl0,hh0,htk _ hl0 hl,htk _ hh0 hh,hne⟩
 ·-- use
  intro n' q hq;have hpar:par (aH k n).L q=par k.L q+((if n.lo=q then 1 else 0)+(if n.hi=q then 1 else 0)):=by
   rw[hL,uW,jF,tV];simp
  have hq2:∃ m:Nat,q=m∧2≤m:=by
   rcases(hmem _).1 hq with he | hq
   ·injection he with _ h2;exact⟨r,h2,r2⟩
   ·obtain⟨m,h1,h2,_⟩:=h.mem _ _ hq;exact⟨m,h1,h2⟩
  obtain⟨m,rfl,hm2⟩:=hq2;rw[l6,hpar,Int.toNat_natCast,pW];by_cases hm:m=r
  ·subst hm;have hlt:m<(upto k.us (m+1)).length:=by rw[gM];omega
   have hlt':m<(upto k.hs (m+1)).length:=by rw[gM];omega
   rw[List.getElem?_set,if_pos rfl,if_pos hlt,iI hlt',if_pos rfl];have hz:par k.L (m:Int)=0:=by
    rw[gJ];rintro⟨n1,q1⟩ hp;obtain⟨_,_,_,_,e,f,_⟩:=h.fo n1 q1 hp;constructor
    ·intro he;simp only at he;rw[he,rf] at e;cases e
    ·intro he;simp only at he;rw[he,rf] at f;cases f
   have hz2:ext.count (m:Int)=0:=by
    rw[List.count_eq_zero];intro he
    have:=(h.Ap _ he).2
    rw[rf] at this;cases this
   rw[hz,hz2,if_neg hlor,if_neg VQ,if_neg (fun h=>hlor h.2),if_neg (fun h=>VQ h.2)];rfl
  ·have hq':(n',(m:Int))∈k.L++X:=by
    rcases(hmem _).1 hq with he | hq
    ·injection he with _ h2;omega
    ·exact hq
   have hu:=h.use _ _ hq';obtain⟨m',h1,_,h3,_⟩:=h.mem _ _ hq';obtain rfl:m=m':=by omega
   rw[Int.toNat_natCast] at hu;have hlt':r<(upto k.hs (r+1)).length:=by rw[gM];omega
   have hhd:(upto k.hs (r+1)).getD m 0=k.hs.getD m 0:=by
    rw[List.getD_eq_getElem?_getD,List.getD_eq_getElem?_getD,kH,if_pos (by rw[← h.ul];exact h3)]
   rw[List.getElem?_set,if_neg (show ¬ r=m from fun h=>hm h.symm),kH,if_pos h3,hu,iI hlt',if_neg (show ¬ r=m from fun h=>hm h.symm),hhd];simp only[Option.map_some,Option.some.injEq];have e1:(1<n.lo∧n.lo=(m:Int))↔n.lo=(m:Int):=by constructor <;> intro h <;> omega
   have e2:(1<n.hi∧n.hi=(m:Int))↔n.hi=(m:Int):=by constructor <;> intro h <;> omega
   simp only[e1,e2];split <;> split <;> split <;> omega
 ·-- hol
  intro m x hx;rw[pW,List.getElem?_set] at hx;split at hx
  ·split at hx
   ·injection hx with hx;subst hx;exact⟨by omega,by omega,fun h=>absurd rfl h⟩
   ·cases hx
  ·rw[kH] at hx;split at hx
   ·obtain⟨a,b,c⟩:=h.hol m x hx;exact⟨a,b,fun h0=>(c h0).imp fun n' hn=>(hmem _).2 (.inr hn)⟩
   ·split at hx
    ·injection hx with hx;subst hx;exact⟨by omega,by omega,fun h=>absurd rfl h⟩
    ·cases hx
 ·intro q hq;obtain⟨a,b⟩:=h.Ap q hq;exact⟨a,htk q a b⟩
 ·rw[hL,List.length_append,List.length_singleton];omega
end
section
variable {w:World} {kp:Nat} {k:KS} {a:KA}
theorem KW.c0 (h:KW w kp k a):w.cell? ⟨kp,0,none⟩=some (.pointer (some ⟨a.g,0,none⟩)):=h.blk.cell 0
theorem KW.c1 (h:KW w kp k a):w.cell? ⟨kp,1,none⟩=some (.pointer (some ⟨a.U.T,0,none⟩)):=h.blk.cell 1
theorem KW.c2 (h:KW w kp k a):w.cell? ⟨kp,2,none⟩=some (.slice a.uA k.us.length a.uC):=h.blk.cell 2
theorem KW.c3 (h:KW w kp k a):w.cell? ⟨kp,3,none⟩=some (.slice a.hA k.hs.length a.hC):=h.blk.cell 3
theorem KW.c4 (h:KW w kp k a):w.cell? ⟨kp,4,none⟩=some (.int .i64 k.n):=h.blk.cell 4
theorem KW.c5 (h:KW w kp k a):w.cell? ⟨kp,5,none⟩=some (.slice a.oA k.ord.length a.oC):=h.blk.cell 5
theorem KW.c6 (h:KW w kp k a):w.cell? ⟨kp,6,none⟩=some (.slice a.lA k.bH.length a.lC):=h.blk.cell 6
theorem KW.c7 (h:KW w kp k a):w.cell? ⟨kp,7,none⟩=some (.slice a.tA k.tr.length a.tC):=h.blk.cell 7
theorem nJ (h:KW w kp k a) (r:Int) (h0:0≤r) (h1:r<4294967296) :
  Calls Tryz.prog 59 #[.pointer (some ⟨kp,0,none⟩),.int .u32 r] w fun e w'=>e=.returned (.bool (tk k.ls r))∧Same w w':=by
 have g0:=h.c0;have hk:=h.blk.lt;have H:=Lib.hid h;clear h;go_enter Tryz.func59,Tryz.ntmps59;go_wp2_with (fail)
 refine(H.out.ar.get r h0 h1).mono ?_;rintro e w1 ⟨rfl,hs⟩;have HS:=Lib.hid hs;clear hs;cases ht:tk k.ls r with
 | false =>
  have he:fQ k.ls r=3:=by simp[fQ,ht]
  rw[he];unfold Nd.val;clear he;go_wp2;go_ret;exact⟨by rw[ht];rfl,HS.out.alloc _⟩
 | true =>
  have he:fQ k.ls r=0:=by simp[fQ,ht]
  rw[he];unfold Nd.val;clear he;go_wp2;go_ret;exact⟨by rw[ht];rfl,HS.out.alloc _⟩
theorem ig (h:KW w kp k a) (r:Int) (h0:0≤r) (h1:r<4294967296) :
  Calls Tryz.prog 62 #[.pointer (some ⟨kp,0,none⟩),.int .u32 r] w fun e w'=>e=.returned (aI k.ls r).val∧Same w w':=by
 have g0:=h.c0;have hk:=h.blk.lt;have H:=Lib.hid h;clear h;go_enter Tryz.func62,Tryz.ntmps62;go_wp2_with (fail)
 refine ek fun w1 hw1=>?_
 have hs1:Same w w1:=by rw[hw1];exact(ah.refl _ _).alloc _
 have hX:=ax.new w 37 #[.int .i64 0,.int .u32 0,.int .u32 0];rw[← hw1] at hX;clear hw1;refine((H.out.same hs1).ar.get r h0 h1).mono ?_;rintro e w2 ⟨rfl,hs2⟩;have hX2:=hX.ag hs2 id;have hs:=hs1.trans hs2 (fun _ _ h=>h);clear hX hs1 hs2;have x0:=hX2.cell 0;have x1:=hX2.cell 1;have x2:=hX2.cell 2;have f0:=hX2.free 0;have f1:=hX2.free 1;have f2:=hX2.free 2;have hx:=hX2.lt;simp at x0 x1 x2;have HX:=Lib.hid hX2;have HS:=Lib.hid hs;clear hX2 hs;obtain⟨n,hn⟩:∃ n,aI k.ls r=n:=⟨_,rfl⟩;rw[hn];have HN:=Lib.hid hn;clear hn;unfold Nd.val;go_wp2;have hle:w.heap.size≤w.heap.size:=Nat.le_refl _;refine bodyPost_ret (v:=n.val) ?_ rfl ⟨by rw[HN.out],?_⟩
 ·have hY:=((((HX.out.set 0 (.int .i64 n.v)).set 1 (.int .u32 n.lo)).set 2 (.int .u32 n.hi)).alloc (.cells #[.int .i64 n.v,.int .u32 n.lo,.int .u32 n.hi] 37));generalize (((w2.setCell ⟨w.heap.size,0,none⟩ (.int .i64 n.v)).setCell ⟨w.heap.size,1,none⟩ (.int .u32 n.lo)).setCell ⟨w.heap.size,2,none⟩ (.int .u32 n.hi)).alloc (.cells #[.int .i64 n.v,.int .u32 n.lo,.int .u32 n.hi] 37)=W at hY ⊢;have y0:=hY.cell 0;have y1:=hY.cell 1;have y2:=hY.cell 2;simp at y0 y1 y2;simp[results,Tryz.results62,go_sem,Nd.val,y0,y1,y2]
 ·exact(((HS.out.aj _ _ hle).aj _ _ hle).aj _ _ hle).alloc _
theorem yo (h:KW w kp k a) (m:Nat) (hm:m≤4000000) :
  Calls Tryz.prog 57 #[.pointer (some ⟨kp,0,none⟩),.int .i64 m] w fun e w'=>e=.returned (.bool (decide (k.ac+m≤k.c)))∧Same w w':=by
 have g0:=h.c0;have hk:=h.blk.lt;have hu0:=h.ar.VH;have hu1:=h.ar.UN;have A1:∀ w',Same w w'→Calls Tryz.prog 60 #[.pointer (some ⟨a.g,0,none⟩)] w' fun e w''=>e=.returned (.int .i64 k.ac)∧Same w' w'':=fun w' hs=>((h.same hs).ar.used).mono fun _ _ ⟨a,b⟩=>⟨a,b ▸ ah.refl _ _⟩
 have A2:∀ w',Same w w'→Calls Tryz.prog 72 #[.pointer (some ⟨a.g,0,none⟩)] w' fun e w''=>e=.returned (.int .i64 k.c)∧Same w' w'':=fun w' hs=>((h.same hs).ar.places).mono fun _ _ ⟨a,b⟩=>⟨a,b ▸ ah.refl _ _⟩
 have H1:=Lib.hid A1;have H2:=Lib.hid A2;clear h A1 A2;have hsum:IntKind.i64.wrap ((k.ac:Int)+m)=k.ac+m:=IntWalk.i64_in _ (by omega);go_enter Tryz.func57,Tryz.ntmps57;go_wp2_with (fail)
 refine eG (by kernel_rfl) (by kernel_rfl) ?_;repeat (any_goals (first | go_big_quiet_step ((first | (go_at_call 60;exact aW (H1.out _ (az _ _))) | (go_at_call 72;exact aW (H2.out _ (az _ _))))) | quiet_step ((first | (go_at_call 60;exact aW (H1.out _ (az _ _))) | (go_at_call 72;exact aW (H2.out _ (az _ _)))))))
 refine wpQuiet_nil ?_;rintro _ ⟨q,rfl⟩;go_wp2;go_ret;exact⟨gD (by simp <;> omega),az _ _⟩
theorem KW.FN (h:KW w kp k a) {sb i:Nat} (hA:a.uA=some ⟨sb,0,none⟩) (hi:i<k.us.length) (x:Int) :
  KW (w.setCell ⟨sb,i,none⟩ (.int .i32 x)) kp { k with us:=k.us.set i x } a∧cZ k.n kp w a (w.setCell ⟨sb,i,none⟩ (.int .i32 x)) a:=by
 have hne:kp≠sb:=by
  intro he;exact h.dj 0 7 kp (by omega) rfl ⟨_,hA,he.symm⟩
 have hr:=h.us;rw[hA] at hr;have hp:=hr.l5 hi x;have hb:ax (w.setCell ⟨sb,i,none⟩ (.int .i32 x)) kp 100 (cO k a):=h.blk.far (p:=⟨sb,i,none⟩) hne _
 have:=h.QH (w':=w.setCell ⟨sb,i,none⟩ (.int .i32 x)) (r:=k.us.set i x) (A2:=a.uA) (C2:=a.uC) ((ah.refl _ w).setCell (p:=⟨sb,i,none⟩) (.inl (.inr ⟨_,hA,rfl⟩)) _)
  (by simpa [cO] using hb) (by rw[hA,List.length_set];exact hp) (fun b hb=>.inl hb)
 exact this
theorem KW.KP (h:KW w kp k a) {sb i:Nat} (hA:a.hA=some ⟨sb,0,none⟩) (hi:i<k.hs.length) (x:Int) :
  KW (w.setCell ⟨sb,i,none⟩ (.int .i32 x)) kp { k with hs:=k.hs.set i x } a∧cZ k.n kp w a (w.setCell ⟨sb,i,none⟩ (.int .i32 x)) a:=by
 have hne:kp≠sb:=by
  intro he;exact h.dj 0 8 kp (by omega) rfl ⟨_,hA,he.symm⟩
 have hr:=h.hs;rw[hA] at hr;have hp:=hr.l5 hi x;have hb:ax (w.setCell ⟨sb,i,none⟩ (.int .i32 x)) kp 100 (cO k a):=h.blk.far (p:=⟨sb,i,none⟩) hne _
 have:=h.uV (w':=w.setCell ⟨sb,i,none⟩ (.int .i32 x)) (r:=k.hs.set i x) (A2:=a.hA) (C2:=a.hC) ((ah.refl _ w).setCell (p:=⟨sb,i,none⟩) (.inl (.inr ⟨_,hA,rfl⟩)) _)
  (by simpa [cO] using hb) (by rw[hA,List.length_set];exact hp) (fun b hb=>.inl hb)
 exact this
theorem KW.KQ (h:KW w kp k a) {wa wb:World} {x:Int} {g cap:Nat} (hs:Same w wa) (hO:Row1 wb 21 xB (some ⟨g,0,none⟩) (k.us.length+1) cap (k.us++[x])) (hg:wa.grownBy wb (Value.slice a.uA k.us.length a.uC).ownBlock)
  (hat:(Value.slice a.uA k.us.length a.uC).ownBlock=some g∨g=wa.heap.size) :
  KW (wb.setCell ⟨kp,2,none⟩ (.slice (some ⟨g,0,none⟩) (k.us.length+1) cap)) kp { k with us:=k.us++[x] } { a with uA:=some ⟨g,0,none⟩,uC:=cap }∧
   cZ k.n kp w a (wb.setCell ⟨kp,2,none⟩ (.slice (some ⟨g,0,none⟩) (k.us.length+1) cap)) { a with uA:=some ⟨g,0,none⟩,uC:=cap }:=by
 have hk:=h.same hs;have hF:ah (fun b=>b=kp∨rowOf a.uA b) w wb:=(hs.mono (fun _ _ h=>h.elim)).grown hg (fun g hg=>.inl (.inr (af.1 hg)));have QI:¬ rowOf a.uA kp:=fun hx=>h.dj 0 7 kp (by omega) rfl hx
 have hb:ax wb kp 100 (cO k a):=hk.blk.grown hg (fun hx=>QI (af.1 hx.symm));have VR:g≠kp:=by
  rintro rfl;rcases hat with hx | hx
  ·exact QI (af.1 hx)
  ·have:=hk.blk.lt;omega
 have hn:∀ b,rowOf (some ⟨g,0,none⟩:Option Addr) b→rowOf a.uA b∨w.heap.size≤b:=by
  rintro b ⟨ad,hx,rfl⟩;injection hx with hx
  subst hx;rcases hat with hx | hx
  ·exact .inl (af.1 hx)
  ·right;have:=hs.size;simp only;omega
 refine h.QH (r:=k.us++[x]) (hF.setCell (p:=⟨kp,2,none⟩) (.inl (.inl rfl)) _) ?_ ?_ hn
 ·have:=hb.set 2 (.slice (some ⟨g,0,none⟩) (k.us.length+1) cap)
  simpa [cO] using this
 ·rw[List.length_append];exact hO.far (p:=⟨kp,2,none⟩) (fun ad hx=>by injection hx with hx;subst hx;exact VR) _
theorem KW.KT (h:KW w kp k a) {wa wb:World} {x:Int} {g cap:Nat} (hs:Same w wa) (hO:Row1 wb 21 xB (some ⟨g,0,none⟩) (k.hs.length+1) cap (k.hs++[x])) (hg:wa.grownBy wb (Value.slice a.hA k.hs.length a.hC).ownBlock)
  (hat:(Value.slice a.hA k.hs.length a.hC).ownBlock=some g∨g=wa.heap.size) :
  KW (wb.setCell ⟨kp,3,none⟩ (.slice (some ⟨g,0,none⟩) (k.hs.length+1) cap)) kp { k with hs:=k.hs++[x] } { a with hA:=some ⟨g,0,none⟩,hC:=cap }∧
   cZ k.n kp w a (wb.setCell ⟨kp,3,none⟩ (.slice (some ⟨g,0,none⟩) (k.hs.length+1) cap)) { a with hA:=some ⟨g,0,none⟩,hC:=cap }:=by
 have hk:=h.same hs;have hF:ah (fun b=>b=kp∨rowOf a.hA b) w wb:=(hs.mono (fun _ _ h=>h.elim)).grown hg (fun g hg=>.inl (.inr (af.1 hg)));have QI:¬ rowOf a.hA kp:=fun hx=>h.dj 0 8 kp (by omega) rfl hx
 have hb:ax wb kp 100 (cO k a):=hk.blk.grown hg (fun hx=>QI (af.1 hx.symm));have VR:g≠kp:=by
  rintro rfl;rcases hat with hx | hx
  ·exact QI (af.1 hx)
  ·have:=hk.blk.lt;omega
 have hn:∀ b,rowOf (some ⟨g,0,none⟩:Option Addr) b→rowOf a.hA b∨w.heap.size≤b:=by
  rintro b ⟨ad,hx,rfl⟩;injection hx with hx
  subst hx;rcases hat with hx | hx
  ·exact .inl (af.1 hx)
  ·right;have:=hs.size;simp only;omega
 refine h.uV (r:=k.hs++[x]) (hF.setCell (p:=⟨kp,3,none⟩) (.inl (.inl rfl)) _) ?_ ?_ hn
 ·have:=hb.set 3 (.slice (some ⟨g,0,none⟩) (k.hs.length+1) cap)
  simpa [cO] using this
 ·rw[List.length_append];exact hO.far (p:=⟨kp,3,none⟩) (fun ad hx=>by injection hx with hx;subst hx;exact VR) _
theorem KW.KU (h:KW w kp k a) {wa wb:World} {x:Int} {g cap:Nat} (hs:Same w wa) (hO:gq wb 3 (some ⟨g,0,none⟩) (k.tr.length+1) cap (k.tr++[x])) (hg:wa.grownBy wb (Value.slice a.tA k.tr.length a.tC).ownBlock)
  (hat:(Value.slice a.tA k.tr.length a.tC).ownBlock=some g∨g=wa.heap.size) :
  KW (wb.setCell ⟨kp,7,none⟩ (.slice (some ⟨g,0,none⟩) (k.tr.length+1) cap)) kp { k with tr:=k.tr++[x] } { a with tA:=some ⟨g,0,none⟩,tC:=cap }∧
   cZ k.n kp w a (wb.setCell ⟨kp,7,none⟩ (.slice (some ⟨g,0,none⟩) (k.tr.length+1) cap)) { a with tA:=some ⟨g,0,none⟩,tC:=cap }:=by
 have hk:=h.same hs;have hF:ah (fun b=>b=kp∨rowOf a.tA b) w wb:=(hs.mono (fun _ _ h=>h.elim)).grown hg (fun g hg=>.inl (.inr (af.1 hg)));have QI:¬ rowOf a.tA kp:=fun hx=>h.dj 0 11 kp (by omega) rfl hx
 have hb:ax wb kp 100 (cO k a):=hk.blk.grown hg (fun hx=>QI (af.1 hx.symm));have VR:g≠kp:=by
  rintro rfl;rcases hat with hx | hx
  ·exact QI (af.1 hx)
  ·have:=hk.blk.lt;omega
 have hn:∀ b,rowOf (some ⟨g,0,none⟩:Option Addr) b→rowOf a.tA b∨w.heap.size≤b:=by
  rintro b ⟨ad,hx,rfl⟩;injection hx with hx
  subst hx;rcases hat with hx | hx
  ·exact .inl (af.1 hx)
  ·right;have:=hs.size;simp only;omega
 refine h.ym (r:=k.tr++[x]) (hF.setCell (p:=⟨kp,7,none⟩) (.inl (.inl rfl)) _) ?_ ?_ hn
 ·have:=hb.set 7 (.slice (some ⟨g,0,none⟩) (k.tr.length+1) cap)
  simpa [cO] using this
 ·rw[List.length_append];exact hO.far (p:=⟨kp,7,none⟩) (fun ad hx=>by injection hx with hx;subst hx;exact VR) _
theorem KW.OB (h:KW w kp k a) {i:Nat} {x:Int} (hi:k.us[i]?=some x):∃ sb,a.uA=some ⟨sb,0,none⟩∧sb<w.heap.size∧sb≠kp∧w.cell? ⟨sb,i,none⟩=some (.int .i32 x)∧w.frozen? ⟨sb,i,none⟩=false:=by
 obtain⟨sb,h1,h2,h3⟩:=h.us.dQ hi;have hr:=h.us;rw[h1] at hr;exact⟨sb,h1,h2,fun he=>h.dj 7 0 sb (by omega) ⟨_,h1,rfl⟩ he,h3,hr.free i⟩
theorem KW.Bf (h:KW w kp k a) {i:Nat} {x:Int} (hi:k.hs[i]?=some x):∃ sb,a.hA=some ⟨sb,0,none⟩∧sb<w.heap.size∧sb≠kp∧w.cell? ⟨sb,i,none⟩=some (.int .i32 x)∧w.frozen? ⟨sb,i,none⟩=false:=by
 obtain⟨sb,h1,h2,h3⟩:=h.hs.dQ hi;have hr:=h.hs;rw[h1] at hr;exact⟨sb,h1,h2,fun he=>h.dj 8 0 sb (by omega) ⟨_,h1,rfl⟩ he,h3,hr.free i⟩
theorem pX (h:KW w kp k a) (r:Int) (h0:0≤r) (h1:r<4294967296) (hu:1<r→∃ u:Int,k.us[r.toNat]?=some u∧0≤u∧u<100000000) :
  Calls Tryz.prog 92 #[.pointer (some ⟨kp,0,none⟩),.int .u32 r] w fun e w'=>e=.returned (.tuple #[])∧KW w' kp (bF k r) a∧cZ k.n kp w a w' a:=by
 by_cases hr:1<r
 ·obtain⟨u,hu,u0,u1⟩:=hu hr;obtain⟨m,rfl⟩:=Int.eq_ofNat_of_zero_le h0;rw[Int.toNat_natCast] at hu;have hlt:=aY hu;obtain⟨sb,hA,hsb,hne,hc,hf⟩:=h.OB hu;have g2:=h.c2;rw[hA] at g2;have hk:=h.blk.lt;have hres:=h.FN hA hlt (u+1);have he:bF k (m:Int)={ k with us:=k.us.set m (u+1) }:=by
   unfold bF;rw[if_pos hr,Int.toNat_natCast,List.getD_eq_getElem?_getD,hu];rfl
  rw[he];have H:=Lib.hid hres;have hgt:(m:Int)>1:=hr;have hi:(m:Int)<k.us.length:=by omega
  clear h hres he hu hA hr;go_enter Tryz.func92,Tryz.ntmps92;go_wp2;go_end0
  exact⟨rfl,H.out.1,H.out.2⟩
 ·have he:bF k r=k:=by unfold bF;rw[if_neg hr]
  rw[he];have H:=Lib.hid h;have hgt:¬ r>1:=hr;clear h he hu hr;go_enter Tryz.func92,Tryz.ntmps92;go_wp2;go_end0
  exact⟨rfl,H.out,cZ.refl _ _ _ _⟩
end
theorem Bg:(Tryz.prog.info? 21).map (fun i=>(i.zero,i.size,i.bytes))=some (some (.int .i32 0),1,4):=by kernel_rfl
section
variable {w:World} {kp:Nat} {k:KS} {a:KA} {ext:List Int} {X:List bN} {n:Nd}
theorem Nd.Bh {n:Nd} (hv0:0≤n.v) (hv1:n.v<64) (hl0:0≤n.lo) (hl1:n.lo<4294967296) (hh0:0≤n.hi) (uQ:n.hi<4294967296):n.ok:=by
 unfold Nd.ok Lit.wf;refine⟨?_,?_,?_⟩ <;> simp[IntKind.min,IntKind.max,IntKind.signed,IntKind.bits] <;> omega
def mI:Option Value→Nat
 | some (.slice _ n _)=>n
 | _=>0
structure jH (k:KS) (n:Nd):Prop where
 v0:0≤n.v
 v1:n.v<k.n
 l0:0≤n.lo
 l1:tk k.ls n.lo=true
 h0:0≤n.hi
 h1:tk k.ls n.hi=true
theorem jH.lt (h:jH k n) (hb:Bk k ext X):n.lo<1048576∧n.hi<1048576:=⟨hb.lt h.l0 h.l1,hb.lt h.h0 h.h1⟩
theorem jH.ok (h:jH k n) (hb:Bk k ext X):n.ok:=by
 have:=h.lt hb
 have:=hb.n64
 have:=h.v1
 exact Nd.Bh h.v0 (by omega) h.l0 (by omega) h.h0 (by omega)
theorem jH.ck (h:jH k n) (hb:Bk k ext X):J2 k.ls n=0:=by
 have:=hb.n64
 have:=h.v1
 have:=h.v0
 unfold J2;rw[if_neg (by omega),if_neg (by simp[h.l1,h.h1])]
theorem KV (hb:Bk k ext X) (n:Nd) {x:Int} (h0:0≤x) (ht:tk k.ls x=true) (h1:1<x):∃ u:Int,(iY (fO k n) (au k)).us[x.toNat]?=some u∧0≤u∧u≤16000001:=by
 obtain⟨r2,rf,_⟩:=eH hb;rcases(hb.NT h0).1 ht with h | h | ⟨n',hn'⟩
 ·omega
 ·omega
 obtain⟨u,hu,_,hu2,_⟩:=hb.uX hn';obtain⟨m,rfl,hm,hml,_⟩:=hb.mem _ _ hn';rw[Int.toNat_natCast] at hu;have hne:au k≠m:=by rintro h;rw[← h,rf] at ht;cases ht
 refine⟨u,?_,by omega,by omega⟩;show((upto k.us (au k+1)).set (au k) 0)[(m:Int).toNat]?=_;rw[Int.toNat_natCast,List.getElem?_set,if_neg hne,kH,if_pos hml,hu]
theorem Ih {r x:Int} {m:Nat} {u:Int} (hu:k.us[m]?=some u) (h0:0≤u) (h1:u≤x):∃ v:Int,(bF k r).us[m]?=some v∧0≤v∧v≤x+1:=by
 rw[nI,hu];refine⟨_,rfl,?_,?_⟩ <;> (dsimp only;split <;> omega)
theorem Ee (h:KW w kp k a) (hb:Bk k ext X) {n:Nd} (hn:jH k n) (hc:k.ac<k.c) :
  Calls Tryz.prog 91 #[.pointer (some ⟨a.g,0,none⟩),n.val] w fun e w'=>e=.returned (.tuple #[.int .u32 (au k),.int .i64 0])∧
   ∃ A2 C2,KW w' kp (fO k n) { a with A:=A2,C:=C2 }∧cZ k.n kp w a w' { a with A:=A2,C:=C2 }∧ah (qH a.g a.A a.A') w w':=by
 have hlt:=hn.lt hb;have hck:=hn.ck hb;have hl0:=hn.l0;have hh0:=hn.h0;have UW:=hb.cM;obtain⟨r2,rf,rl,r4,r5⟩:=eH hb;by_cases hf:k.fr=[]
 ·have har:=h.ar;rw[hf] at har;have hll:=hb.gK;rw[hf] at hll;simp at hll;refine(DW har n hl0 (by omega) hh0 (by omega) hck (by omega) (by omega) (by omega)).mono ?_;rintro e w' ⟨rfl,A2,C2,hA,hfr,hnw⟩;refine⟨by rw[r4 hf],A2,C2,?_⟩;have he:fO k n={ k with ac:=k.ac+1,ls:=k.ls++[⟨n,true,0⟩],fr:=[] }:=by
   unfold fO;simp[hf]
  rw[he];obtain⟨g1,g2⟩:=h.arena (ac:=k.ac+1) (by exact_mod_cast hA) hfr hnw;exact⟨g1,g2,hfr⟩
 ·obtain⟨h5,h6⟩:=r5 hf;have har:=h.ar;rw[h6] at har;refine(Ib har n hl0 (by omega) hh0 (by omega) hck h5 (by omega)).mono ?_;rintro e w' ⟨rfl,hA,hfr⟩;refine⟨rfl,a.A,a.C,?_⟩;have he:fO k n={ k with ac:=k.ac+1,ls:=k.ls.set (au k) ⟨n,true,0⟩,fr:=k.fr.dropLast }:=by
   unfold fO;simp[hf]
  rw[he];obtain⟨g1,g2⟩:=h.arena (ac:=k.ac+1) (by exact_mod_cast hA) hfr (fun b hb=>.inl hb);exact⟨g1,g2,hfr⟩
theorem yt (h:KW w kp k a) (hb:Bk k ext X) {n:Nd} (hn:jH k n) (hc:k.ac<k.c) (hne:n.lo≠n.hi) (hnew:n∉keys k.L) :
  Calls Tryz.prog 58 #[.pointer (some ⟨kp,0,none⟩),n.val] w fun e w'=>e=.returned (.int .u32 (au k))∧∃ a',KW w' kp (aH k n) a'∧cZ k.n kp w a w' a':=by
 have QJ:=fun w' (h':KW w' kp k a)=>Ee h' hb hn hc
 obtain⟨r,hr⟩:∃ r,au k=r:=⟨_,rfl⟩;simp only[hr] at QJ;have ZA:=Lib.hid QJ;have HN:=Lib.hid hn;have HB:=Lib.hid hb;have HH:=Lib.hid h;have HNE:=Lib.hid hne;have UX:=Lib.hid hnew;have hr1:au k≤1048576:=by have:=(eH hb).2.2.1;have:=hb.lim;have:=hb.cM;omega
 have hr2:=(eH hb).1;have hu1:k.us.length≤1048576:=by have:=hb.Eb;have:=hb.lim;have:=hb.cM;omega
 have QK:=Lib.hid hb.ul;clear QJ hn hb h hne hnew;rw[hr] at hr1 hr2;have HR:=Lib.hid hr;have heR:Ending.returned (.int .u32 (au k))=.returned (.int .u32 r):=by rw[hr]
 rw[heR];clear heR hr;unfold Nd.val;go_enter Tryz.func58,Tryz.ntmps58;go_wp2_with (fail)
 refine ai fun w1 hw1=>?_
 have hX:=ax.new w 37 #[.int .i64 n.v,.int .u32 n.lo,.int .u32 n.hi];have hs1:Same w w1:=by rw[hw1];exact(ah.refl _ _).alloc _
 rw[← hw1] at hX;clear hw1;have hk1:=HH.out.same hs1;have c0:=hk1.c0;have hkl:=hk1.blk.lt;have hkS:¬ qH a.g a.A a.A' kp:=by
  rintro(hx | hx | hx)
  ·exact hk1.dj 0 1 kp (by omega) rfl hx
  ·exact hk1.dj 0 2 kp (by omega) rfl hx
  ·exact hk1.dj 0 3 kp (by omega) rfl hx
 have hXS:¬ qH a.g a.A a.A' w.heap.size:=by
  intro hx
  have:=HH.out.ar.lt _ hx
  omega
 have x0:=hX.cell 0;have x1:=hX.cell 1;have x2:=hX.cell 2;have hxl:=hX.lt;simp at x0 x1 x2;have HX:=Lib.hid hX;have pq:=Lib.hid hk1;have aX:=Lib.hid hs1;clear hX hk1 hs1;refine aJ (qH a.g a.A a.A') [([0,1,2,3,4],5),([6,7,8,9],10)] (by kernel_rfl) (by kernel_rfl) ?_;simp only[cK,pick,List.map_cons,List.map_nil,List.getD_cons_zero,List.getD_cons_succ];repeat (any_goals (first | go_big_quiet_step (fail) | quiet_step (fail)))
 refine wpQuiet_nil ?_;refine aa rfl fun K hK=>?_
 go_simp;refine(ZA.out _ (pq.out.same (ah.refl _ _).drew)).mono ?_;rintro e w2 ⟨rfl,A2,C2,hk2,hg2,hf2⟩;refine hK _ _ (aZ.bu ((ah.refl _ _).drew.trans hf2 (fun _ _ h=>h))) ?_;clear hK K;repeat (any_goals (first | go_big_quiet_step (fail) | quiet_step (fail)))
 refine wpQuiet_nil ?_;have hX2:=HX.out.ag ((ah.refl _ _).drew.trans hf2 (fun _ _ h=>h)) hXS;have OD:cZ k.n kp w a w2 { a with A:=A2,C:=C2 }:=(cZ.same aX.out).trans ((cZ.same ((ah.refl _ _).drew)).trans hg2);have QL:¬ gX k.n kp { a with A:=A2,C:=C2 } w.heap.size:=by
  intro hx;rcases hg2.fp _ hx with h | h
  ·have:=HH.out.lt h;omega
  ·have:=HX.out.lt;simp at h;omega
 clear hkS hXS hf2 hg2 c0 hkl x0 x1 x2 hxl HX pq aX ZA;obtain⟨k2,xC⟩:∃ k2,fO k n=k2:=⟨_,rfl⟩;obtain⟨a2,R3⟩:∃ a2,({ a with A:=A2,C:=C2 }:KA)=a2:=⟨_,rfl⟩;have hu2:k2.us=k.us:=by rw[← xC];rfl
 have KX:k2.hs=k.hs:=by rw[← xC];rfl
 rw[xC,R3] at hk2;rw[R3] at OD QL;have hn2:k.n=k2.n:=by rw[← xC];rfl
 rw[hn2] at OD QL;have aak:=Lib.hid hn2;clear hn2;have Ii:=Lib.hid xC;have Ij:=Lib.hid hu2;have HH2:=Lib.hid KX;have HG2:=Lib.hid OD;have UY:=Lib.hid QL;have tX:=Lib.hid hX2;have ZB:=Lib.hid hk2;clear xC R3 hu2 KX OD QL hX2 hk2;go_wp2_with (fail)
 go_loopw [] (fun wr=>∃ j a3,k.us.length+j≤max k.us.length (r+1)∧KW wr kp { k2 with us:=k.us++List.replicate j 0,hs:=k.hs++List.replicate j 0 } a3∧cZ k2.n kp w2 a2 wr a3) (fun wr=>r+1-mI (wr.cell? ⟨kp,2,none⟩))
 case atStart =>
  refine⟨0,a2,by omega,?_,cZ.refl _ _ _ _⟩
  have:=ZB.out
  have e:k2={ k2 with us:=k.us++List.replicate 0 0,hs:=k.hs++List.replicate 0 0 }:=by
   have h1:=Ij.out;have h2:=HH2.out;simp[← h1,← h2]
  rwa [← e]
 case round =>
  obtain⟨j,a3,hj,hk3,hg3⟩:=hrel;have g2:=hk3.c2;have g3:=hk3.c3;have hkl:=hk3.blk.lt;have hle:mI (wr.cell? ⟨kp,2,none⟩)=k.us.length+j:=by rw[g2];simp[mI]
  simp only[List.length_append,List.length_replicate] at g2 g3;have qY:=QK.out;rw[← qY] at g3;clear qY;have f2:=hk3.blk.free 2;have f3:=hk3.blk.free 3;have Dm:=Lib.hid hle;have FO:=Lib.hid hk3;have Bi:=Lib.hid hg3;clear hk3 hg3 hle;obtain⟨N,hN⟩:∃ N,k.us.length+j=N:=⟨_,rfl⟩;rw[hN] at g2 g3 hj;have FP:=Lib.hid hN;clear hN;by_cases hc:N≤r
  ·have hcI:(N:Int)≤(r:Int):=by omega
   have hN1:N≤1048576:=by omega
   go_upto_region 3 with fail
   refine aV 5 ?_;simp only[List.take_succ_cons,List.take_zero,List.drop_succ_cons,List.drop_zero];repeat (any_goals (first | go_big_quiet_step (fail) | quiet_step (fail)))
   refine wpQuiet_nil ?_;refine wpList_plain rfl fun K hK=>?_
   go_simp;refine hK _ _ ?_;clear hK K;refine aQ fun wa dR=>?_
   have hM:=ax.new wr 21 #[.int .i32 0];have hsa:Same wr wa:=by rw[dR];exact(ah.refl _ _).alloc _
   rw[← dR] at hM;clear dR;have hka:=FO.out.same hsa;have l6:=hka.us;simp only[List.length_append,List.length_replicate,FP.out] at l6;refine Own.aR (f:=fun x=>[xB x]) rfl (.tmp 28) (.tmp 29) _ rfl Tryz.underlying94 Bg rfl (by omega) rfl l6 (fun _=>rfl) (0:Int) wr.heap.size 1 rfl hM (by simp[Value.oneCell',xB]) (by simp[maxLen,FP.out] <;> omega) (by simp[FP.out] <;> omega) ?_;intro gg cap wb hOb hgb hat;have hlen:(k.us++List.replicate j 0:List Int).length=N:=by simp[FP.out]
   have hgr:=FO.out.KQ (wa:=wa) (wb:=wb) (x:=0) (g:=gg) (cap:=cap) hsa (by simpa only[hlen] using hOb) (by simpa only[hlen] using hgb) (by simpa only[hlen] using hat);simp only[hlen] at hgr;have hkb:ax wb kp 100 _:=hka.blk.grown hgb (fun hx=>hka.dj 0 7 kp (by omega) rfl (af.1 hx.symm));have b2:=hkb.free 2;have b2':=hkb.cell 2;have OE:=hkb.lt;simp[cO,FP.out] at b2';obtain⟨hk4,hg4⟩:=hgr;have J3:=Lib.hid hk4;have UZ:=Lib.hid hg4;have HLEN:=Lib.hid hlen;clear hlen hk4 hg4 hOb hgb hat hkb l6 hka hsa hM g2 g3 f2 f3 hkl;go_upto_region 4 with fail
   refine ai fun w5 lu=>?_
   rw[← lu] at J3 UZ;clear lu b2 b2' OE;have g3:=J3.out.c3;have hkl:=J3.out.blk.lt;simp only[List.length_append,List.length_replicate] at g3;have qY:=QK.out;rw[← qY,FP.out] at g3;clear qY;refine aV 5 ?_;simp only[List.take_succ_cons,List.take_zero,List.drop_succ_cons,List.drop_zero];repeat (any_goals (first | go_big_quiet_step (fail) | quiet_step (fail)))
   refine wpQuiet_nil ?_;refine wpList_plain rfl fun K hK=>?_
   go_simp;refine hK _ _ ?_;clear hK K;refine aQ fun wa dR=>?_
   have hM:=ax.new w5 21 #[.int .i32 0];have hsa:Same w5 wa:=by rw[dR];exact(ah.refl _ _).alloc _
   rw[← dR] at hM;clear dR;have hka:=J3.out.same hsa;have l6:=hka.hs;have hlen:(k.hs++List.replicate j 0:List Int).length=N:=by simp[← QK.out,FP.out]
   simp only[hlen] at l6;refine Own.aR (f:=fun x=>[xB x]) rfl (.tmp 37) (.tmp 38) _ rfl Tryz.underlying94 Bg rfl (by omega) rfl l6 (fun _=>rfl) (0:Int) w5.heap.size 1 rfl hM (by simp[Value.oneCell',xB]) (by rw[hlen];simp[maxLen] <;> omega) (by rw[hlen];omega) ?_;intro gg cap wb hOb hgb hat;have hgr:=J3.out.KT (wa:=wa) (wb:=wb) (x:=0) (g:=gg) (cap:=cap) hsa (by simpa only[hlen] using hOb) (by simpa only[hlen] using hgb) (by simpa only[hlen] using hat);simp only[hlen] at hgr;have hkb:ax wb kp 100 _:=hka.blk.grown hgb (fun hx=>hka.dj 0 8 kp (by omega) rfl (af.1 hx.symm));have b2:=hkb.free 3;have b2':=hkb.cell 3;have OE:=hkb.lt;simp[cO] at b2';obtain⟨hk5,hg5⟩:=hgr;have NU:=Lib.hid hk5;have VS:=Lib.hid hg5;clear hk5 hg5 hOb hgb hat hkb l6 hka hsa hM g3 hkl;go_wp2;go_roundw
   case rel =>
    have hN:=FP.out;refine⟨j+1,_,by omega,?_,(Bi.out.trans UZ.out).trans VS.out⟩
    have:=NU.out
    simpa only[List.replicate_succ',← List.append_assoc] using this
   case measure =>
    have hN:=FP.out;rw[Dm.out];have h5:=NU.out.c2;rw[h5];simp[mI,FP.out];omega
  ·have hcI:¬ (N:Int)≤(r:Int):=by omega
   have e1:k.us++List.replicate j 0=upto k.us (r+1):=by
    have:=FP.out
    unfold upto;rw[show j=r+1-k.us.length by omega]
   have e2:k.hs++List.replicate j 0=upto k.hs (r+1):=by
    have:=FP.out
    have:=QK.out
    unfold upto;rw[show j=r+1-k.hs.length by omega]
   rw[e1,e2] at FO;have FQ:Hid (N=max k.us.length (r+1)):=Lib.hid (by have:=FP.out;omega);clear e1 e2 Dm FP;have qI:=tX.out.ag Bi.out.ag UY.out;have hk3:=FO.out;have VT:(upto k.us (r+1)).length=N:=by rw[gM,FQ.out]
   have hlh:(upto k.hs (r+1)).length=N:=by rw[gM,← QK.out,FQ.out]
   have hrN:r<N:=by omega
   obtain⟨ub,hub,ubl,ubk,ubc,ubf⟩:=hk3.OB (i:=r) (List.getElem?_eq_getElem (by show r<(upto k.us (r+1)).length;omega));obtain⟨vb,hvb,vbl,vbk,vbc,vbf⟩:=hk3.Bf (i:=r) (List.getElem?_eq_getElem (by show r<(upto k.hs (r+1)).length;omega));have huv:ub≠vb:=fun he=>hk3.dj 7 8 ub (by omega) ⟨_,hub,rfl⟩ ⟨_,hvb,he.symm⟩
   rw[hub] at g2;rw[hvb] at g3;clear ubc vbc;have VU:=hk3.us;have hkh:=hk3.hs;obtain⟨ux,hux⟩:∃ u:Value,wr.cell? ⟨ub,r,none⟩=some u:=by
    obtain⟨sb,q1,q2,q3⟩:=VU.dQ (i:=r) (List.getElem?_eq_getElem (by show r<(upto k.us (r+1)).length;omega));rw[hub] at q1;injection q1 with q1;injection q1 with q1;subst q1
    exact⟨_,q3⟩
   obtain⟨vx,ZC⟩:∃ u:Value,wr.cell? ⟨vb,r,none⟩=some u:=by
    obtain⟨sb,q1,q2,q3⟩:=hkh.dQ (i:=r) (List.getElem?_eq_getElem (by show r<(upto k.hs (r+1)).length;omega));rw[hvb] at q1;injection q1 with q1;injection q1 with q1;subst q1
    exact⟨_,q3⟩
   have VV:(r:Int)<(N:Int):=by omega
   clear VU hkh;have z1:=hk3.FN hub (i:=r) (by show r<(upto k.us (r+1)).length;omega) 0;have z2:=z1.1.KP (sb:=vb) hvb (i:=r) (by show r<(upto k.hs (r+1)).length;omega) 0;have HZ:=Lib.hid (And.intro z2.1 ((Bi.out.trans z1.2).trans z2.2));have R4:=Lib.hid qI;clear z1 z2 qI hk3 VT hlh hub hvb FO Bi;go_wp2_with (fail)
   refine aJ (fun b=>b=ub) [([0,1,2,3,4,5,6,7,8,9,10],11),([12],13)] (by kernel_rfl) (by kernel_rfl) ?_;have hS1:¬ (kp=ub):=fun h=>ubk h.symm
   have hS2:¬ (vb=ub):=fun h=>huv h.symm
   simp only[cK,pick,List.map_cons,List.map_nil,List.getD_cons_zero,List.getD_cons_succ];repeat (any_goals (first | go_big_quiet_step (fail) | quiet_step (fail)))
   refine wpQuiet_nil ?_;refine aa rfl fun K hK=>?_
   go_simp;refine hK _ _ (aZ.bu ((ah.refl _ _).drew.set r _ rfl)) ?_;clear hK K;repeat (any_goals (first | go_big_quiet_step (fail) | quiet_step (fail)))
   refine wpQuiet_nil ?_;go_upto_region 6 with fail
   refine ai fun w6 R5=>?_
   have hz:KW w6 kp (iY k2 r) a3:=by
    have:=HZ.out.1
    have e1:=Ij.out;have e2:=HH2.out;unfold iY;rw[e1,e2,R5];exact this.same ((ah.refl _ _).drew)
   have hgz:cZ k2.n kp w2 a2 w6 a3:=by
    rw[R5];exact HZ.out.2.trans (cZ.same ((ah.refl _ _).drew))
   have uY:=tX.out.ag hgz.ag UY.out;clear R5 HZ R4 hux ZC ubl ubk ubf vbl vbk vbf huv g2 g3 hkl f2 f3 hS1 hS2;have hn:=HN.out;have hb:=HB.out;have xC:=Ii.out;have hr:=HR.out;have hlt:=hn.lt hb;have uA:∀ x:Int,0≤x→tk k.ls x=true→1<x→∃ u:Int,(iY k2 r).us[x.toNat]?=some u∧0≤u∧u≤16000001:=by
    rw[← xC,← hr];exact fun x h0 ht h1=>KV hb n h0 ht h1
   have hl1:=fun (h:1<n.lo)=>uA n.lo hn.l0 hn.l1 h
   have uQ:=fun (h:1<n.hi)=>uA n.hi hn.h0 hn.h1 h
   have hc1:=pX hz n.lo hn.l0 (by omega) (fun h=>(hl1 h).imp fun u hu=>⟨hu.1,hu.2.1,by omega⟩)
   have hc2:=fun w7 (h7:KW w7 kp (bF (iY k2 r) n.lo) a3)=>pX h7 n.hi hn.h0 (by omega) (fun h=>by
    obtain⟨u,hu,h0,h1⟩:=uQ h;obtain⟨v,hv,v0,v1⟩:=Ih (r:=n.lo) hu h0 h1
    exact⟨v,hv,v0,by omega⟩)
   have HC1:=Lib.hid hc1;have HC2:=Lib.hid hc2;have hLe:(bF (bF (iY k2 r) n.lo) n.hi).L=k.L:=by
    rw[ji (r:=n.hi),ji (r:=n.lo),← xC];rfl
   have hrw:(Lit.int .u32 (r:Int)).wf=true:=by simp[Lit.wf,IntKind.min,IntKind.max,IntKind.signed,IntKind.bits] <;> omega
   have hlm:k.L.length<maxLen:=by
    have h1:=hb.cnt;have h2:=hb.cM;simp only[List.length_append] at h1;unfold maxLen;omega
   have hc3:=fun w8 (h8:KW w8 kp (bF (bF (iY k2 r) n.lo) n.hi) a3)=>yh a3.U _ _ n (hn.ok hb) (r:Int) hrw (by rw[hLe];exact hlm) w8 h8.ut
   have HC3:=Lib.hid hc3;have HZ:=Lib.hid hz;have HGZ:=Lib.hid hgz;have x0:=uY.cell 0;have x1:=uY.cell 1;have x2:=uY.cell 2;have hxl:=uY.lt;simp at x0 x1 x2;have zk:=Lib.hid uY;clear hz hgz uY hn hb xC hr hlt uA hl1 uQ hc1 hc2 hc3 hLe hrw hlm;go_wp2_with (fail)
   refine HC1.out.mono ?_;rintro e w7 ⟨rfl,VW,uZ⟩;have hXz:¬ gX k2.n kp a3 w.heap.size:=HGZ.out.apart (T:=fun b=>b=w.heap.size) (by rintro b rfl;exact UY.out) (by rintro b rfl;exact tX.out.lt) _ rfl;have hn6:(iY k2 r).n=k2.n:=rfl;have qZ:=zk.out.ag uZ.ag hXz;have hc8:=HC2.out w7 VW;have x0:=qZ.cell 0;have x1:=qZ.cell 1;have x2:=qZ.cell 2;have VX:=qZ.lt;simp at x0 x1 x2;have HC8:=Lib.hid hc8;have Ik:=Lib.hid uZ;have U0:=Lib.hid qZ;have HXZ:=Lib.hid hXz;clear VW uZ qZ hc8 hXz hn6 HC1 HC2;go_wp2_with (fail)
   refine HC8.out.mono ?_;rintro e w8 ⟨rfl,ZE,hg8⟩;have VY:(bF (iY k2 r) n.lo).n=k2.n:=by rw[ji];rfl
   have R6:cZ k2.n kp w7 a3 w8 a3:=by rw[← VY];exact hg8
   have VZ:=U0.out.ag R6.ag HXZ.out;have x0:=VZ.cell 0;have x1:=VZ.cell 1;have x2:=VZ.cell 2;have ab1:=VZ.lt;have c1:=ZE.c1;have ab2:=ZE.blk.lt;simp at x0 x1 x2;have HK8:=Lib.hid ZE;have HG8:=Lib.hid R6;clear ZE hg8 R6 VZ VY HC8;have hUk:¬ UB a3.U k2.n kp:=fun hx=>HZ.out.dj 6 0 kp (by omega) hx rfl
   have hUX:¬ UB a3.U k2.n w.heap.size:=fun hx=>HXZ.out ⟨6,hx⟩
   go_upto_region 8 with fail
   refine aJ (UB a3.U k2.n) [([0,1,2,3,4,5],6)] (by kernel_rfl) (by kernel_rfl) ?_;simp only[cK,pick,List.map_cons,List.map_nil,List.getD_cons_zero,List.getD_cons_succ];repeat (any_goals (first | go_big_quiet_step (fail) | quiet_step (fail)))
   refine wpQuiet_nil ?_;refine wpList_plain rfl fun K hK=>?_
   go_simp;have V3:(bF (bF (iY k2 r) n.lo) n.hi).n=k2.n:=by rw[ji (r:=n.hi),ji (r:=n.lo)];rfl
   refine(HC3.out _ (HK8.out.same ((ah.refl _ _).drew))).mono ?_;rintro e w9 ⟨rfl,hu9,hf9⟩;have hfin:=HK8.out.table hu9 (by have:=((ah.refl (UB a3.U k2.n) w8).drew).trans (S':=UB a3.U k2.n) (by rw[← V3];exact hf9) (fun _ _ h=>h);rw[V3];exact this);refine hK _ _ ?_;clear hK K;have HF:=Lib.hid hfin;clear hfin hu9 hf9 V3;go_wp2;go_ret;have V3:(bF (bF (iY k2 r) n.lo) n.hi).n=k2.n:=by rw[ji (r:=n.hi),ji (r:=n.lo)];rfl
   have h1:=HF.out.1;have h2:=HF.out.2;rw[V3] at h2;refine⟨rfl,a3,?_,?_⟩
   ·have e:aH k n=pU (bF (bF (iY k2 r) n.lo) n.hi) n r:=by
     unfold aH;rw[HR.out,Ii.out]
    rw[e];exact h1
   ·rw[aak.out];exact(((HG2.out.trans HGZ.out).trans Ik.out).trans HG8.out).trans h2
end
section
variable {k:KS} {ext:List Int} {X:List bN}
theorem Bk.KY (h:Bk k ext X) {n:Nd} {r:Int} (hr:(n,r)∈k.L++X):k.us.getD r.toNat 0=((par k.L r+(if k.hs.getD r.toNat 0=0 then 0 else 1)+ext.count r:Nat):Int)∧r.toNat<k.us.length:=by
 have:=h.use _ _ hr
 exact⟨by rw[List.getD_eq_getElem?_getD,this];rfl,aY this⟩
theorem tY {r:Int} (h:Bk k (r::ext) X) (h1:1<r):Bk (dW k r) ext X:=by
 obtain⟨h0,ht⟩:=h.Ap r (List.mem_cons_self ..);obtain⟨n,hn⟩:∃ n,(n,r)∈k.L++X:=by
  rcases(h.NT h0).1 ht with h | h | h
  ·omega
  ·omega
  ·exact h
 obtain⟨hu,hl⟩:=h.KY hn;rw[List.count_cons_self] at hu;refine⟨h.n1,h.n64,h.c2,h.cM,h.l0,h.l1,?_,h.conv,h.kn,h.rn,h.Ea,h.fn,h.cnt,h.gK,h.lim,?_,?_,h.fo,?_,h.hol,fun q hq=>h.Ap q (List.mem_cons_of_mem _ hq),?_⟩
 ·intro n' q hq;obtain⟨m,e1,e2,e3,e4⟩:=h.mem n' q hq;exact⟨m,e1,e2,by show m<(k.us.set _ _).length;rw[List.length_set];exact e3,e4⟩
 ·show(k.us.set _ _).length=_;rw[List.length_set];exact h.ul
 ·show(k.us.set _ _).length≤_;rw[List.length_set];exact h.Eb
 ·intro n' q hq;have hq2:=(h.jG hq).1;show(k.us.set r.toNat (k.us.getD r.toNat 0-1))[q.toNat]?=some ((par k.L q+(if k.hs.getD q.toNat 0=0 then 0 else 1)+ext.count q:Nat):Int);rw[List.getElem?_set];by_cases QM:r=q
  ·subst QM;rw[if_pos rfl,if_pos hl,hu];congr 1;omega
  ·rw[if_neg (by omega),h.use n' q hq,List.count_cons_of_ne QM]
 ·have:=h.bd
  simp only[List.length_cons] at this;show ext.length+k.L.length≤_;omega
theorem Bj {r:Int} (h:Bk k (r::ext) X) (h1:r≤1):Bk k ext X:=by
 refine⟨h.n1,h.n64,h.c2,h.cM,h.l0,h.l1,h.mem,h.conv,h.kn,h.rn,h.Ea,h.fn,h.cnt,h.gK,h.lim,h.ul,h.Eb,h.fo,?_,h.hol,fun q hq=>h.Ap q (List.mem_cons_of_mem _ hq),?_⟩
 ·intro n' q hq;have hq2:=(h.jG hq).1;rw[h.use n' q hq,List.count_cons_of_ne (by omega)]
 ·have:=h.bd
  simp only[List.length_cons] at this;omega
theorem gN {L:List bN} {n:Nd} {r:Int} (hn:(keys L).Nodup) (hm:(n,r)∈L):((n,r)::without n L).Perm L:=by
 induction L with
 | nil=>cases hm
 | cons p L ih =>
  have hn':p.1∉keys L∧(keys L).Nodup:=by simpa [keys] using hn
  by_cases hp:p.1=n
  ·have hw:without n L=L:=by
    unfold without;rw[List.filter_eq_self];intro q hq
    have:q.1≠n:=by
     rintro rfl;exact hn'.1 (by rw[hp];exact List.mem_map_of_mem hq)
    simpa using this
   have hw2:without n (p::L)=L:=by
    have:without n (p::L)=without n L:=by simp[without,hp]
    rw[this,hw]
   have he:p=(n,r):=by
    rcases List.mem_cons.1 hm with h | h
    ·exact h.symm
    ·exfalso;apply hn'.1;rw[hp];exact List.mem_map_of_mem (f:=(·.1)) h
   rw[hw2,he]
  ·have hm':(n,r)∈L:=by
    rcases List.mem_cons.1 hm with h | h
    ·rw[← h] at hp;exact absurd rfl hp
    ·exact h
   have hw2:without n (p::L)=p::without n L:=by simp[without,hp]
   rw[hw2];exact(List.Perm.swap _ _ _).trans ((ih hn'.2 hm').cons _)
theorem u6 (h:Bk k ext X) {n:Nd} {r:Int} (hm:(n,r)∈k.L):(iG k n).L=without n k.L∧Ie k.n k.L n=0:=by
 obtain⟨a,b,_⟩:=h.fo n r hm;have hl:(look k.L n).isSome=true:=by rw[kF h.kn hm];rfl
 refine⟨?_,?_⟩
 ·show Bd _ _ _=_;unfold Bd;rw[if_pos ⟨a,b⟩,if_pos hl]
 ·unfold Ie;rw[if_pos ⟨a,b⟩,if_pos hl]
theorem KZ (h:Bk k ext X) {n:Nd} {r:Int} (hm:(n,r)∈k.L) (hb:ext.length+k.L.length+1≤8000000):Bk (iG k n) (n.hi::n.lo::ext) ((n,r)::X):=by
 have hL:=(u6 h hm).1;have hP:((iG k n).L++(n,r)::X).Perm (k.L++X):=by
  rw[hL];exact(List.perm_middle).trans ((gN h.kn hm).append_right X)
 have hmem:=fun p=>hP.mem_iff (a:=p)
 have hsub:∀ p,p∈(iG k n).L→p∈k.L:=by
  intro p hp;rw[hL] at hp;exact(List.mem_filter.1 hp).1
 obtain⟨_,_,lo0,hi0,lot,hit,hne⟩:=h.fo n r hm
 refine⟨h.n1,h.n64,h.c2,h.cM,h.l0,h.l1,fun n' q hq=>h.mem n' q ((hmem _).1 hq),fun m p h2 hp ht=>(hmem _).2 (h.conv m p h2 hp ht),?_,(hP.map _).nodup_iff.2 h.rn,h.Ea,h.fn,?_,h.gK,h.lim,h.ul,h.Eb,
  fun n' q hq=>h.fo n' q (hsub _ hq),?_,?_,?_,?_⟩
 ·rw[hL,jg];exact jf _ h.kn
 ·rw[hP.length_eq];exact h.cnt
 ·intro n' q hq;show k.us[q.toNat]?=_;rw[h.use n' q ((hmem _).1 hq),sK h.kn hm (x:=q),hL];congr 1;rw[List.count_cons,List.count_cons];show((_+(if k.hs.getD q.toNat 0=0 then 0 else 1)+_:Nat):Int)=((_+(if k.hs.getD q.toNat 0=0 then 0 else 1)+_:Nat):Int);simp only[beq_iff_eq];omega
 ·intro m x hx;obtain⟨a,b,c⟩:=h.hol m x hx;exact⟨a,b,fun h0=>(c h0).imp fun n' hn'=>(hmem _).2 hn'⟩
 ·intro q hq;rcases List.mem_cons.1 hq with rfl | hq
  ·exact⟨hi0,hit⟩
  ·rcases List.mem_cons.1 hq with rfl | hq
   ·exact⟨lo0,lot⟩
   ·exact h.Ap q hq
 ·have:=(gN h.kn hm).length_eq
  rw[hL];simp only[List.length_cons] at this ⊢;omega
theorem OG {n:Nd} {r:Int} (h:Bk k ext ((n,r)::X)) (hp:par k.L r=0) (hh:k.hs.getD r.toNat 0=0) (he:ext.count r=0):Bk (iH k r) ext X:=by
 have hP:(k.L++(n,r)::X).Perm ((n,r)::(k.L++X)):=List.perm_middle;have hmem:∀ p,p∈k.L++(n,r)::X↔p=(n,r)∨p∈k.L++X:=fun p=>by rw[hP.mem_iff,List.mem_cons]
 have hr0:(n,r)∈k.L++(n,r)::X:=(hmem _).2 (.inl rfl);obtain⟨m,rfl,m2,mu,ml⟩:=h.mem _ _ hr0;have hlt:=aY ml;have hrn:=(hP.map (·.2)).nodup_iff.1 h.rn;rw[List.map_cons,List.nodup_cons] at hrn;have hnq:∀ n' q,(n',q)∈k.L++X→q≠m:=by
  rintro n' q hq rfl;exact hrn.1 (List.mem_map_of_mem (f:=(·.2)) hq)
 have hls:∀ i:Nat,(iH k (m:Int)).ls[i]?=if i=m then some DZ else k.ls[i]?:=by
  intro i;show(k.ls.set (m:Int).toNat DZ)[i]?=_;rw[Int.toNat_natCast,List.getElem?_set];by_cases hi:m=i
  ·subst hi;rw[if_pos rfl,if_pos hlt,if_pos rfl]
  ·rw[if_neg hi,if_neg (fun h=>hi h.symm)]
 have hll:(iH k (m:Int)).ls.length=k.ls.length:=by show(k.ls.set _ _).length=_;rw[List.length_set]
 have htk:∀ x:Int,0≤x→x≠m→tk k.ls x=true→tk (iH k (m:Int)).ls x=true:=by
  intro x h0 hx ht;obtain⟨i,rfl⟩:=Int.eq_ofNat_of_zero_le h0;obtain⟨p,hp,hpt⟩:=jX.1 ht;exact jX.2 ⟨p,by rw[hls,if_neg (by omega)];exact hp,hpt⟩
 have hfr:(iH k (m:Int)).fr=k.fr++[(m:Int)]:=rfl;have hac:(iH k (m:Int)).ac=k.ac-1:=rfl;have hcnt:=h.cnt;rw[hP.length_eq,List.length_cons] at hcnt;refine⟨h.n1,h.n64,h.c2,h.cM,by rw[hls,if_neg (by omega)];exact h.l0,by rw[hls,if_neg (by omega)];exact h.l1,?_,?_,h.kn,hrn.2,?_,?_,?_,?_,by rw[hll];exact h.lim,h.ul,by rw[hll];exact h.Eb,?_,?_,?_,?_,?_⟩
 ·intro n' q hq;obtain⟨i,rfl,i2,iu,il⟩:=h.mem n' q ((hmem _).2 (.inr hq))
  have:=hnq _ _ hq
  exact⟨i,rfl,i2,iu,by rw[hls,if_neg (by omega)];exact il⟩
 ·intro i p i2 hp ht;rw[hls] at hp;by_cases him:i=m
  ·rw[if_pos him] at hp;injection hp with hp
   rw[← hp] at ht;cases ht
  ·rw[if_neg him] at hp;rcases(hmem _).1 (h.conv i p i2 hp ht) with h1 | h1
   ·injection h1 with _ h2;omega
   ·exact h1
 ·rw[hfr];intro q hq;rcases List.mem_append.1 hq with hq | hq
  ·obtain⟨i,rfl,i2,p,NV,hpt⟩:=h.Ea q hq
   have:i≠m:=by
    rintro rfl;rw[ml] at NV;injection NV with NV
    rw[← NV] at hpt;cases hpt
   exact⟨i,rfl,i2,p,by rw[hls,if_neg this];exact NV,hpt⟩
  ·simp at hq;subst hq;exact⟨m,rfl,m2,DZ,by rw[hls,if_pos rfl],rfl⟩
 ·rw[hfr,List.nodup_append];refine⟨h.fn,by simp,?_⟩;rintro x hx y hy rfl;simp at hy;subst hy;obtain⟨i,h1,i2,p,NV,hpt⟩:=h.Ea _ hx;have J4:m=i:=by omega
  rw[← J4,ml] at NV;injection NV with NV
  rw[← NV] at hpt;cases hpt
 ·rw[hac];show k.ac-1=2+(k.L++X).length;omega
 ·rw[hac,hfr,hll,List.length_append];have:=h.gK;simp <;> omega
 ·intro n' q hq;obtain⟨a,b,c,d,e,f,g⟩:=h.fo n' q hq
  have:=gJ.1 hp _ hq
  exact⟨a,b,c,d,htk _ c this.1 e,htk _ d this.2 f,g⟩
 ·intro n' q hq;exact h.use n' q ((hmem _).2 (.inr hq))
 ·intro i x hx;obtain⟨a,b,c⟩:=h.hol i x hx;refine⟨a,b,fun h0=>?_⟩;obtain⟨n',hn'⟩:=c h0;rcases(hmem _).1 hn' with h1 | h1
  ·injection h1 with _ h2
   have him:i=m:=by omega
   have hx':k.hs[m]?=some x:=by rw[← him];exact hx
   rw[Int.toNat_natCast,List.getD_eq_getElem?_getD,hx'] at hh;exact absurd hh h0
  ·exact⟨n',h1⟩
 ·intro q hq;obtain⟨a,b⟩:=h.Ap q hq;refine⟨a,htk q a ?_ b⟩;rintro rfl;exact absurd hq (List.count_eq_zero.1 he)
 ·have:=h.bd
  exact this
def Pos (k:KS):Prop:=∀ n r,(n,r)∈k.L→0<k.us.getD r.toNat 0
theorem K3 {n:Nd} {r:Int} (h:Bk k (r::ext) X) (hm:(n,r)∈k.L) (hu:¬ 1<k.us.getD r.toNat 0):par k.L r=0∧k.hs.getD r.toNat 0=0∧ext.count r=0:=by
 obtain⟨h1,_⟩:=h.KY (List.mem_append_left _ hm);rw[List.count_cons_self] at h1;refine⟨by omega,?_,by omega⟩;by_cases h2:k.hs.getD r.toNat 0=0
 ·exact h2
 ·rw[if_neg h2] at h1;omega
theorem FR {n:Nd} {r:Int} (h:Bk k (r::ext) []) (hm:(n,r)∈k.L) (hu:¬ 1<k.us.getD r.toNat 0):Bk (iH (iG (dW k r) n) r) (n.hi::n.lo::ext) []:=by
 obtain⟨h1,h2,h3⟩:=K3 h hm hu;have hr:=(h.jG (List.mem_append_left _ hm)).1;have hl:=tY h (by omega);have hbd:=h.bd;simp only[List.length_cons] at hbd;have hcnt:=h.cnt;have UW:=h.cM;have hpr:=gJ.1 h1 _ hm;have hlim:=h.lim;have abW:=h.gK;have hL:(dW k r).L=k.L:=rfl;refine OG (n:=n) (KZ hl hm (by rw[hL];omega)) ?_ h2 ?_
 ·have hw:=sK h.kn hm (x:=r);rw[(u6 hl hm).1,hL];omega
 ·rw[List.count_cons_of_ne hpr.2,List.count_cons_of_ne hpr.1,h3]
end
end Go.Proofs.YtiomgckodmecbaaGreat
