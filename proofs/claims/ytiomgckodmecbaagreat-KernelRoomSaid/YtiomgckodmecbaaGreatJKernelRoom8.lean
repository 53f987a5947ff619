/- Contracts and plain laws, put together in one file. No condition. -/
import Derived.Test.YtiomgckodmecbaaGreatJKernelRoom7

set_option maxRecDepth 100000
set_option maxHeartbeats 32000000
namespace Go.Proofs.YtiomgckodmecbaaGreat
open Go.RowKit Go.Tk
def rR (n v:Nat) (b:Bool) (z:List Nat):List Nat:=tab n (kU v b z)
def gU (n:Nat) (zs:List (List Nat)) (v:Nat):List (List Nat):=zs.foldl (fun l z=>addN (addN l (rR n v false z)) (rR n v true z)) []
structure GV (wb W:World) (n:Nat) (zf zt:List Nat) (X Y:Option Nat) (F G:Option (Option Addr×Nat)):Prop where
 s:Same wb W
 x:∀ b,X=some b→ax W b 108 #[.int .i64 0,.slice none 0 0]∧wb.heap.size≤b
 y:∀ b,Y=some b→ax W b 108 #[.int .i64 0,.slice none 0 0]∧wb.heap.size≤b
 ne:∀ b c,X=some b→Y=some c→b≠c
 f:∀ p,F=some p→dN W p.1 zf.length p.2 zf
 g:∀ p,G=some p→dN W p.1 zt.length p.2 zt
section
variable {wb W W':World} {n:Nat} {zf zt:List Nat} {X Y:Option Nat} {F G:Option (Option Addr×Nat)} {A:Option Addr} {C:Nat}
theorem GV.start (wb:World) (n:Nat) (zf zt:List Nat):GV wb wb n zf zt none none none none:=⟨ah.refl _ _,(fun _ h=>by cases h),(fun _ h=>by cases h),(fun _ _ h=>by cases h),(fun _ h=>by cases h),(fun _ h=>by cases h)⟩
theorem GV.later (h:GV wb W n zf zt X Y F G) (hs:Same W W'):GV wb W' n zf zt X Y F G :=
 ⟨h.s.trans hs (fun _ _ h=>h),fun b hb=>⟨(h.x b hb).1.ag hs id,(h.x b hb).2⟩,fun b hb=>⟨(h.y b hb).1.ag hs id,(h.y b hb).2⟩,h.ne,fun p hp=>(h.f p hp).ag hs (fun _ _=>id),fun p hp=>(h.g p hp).ag hs (fun _ _=>id)⟩
theorem GV.Ch (h:GV wb W n zf zt X Y none G) (hn:xN W zf A C W'):GV wb W' n zf zt X Y (some (A,C)) G :=
 let k:=h.later hn.2.2
 ⟨k.s,k.x,k.y,k.ne,fun p hp=>by injection hp with hp;subst hp;exact hn.1,k.g⟩
theorem GV.mP (h:GV wb W n zf zt X Y F none) (hn:xN W zt A C W'):GV wb W' n zf zt X Y F (some (A,C)) :=
 let k:=h.later hn.2.2
 ⟨k.s,k.x,k.y,k.ne,k.f,fun p hp=>by injection hp with hp;subst hp;exact hn.1⟩
theorem GV.lI (h:GV wb W n zf zt none Y F G):GV wb (W.alloc (.cells #[.int .i64 0,.slice none 0 0] 108)) n zf zt (some W.heap.size) Y F G :=
 let k:=h.later ((ah.refl _ W).alloc (.cells #[.int .i64 0,.slice none 0 0] 108))
 ⟨k.s,fun b hb=>by injection hb with hb;subst hb;exact⟨ax.new _ _ _,h.s.size⟩,k.y,fun b c hb hc=>by injection hb with hb;have:=(h.y c hc).1.lt;omega,k.f,k.g⟩
theorem GV.lJ (h:GV wb W n zf zt X none F G):GV wb (W.alloc (.cells #[.int .i64 0,.slice none 0 0] 108)) n zf zt X (some W.heap.size) F G :=
 let k:=h.later ((ah.refl _ W).alloc (.cells #[.int .i64 0,.slice none 0 0] 108))
 ⟨k.s,k.x,fun b hb=>by injection hb with hb;subst hb;exact⟨ax.new _ _ _,h.s.size⟩,fun b c hb hc=>by injection hc with hc;have:=(h.x b hb).1.lt;omega,k.f,k.g⟩
theorem GV.xb {x:Nat} (h:GV wb W n zf zt (some x) Y F G):ax W x 108 #[.int .i64 0,.slice none 0 0]:=(h.x x rfl).1
structure GX (wb W:World) (n:Nat) (zf zt:List Nat) (x y:Nat) (A1 A2:Option Addr) (C1 C2:Nat):Prop where
 s:Same wb W
 xw:wb.heap.size≤x
 xb:ax W x 108 #[.int .i64 n,.slice A1 zf.length C1]
 yb:ax W y 108 #[.int .i64 0,.slice none 0 0]
 yw:wb.heap.size≤y
 ne:x≠y
 f:dN W A1 zf.length C1 zf
 g:dN W A2 zt.length C2 zt
theorem j3 {A:Option Addr} {zs:List Nat} {x:Nat} {cs:Array Value} (h:dN W A zs.length C zs) (hb:ax W x 108 cs) (i:Nat) (u:Value):dN (W.setCell ⟨x,i,none⟩ u) A zs.length C zs :=
 h.far (p:=⟨x,i,none⟩) (h.av hb (by decide)) u
theorem GV.iU {x y:Nat} {A1 A2:Option Addr} {C1 C2:Nat} (h:GV wb W n zf zt (some x) (some y) (some (A1,C1)) (some (A2,C2))) :
  GX wb ((W.setCell ⟨x,0,none⟩ (.int .i64 n)).setCell ⟨x,1,none⟩ (.slice A1 zf.length C1)) n zf zt x y A1 A2 C1 C2:=by
 have hx:=(h.x x rfl).1;have hw:=(h.x x rfl).2;have hy:=(h.y y rfl).1;have hne:=h.ne x y rfl rfl;have hx1:=hx.set 0 (.int .i64 n);refine⟨(h.s.aj _ _ hw).aj _ _ hw,hw,?_,(hy.far (p:=⟨x,0,none⟩) (fun e=>hne e.symm) _).far (p:=⟨x,1,none⟩) (fun e=>hne e.symm) _,(h.y y rfl).2,hne,j3 (j3 (h.f _ rfl) hx _ _) hx1 _ _,j3 (j3 (h.g _ rfl) hx _ _) hx1 _ _⟩
 have:=hx1.set 1 (.slice A1 zf.length C1)
 simpa using this
theorem GX.iV {x y:Nat} {A1 A2:Option Addr} {C1 C2:Nat} (h:GX wb W n zf zt x y A1 A2 C1 C2) :
  (x≠y∧wb.heap.size≤x∧wb.heap.size≤y)∧ax ((W.setCell ⟨y,0,none⟩ (.int .i64 n)).setCell ⟨y,1,none⟩ (.slice A2 zt.length C2)) x 108 #[.int .i64 n,.slice A1 zf.length C1]∧
   ax ((W.setCell ⟨y,0,none⟩ (.int .i64 n)).setCell ⟨y,1,none⟩ (.slice A2 zt.length C2)) y 108 #[.int .i64 n,.slice A2 zt.length C2]∧
   dN ((W.setCell ⟨y,0,none⟩ (.int .i64 n)).setCell ⟨y,1,none⟩ (.slice A2 zt.length C2)) A1 zf.length C1 zf∧dN ((W.setCell ⟨y,0,none⟩ (.int .i64 n)).setCell ⟨y,1,none⟩ (.slice A2 zt.length C2)) A2 zt.length C2 zt∧
   Same wb ((W.setCell ⟨y,0,none⟩ (.int .i64 n)).setCell ⟨y,1,none⟩ (.slice A2 zt.length C2)):=by
 have hy1:=h.yb.set 0 (.int .i64 n);refine⟨⟨h.ne,h.xw,h.yw⟩,(h.xb.far (p:=⟨y,0,none⟩) h.ne _).far (p:=⟨y,1,none⟩) h.ne _,?_,j3 (j3 h.f h.yb _ _) hy1 _ _,j3 (j3 h.g h.yb _ _) hy1 _ _,(h.s.aj _ _ h.yw).aj _ _ h.yw⟩
 have:=hy1.set 1 (.slice A2 zt.length C2)
 simpa using this
end
section
variable {w w':World} {n:Nat} {A:Option Addr} {C:Nat} {ts:List Tb} {t:Tb} {lo:Nat}
structure GQ (w0 W:World) (n:Nat) (A:Option Addr) (C:Nat) (us:List Tb) (X Y:Nat) (tf tt:Tb):Prop where
 tn:TN w0.heap.size W n A C us
 s:Same w0 W
 x:ax W X 108 #[.int .i64 n,.slice tf.A tf.ws.length tf.C]
 y:ax W Y 108 #[.int .i64 n,.slice tt.A tt.ws.length tt.C]
 ap:∀ b,rowOf A b→b≠X∧b≠Y
 tf:TW W n tf
 tt:TW W n tt
theorem GQ.later {w0 W W':World} {us:List Tb} {X Y:Nat} {tf tt:Tb} (h:GQ w0 W n A C us X Y tf tt) (hs:Same W W'):GQ w0 W' n A C us X Y tf tt :=
 ⟨h.tn.same hs,h.s.trans hs (fun _ _ h=>h),h.x.ag hs id,h.y.ag hs id,h.ap,h.tf.same hs,h.tt.same hs⟩
theorem GQ.push {w0 W wb:World} {us:List Tb} {X Y g cap N:Nat} {tf tt t:Tb} (h:GQ w0 W n A C us X Y tf tt) (ht:TW W n t) (hN:N=us.length) (hO:Go.Tk.Own wb 108 2 Tb.cells (some ⟨g,0,none⟩) (N+1) cap (us++[t])) (hg:W.grownBy wb (Value.slice A N C).ownBlock)
  (hat:(Value.slice A N C).ownBlock=some g∨g=W.heap.size)  :GQ w0 wb n (some ⟨g,0,none⟩) cap (us++[t]) X Y tf tt:=by
 subst hN;have kp:∀ u,TW W n u→TW wb n u:=fun u hu=>⟨hu.N,hu.own.gH hg (fun b hb hA=>h.tn.own.aL hu.own (by decide) b (af.1 hb) hA),hu.fm,hu.sm⟩
 obtain⟨h1,h2⟩:=h.tn.push ht hO hg hat h.s.size;refine⟨h1,h2 w0 h.s rfl,h.x.grown hg (fun hb=>(h.ap X (af.1 hb.symm)).1 rfl),h.y.grown hg (fun hb=>(h.ap Y (af.1 hb.symm)).2 rfl),?_,kp _ h.tf,kp _ h.tt⟩;rintro b ⟨a,ha,rfl⟩;injection ha with ha
 subst ha;rcases hat with h3 | h3
 ·exact h.ap g (af.1 h3)
 ·have:=h.x.lt
  have:=h.y.lt
  simp only;omega
theorem uw {l:List (List Nat)} {z:List Nat} (h:decide (z∈l)=true):addN l z=l:=by unfold addN;rw[if_pos (of_decide_eq_true h)]
theorem qp {l:List (List Nat)} {z:List Nat} (h:decide (z∈l)=false):addN l z=l++[z]:=by unfold addN;rw[if_neg (of_decide_eq_false h)]
theorem EL (hL:TL w n A ts) (v:Nat) (hv:v<n) (hl:ts.length≤500000000000) (hn16:n≤16) :
  Calls Tryz.prog 130 #[.slice A ts.length C,.int .i64 v] w fun e w'=>∃ A' C' us,e=.returned (.slice A' us.length C')∧TN w.heap.size w' n A' C' us∧us.map Tb.ws=gU n (ts.map Tb.ws) v∧us.length≤2*ts.length∧Same w w':=by
 have HL:=Lib.hid hL;clear hL;go_enter Tryz.func130,Tryz.ntmps130;go_wp2_with (fail)
 go_loopw [12,5] (fun i v' wr=>∃ (k:Nat) (A':Option Addr) (C':Nat) (us:List Tb),k≤ts.length∧i=.int .i64 k∧v'=.slice A' us.length C'∧TN w.heap.size wr n A' C' us∧us.map Tb.ws=gU n ((ts.take k).map Tb.ws) v∧us.length≤2*k∧Same w wr) (fun i _ _=>ts.length-(intOf i).toNat)
 case atStart=>exact⟨0,none,0,[],by omega,rfl,rfl,TN.nil _ _ _,rfl,Nat.le_refl _,ah.refl _ _⟩
 case round =>
  obtain⟨k,A',C',us,hk,rfl,rfl,hN,l6,qY,hS⟩:=hrel;by_cases hlt:k<ts.length
  ·obtain⟨t,ht⟩:∃ t,ts[k]?=some t:=⟨_,List.getElem?_eq_getElem hlt⟩;have hL:=HL.out.same hS;have sQ:=hL.tw t (List.mem_of_getElem? ht);obtain⟨b,off,rfl,hb,c0,c1⟩:=hL.at ht;have hI:(k:Int)<(ts.length:Int):=by omega
   have Lp:=sQ.N;have hcf:=fun (bb:Bool) w' (hw:Same wr w')=>vW n v bb t.A t.C t.ws w' (by have:=(sQ.same hw).ok;rw[show t=⟨t.N,t.A,t.C,t.ws⟩ from rfl,sQ.N] at this;exact this) sQ.fm hv
   rw[Lp] at c0;have Ci:=Lib.hid hcf;have HN:=Lib.hid hN;have HU:=Lib.hid l6;have HS:=Lib.hid hS;have HT:=Lib.hid ht;clear hL sQ hN l6 hS ht Lp hcf;go_upto_region 5 with fail
   refine ai fun w1 hw1=>?_
   have hX:=ax.new wr 108 #[.int .i64 n,.slice t.A t.ws.length t.C];have hs1:Same wr w1:=by rw[hw1];exact(ah.refl _ _).alloc _
   rw[← hw1] at hX;clear hw1;have x0:=hX.cell 0;have x1:=hX.cell 1;have hxl:=hX.lt;simp at x0 x1;have HX:=Lib.hid hX;have aX:=Lib.hid hs1;clear hX hs1
   go_cut [8,9] from 16 to 21 (fun s8 s9 wx=>∃ (X Y:Nat) (Af At:Option Addr) (Cf Ct:Nat),s8=.pointer (some ⟨X,0,none⟩)∧s9=.pointer (some ⟨Y,0,none⟩)∧X≠Y∧w1.heap.size≤X∧w1.heap.size≤Y∧
    ax wx X 108 #[.int .i64 n,.slice Af (tab n (kU v false t.ws)).length Cf]∧ax wx Y 108 #[.int .i64 n,.slice At (tab n (kU v true t.ws)).length Ct]∧
    dN wx Af (tab n (kU v false t.ws)).length Cf (tab n (kU v false t.ws))∧dN wx At (tab n (kU v true t.ws)).length Ct (tab n (kU v true t.ws))∧Same w1 wx)
   case first =>
    refine VD (fun _=>False) (.q [0,1,3,4] (.br 2 (.br 5 (.br 6 (.br 7 (.br 8 (.last 9) .stop) .stop) (.br 7 (.br 6 (.br 8 (.last 9) .stop) .stop) .stop)) (.br 6 (.br 5 (.br 7 (.br 8 (.last 9) .stop) .stop) (.br 7 (.br 5 (.br 8 (.last 9) .stop) .stop) .stop)) (.br 7 (.br 5 (.br 6 (.br 8 (.last 9) .stop) .stop) (.br 6 (.br 5 (.br 8 (.last 9) .stop) .stop) .stop)) .stop))) (.br 6 (.br 2 (.br 5 (.br 7 (.br 8 (.last 9) .stop) .stop) (.br 7 (.br 5 (.br 8 (.last 9) .stop) .stop) .stop)) (.br 7 (.br 2 (.br 5 (.br 8 (.last 9) .stop) .stop) .stop) .stop)) (.br 7 (.br 2 (.br 5 (.br 6 (.br 8 (.last 9) .stop) .stop) (.br 6 (.br 5 (.br 8 (.last 9) .stop) .stop) .stop)) (.br 6 (.br 2 (.br 5 (.br 8 (.last 9) .stop) .stop) .stop) .stop)) .stop)))) (by kernel_rfl) (by kernel_rfl) ?_;simp only[yc,pick,List.map_cons,List.map_nil,List.getD_cons_zero,List.getD_cons_succ];have acG:¬ False:=id;repeat (any_goals (first | go_big_quiet_step (fail) | quiet_step (fail)))
    refine wpQuiet_nil ?_;have hbase:Same w1 w1.drew:=(ah.refl _ _).drew;have hG:GV w1.drew w1.drew n (tab n (kU v false t.ws)) (tab n (kU v true t.ws)) none none none none:=GV.start _ _ _ _;generalize w1.drew=wb at *
    have hG0:=hG;refine⟨?_,?_,?_⟩
    ·refine aa rfl fun K hK=>?_
     go_simp;refine(Ci.out false _ (aX.out.trans (hbase.trans hG.s (fun _ _ h=>h)) (fun _ _ h=>h))).mono ?_;rintro e Z9 ⟨A2,C2,rfl,dX⟩;have hg:=hG.Ch dX;refine hK _ _ (aZ.bu (hbase.trans hg.s (fun _ _ h=>h))) ?_;clear hK K dX hG;have hG:=hg;clear hg;refine⟨?_,?_,?_⟩
     ·refine aa rfl fun K hK=>?_
      go_simp;refine(Ci.out true _ (aX.out.trans (hbase.trans hG.s (fun _ _ h=>h)) (fun _ _ h=>h))).mono ?_;rintro e wx2 ⟨A5,C5,rfl,dX⟩;have hg:=hG.mP dX;refine hK _ _ (aZ.bu (hbase.trans hg.s (fun _ _ h=>h))) ?_;clear hK K dX hG;have hG:=hg;clear hg;refine⟨?_,?_⟩
      ·refine aa rfl fun K hK=>?_
       go_simp;have hg:=hG.lI;refine hK _ _ (aZ.bu (hbase.trans hg.s (fun _ _ h=>h))) ?_;clear hK K hG;generalize wx2.alloc (.cells #[.int .i64 0,.slice none 0 0] 108)=wx3 at *
       generalize wx2.heap.size=X6 at *
       have hG:=hg;clear hg;refine aa rfl fun K hK=>?_
       go_simp;have hg:=hG.lJ;refine hK _ _ (aZ.bu (hbase.trans hg.s (fun _ _ h=>h))) ?_;clear hK K hG;generalize wx3.alloc (.cells #[.int .i64 0,.slice none 0 0] 108)=wx4 at *
       generalize wx3.heap.size=X7 at *
       have hG:=hg;clear hg;have hx0:=hG.xb.cell 0;have hx1:=hG.xb.cell 1;have vY:=hG.xb.free 0;have vZ:=hG.xb.free 1;have hxl:=hG.xb.lt;simp at hx0 hx1;refine aa rfl fun K hK=>?_
       go_simp;have hg:=hG.iU;refine hK _ _ (aZ.bu (hbase.trans hg.s (fun _ _ h=>h))) ?_;clear hK K hx0 hx1 vY vZ hxl;generalize (wx4.setCell ⟨X6,0,none⟩ (.int .i64 n)).setCell ⟨X6,1,none⟩ (.slice A2 (tab n (kU v false t.ws)).length C2)=WL at *
       have hy0:=hg.yb.cell 0;have hy1:=hg.yb.cell 1;have Mk:=hg.yb.free 0;have Ml:=hg.yb.free 1;have hyl:=hg.yb.lt;simp at hy0 hy1;have hfin:=hg.iV;have aF:=Lib.hid hfin;clear hfin hg hG;go_wp2_with fail
       go_meet
       exact⟨X6,X7,A2,A5,C2,C5,rfl,rfl,aF.out.1.1,Nat.le_trans hbase.size aF.out.1.2.1,Nat.le_trans hbase.size aF.out.1.2.2,aF.out.2.1,aF.out.2.2.1,aF.out.2.2.2.1,aF.out.2.2.2.2.1,hbase.trans aF.out.2.2.2.2.2 (fun _ _ h=>h)⟩
      ·refine aa rfl fun K hK=>?_
       go_simp;have hg:=hG.lJ;refine hK _ _ (aZ.bu (hbase.trans hg.s (fun _ _ h=>h))) ?_;clear hK K hG;generalize wx2.alloc (.cells #[.int .i64 0,.slice none 0 0] 108)=wx5 at *
       generalize wx2.heap.size=X7 at *
       have hG:=hg;clear hg;refine aa rfl fun K hK=>?_
       go_simp;have hg:=hG.lI;refine hK _ _ (aZ.bu (hbase.trans hg.s (fun _ _ h=>h))) ?_;clear hK K hG;generalize wx5.alloc (.cells #[.int .i64 0,.slice none 0 0] 108)=wx6 at *
       generalize wx5.heap.size=X6 at *
       have hG:=hg;clear hg;have hx0:=hG.xb.cell 0;have hx1:=hG.xb.cell 1;have vY:=hG.xb.free 0;have vZ:=hG.xb.free 1;have hxl:=hG.xb.lt;simp at hx0 hx1;refine aa rfl fun K hK=>?_
       go_simp;have hg:=hG.iU;refine hK _ _ (aZ.bu (hbase.trans hg.s (fun _ _ h=>h))) ?_;clear hK K hx0 hx1 vY vZ hxl;generalize (wx6.setCell ⟨X6,0,none⟩ (.int .i64 n)).setCell ⟨X6,1,none⟩ (.slice A2 (tab n (kU v false t.ws)).length C2)=WL at *
       have hy0:=hg.yb.cell 0;have hy1:=hg.yb.cell 1;have Mk:=hg.yb.free 0;have Ml:=hg.yb.free 1;have hyl:=hg.yb.lt;simp at hy0 hy1;have hfin:=hg.iV;have aF:=Lib.hid hfin;clear hfin hg hG;go_wp2_with fail
       go_meet
       exact⟨X6,X7,A2,A5,C2,C5,rfl,rfl,aF.out.1.1,Nat.le_trans hbase.size aF.out.1.2.1,Nat.le_trans hbase.size aF.out.1.2.2,aF.out.2.1,aF.out.2.2.1,aF.out.2.2.2.1,aF.out.2.2.2.2.1,hbase.trans aF.out.2.2.2.2.2 (fun _ _ h=>h)⟩
     ·refine aa rfl fun K hK=>?_
      go_simp;have hg:=hG.lI;refine hK _ _ (aZ.bu (hbase.trans hg.s (fun _ _ h=>h))) ?_;clear hK K hG;generalize Z9.alloc (.cells #[.int .i64 0,.slice none 0 0] 108)=wx7 at *
      generalize Z9.heap.size=X6 at *
      have hG:=hg;clear hg;refine⟨?_,?_⟩
      ·refine aa rfl fun K hK=>?_
       go_simp;refine(Ci.out true _ (aX.out.trans (hbase.trans hG.s (fun _ _ h=>h)) (fun _ _ h=>h))).mono ?_;rintro e wx8 ⟨A5,C5,rfl,dX⟩;have hg:=hG.mP dX;refine hK _ _ (aZ.bu (hbase.trans hg.s (fun _ _ h=>h))) ?_;clear hK K dX hG;have hG:=hg;clear hg;refine aa rfl fun K hK=>?_
       go_simp;have hg:=hG.lJ;refine hK _ _ (aZ.bu (hbase.trans hg.s (fun _ _ h=>h))) ?_;clear hK K hG;generalize wx8.alloc (.cells #[.int .i64 0,.slice none 0 0] 108)=wx9 at *
       generalize wx8.heap.size=X7 at *
       have hG:=hg;clear hg;have hx0:=hG.xb.cell 0;have hx1:=hG.xb.cell 1;have vY:=hG.xb.free 0;have vZ:=hG.xb.free 1;have hxl:=hG.xb.lt;simp at hx0 hx1;refine aa rfl fun K hK=>?_
       go_simp;have hg:=hG.iU;refine hK _ _ (aZ.bu (hbase.trans hg.s (fun _ _ h=>h))) ?_;clear hK K hx0 hx1 vY vZ hxl;generalize (wx9.setCell ⟨X6,0,none⟩ (.int .i64 n)).setCell ⟨X6,1,none⟩ (.slice A2 (tab n (kU v false t.ws)).length C2)=WL at *
       have hy0:=hg.yb.cell 0;have hy1:=hg.yb.cell 1;have Mk:=hg.yb.free 0;have Ml:=hg.yb.free 1;have hyl:=hg.yb.lt;simp at hy0 hy1;have hfin:=hg.iV;have aF:=Lib.hid hfin;clear hfin hg hG;go_wp2_with fail
       go_meet
       exact⟨X6,X7,A2,A5,C2,C5,rfl,rfl,aF.out.1.1,Nat.le_trans hbase.size aF.out.1.2.1,Nat.le_trans hbase.size aF.out.1.2.2,aF.out.2.1,aF.out.2.2.1,aF.out.2.2.2.1,aF.out.2.2.2.2.1,hbase.trans aF.out.2.2.2.2.2 (fun _ _ h=>h)⟩
      ·refine aa rfl fun K hK=>?_
       go_simp;have hg:=hG.lJ;refine hK _ _ (aZ.bu (hbase.trans hg.s (fun _ _ h=>h))) ?_;clear hK K hG;generalize wx7.alloc (.cells #[.int .i64 0,.slice none 0 0] 108)=acH at *
       generalize wx7.heap.size=X7 at *
       have hG:=hg;clear hg;refine aa rfl fun K hK=>?_
       go_simp;refine(Ci.out true _ (aX.out.trans (hbase.trans hG.s (fun _ _ h=>h)) (fun _ _ h=>h))).mono ?_;rintro e aa1 ⟨A5,C5,rfl,dX⟩;have hg:=hG.mP dX;refine hK _ _ (aZ.bu (hbase.trans hg.s (fun _ _ h=>h))) ?_;clear hK K dX hG;have hG:=hg;clear hg;have hx0:=hG.xb.cell 0;have hx1:=hG.xb.cell 1;have vY:=hG.xb.free 0;have vZ:=hG.xb.free 1;have hxl:=hG.xb.lt;simp at hx0 hx1;refine aa rfl fun K hK=>?_
       go_simp;have hg:=hG.iU;refine hK _ _ (aZ.bu (hbase.trans hg.s (fun _ _ h=>h))) ?_;clear hK K hx0 hx1 vY vZ hxl;generalize (aa1.setCell ⟨X6,0,none⟩ (.int .i64 n)).setCell ⟨X6,1,none⟩ (.slice A2 (tab n (kU v false t.ws)).length C2)=WL at *
       have hy0:=hg.yb.cell 0;have hy1:=hg.yb.cell 1;have Mk:=hg.yb.free 0;have Ml:=hg.yb.free 1;have hyl:=hg.yb.lt;simp at hy0 hy1;have hfin:=hg.iV;have aF:=Lib.hid hfin;clear hfin hg hG;go_wp2_with fail
       go_meet
       exact⟨X6,X7,A2,A5,C2,C5,rfl,rfl,aF.out.1.1,Nat.le_trans hbase.size aF.out.1.2.1,Nat.le_trans hbase.size aF.out.1.2.2,aF.out.2.1,aF.out.2.2.1,aF.out.2.2.2.1,aF.out.2.2.2.2.1,hbase.trans aF.out.2.2.2.2.2 (fun _ _ h=>h)⟩
     ·refine aa rfl fun K hK=>?_
      go_simp;have hg:=hG.lJ;refine hK _ _ (aZ.bu (hbase.trans hg.s (fun _ _ h=>h))) ?_;clear hK K hG;generalize Z9.alloc (.cells #[.int .i64 0,.slice none 0 0] 108)=XW at *
      generalize Z9.heap.size=X7 at *
      have hG:=hg;clear hg;refine⟨?_,?_⟩
      ·refine aa rfl fun K hK=>?_
       go_simp;refine(Ci.out true _ (aX.out.trans (hbase.trans hG.s (fun _ _ h=>h)) (fun _ _ h=>h))).mono ?_;rintro e XZ ⟨A5,C5,rfl,dX⟩;have hg:=hG.mP dX;refine hK _ _ (aZ.bu (hbase.trans hg.s (fun _ _ h=>h))) ?_;clear hK K dX hG;have hG:=hg;clear hg;refine aa rfl fun K hK=>?_
       go_simp;have hg:=hG.lI;refine hK _ _ (aZ.bu (hbase.trans hg.s (fun _ _ h=>h))) ?_;clear hK K hG;generalize XZ.alloc (.cells #[.int .i64 0,.slice none 0 0] 108)=aa2 at *
       generalize XZ.heap.size=X6 at *
       have hG:=hg;clear hg;have hx0:=hG.xb.cell 0;have hx1:=hG.xb.cell 1;have vY:=hG.xb.free 0;have vZ:=hG.xb.free 1;have hxl:=hG.xb.lt;simp at hx0 hx1;refine aa rfl fun K hK=>?_
       go_simp;have hg:=hG.iU;refine hK _ _ (aZ.bu (hbase.trans hg.s (fun _ _ h=>h))) ?_;clear hK K hx0 hx1 vY vZ hxl;generalize (aa2.setCell ⟨X6,0,none⟩ (.int .i64 n)).setCell ⟨X6,1,none⟩ (.slice A2 (tab n (kU v false t.ws)).length C2)=WL at *
       have hy0:=hg.yb.cell 0;have hy1:=hg.yb.cell 1;have Mk:=hg.yb.free 0;have Ml:=hg.yb.free 1;have hyl:=hg.yb.lt;simp at hy0 hy1;have hfin:=hg.iV;have aF:=Lib.hid hfin;clear hfin hg hG;go_wp2_with fail
       go_meet
       exact⟨X6,X7,A2,A5,C2,C5,rfl,rfl,aF.out.1.1,Nat.le_trans hbase.size aF.out.1.2.1,Nat.le_trans hbase.size aF.out.1.2.2,aF.out.2.1,aF.out.2.2.1,aF.out.2.2.2.1,aF.out.2.2.2.2.1,hbase.trans aF.out.2.2.2.2.2 (fun _ _ h=>h)⟩
      ·refine aa rfl fun K hK=>?_
       go_simp;have hg:=hG.lI;refine hK _ _ (aZ.bu (hbase.trans hg.s (fun _ _ h=>h))) ?_;clear hK K hG;generalize XW.alloc (.cells #[.int .i64 0,.slice none 0 0] 108)=acI at *
       generalize XW.heap.size=X6 at *
       have hG:=hg;clear hg;refine aa rfl fun K hK=>?_
       go_simp;refine(Ci.out true _ (aX.out.trans (hbase.trans hG.s (fun _ _ h=>h)) (fun _ _ h=>h))).mono ?_;rintro e aa3 ⟨A5,C5,rfl,dX⟩;have hg:=hG.mP dX;refine hK _ _ (aZ.bu (hbase.trans hg.s (fun _ _ h=>h))) ?_;clear hK K dX hG;have hG:=hg;clear hg;have hx0:=hG.xb.cell 0;have hx1:=hG.xb.cell 1;have vY:=hG.xb.free 0;have vZ:=hG.xb.free 1;have hxl:=hG.xb.lt;simp at hx0 hx1;refine aa rfl fun K hK=>?_
       go_simp;have hg:=hG.iU;refine hK _ _ (aZ.bu (hbase.trans hg.s (fun _ _ h=>h))) ?_;clear hK K hx0 hx1 vY vZ hxl;generalize (aa3.setCell ⟨X6,0,none⟩ (.int .i64 n)).setCell ⟨X6,1,none⟩ (.slice A2 (tab n (kU v false t.ws)).length C2)=WL at *
       have hy0:=hg.yb.cell 0;have hy1:=hg.yb.cell 1;have Mk:=hg.yb.free 0;have Ml:=hg.yb.free 1;have hyl:=hg.yb.lt;simp at hy0 hy1;have hfin:=hg.iV;have aF:=Lib.hid hfin;clear hfin hg hG;go_wp2_with fail
       go_meet
       exact⟨X6,X7,A2,A5,C2,C5,rfl,rfl,aF.out.1.1,Nat.le_trans hbase.size aF.out.1.2.1,Nat.le_trans hbase.size aF.out.1.2.2,aF.out.2.1,aF.out.2.2.1,aF.out.2.2.2.1,aF.out.2.2.2.2.1,hbase.trans aF.out.2.2.2.2.2 (fun _ _ h=>h)⟩
    ·refine aa rfl fun K hK=>?_
     go_simp;have hg:=hG.lI;refine hK _ _ (aZ.bu (hbase.trans hg.s (fun _ _ h=>h))) ?_;clear hK K hG;generalize wb.alloc (.cells #[.int .i64 0,.slice none 0 0] 108)=X0 at *
     generalize wb.heap.size=X6 at *
     have hG:=hg;clear hg;refine⟨?_,?_⟩
     ·refine aa rfl fun K hK=>?_
      go_simp;refine(Ci.out false _ (aX.out.trans (hbase.trans hG.s (fun _ _ h=>h)) (fun _ _ h=>h))).mono ?_;rintro e X4 ⟨A2,C2,rfl,dX⟩;have hg:=hG.Ch dX;refine hK _ _ (aZ.bu (hbase.trans hg.s (fun _ _ h=>h))) ?_;clear hK K dX hG;have hG:=hg;clear hg;refine⟨?_,?_⟩
      ·refine aa rfl fun K hK=>?_
       go_simp;refine(Ci.out true _ (aX.out.trans (hbase.trans hG.s (fun _ _ h=>h)) (fun _ _ h=>h))).mono ?_;rintro e X5 ⟨A5,C5,rfl,dX⟩;have hg:=hG.mP dX;refine hK _ _ (aZ.bu (hbase.trans hg.s (fun _ _ h=>h))) ?_;clear hK K dX hG;have hG:=hg;clear hg;refine aa rfl fun K hK=>?_
       go_simp;have hg:=hG.lJ;refine hK _ _ (aZ.bu (hbase.trans hg.s (fun _ _ h=>h))) ?_;clear hK K hG;generalize X5.alloc (.cells #[.int .i64 0,.slice none 0 0] 108)=aa4 at *
       generalize X5.heap.size=X7 at *
       have hG:=hg;clear hg;have hx0:=hG.xb.cell 0;have hx1:=hG.xb.cell 1;have vY:=hG.xb.free 0;have vZ:=hG.xb.free 1;have hxl:=hG.xb.lt;simp at hx0 hx1;refine aa rfl fun K hK=>?_
       go_simp;have hg:=hG.iU;refine hK _ _ (aZ.bu (hbase.trans hg.s (fun _ _ h=>h))) ?_;clear hK K hx0 hx1 vY vZ hxl;generalize (aa4.setCell ⟨X6,0,none⟩ (.int .i64 n)).setCell ⟨X6,1,none⟩ (.slice A2 (tab n (kU v false t.ws)).length C2)=WL at *
       have hy0:=hg.yb.cell 0;have hy1:=hg.yb.cell 1;have Mk:=hg.yb.free 0;have Ml:=hg.yb.free 1;have hyl:=hg.yb.lt;simp at hy0 hy1;have hfin:=hg.iV;have aF:=Lib.hid hfin;clear hfin hg hG;go_wp2_with fail
       go_meet
       exact⟨X6,X7,A2,A5,C2,C5,rfl,rfl,aF.out.1.1,Nat.le_trans hbase.size aF.out.1.2.1,Nat.le_trans hbase.size aF.out.1.2.2,aF.out.2.1,aF.out.2.2.1,aF.out.2.2.2.1,aF.out.2.2.2.2.1,hbase.trans aF.out.2.2.2.2.2 (fun _ _ h=>h)⟩
      ·refine aa rfl fun K hK=>?_
       go_simp;have hg:=hG.lJ;refine hK _ _ (aZ.bu (hbase.trans hg.s (fun _ _ h=>h))) ?_;clear hK K hG;generalize X4.alloc (.cells #[.int .i64 0,.slice none 0 0] 108)=acJ at *
       generalize X4.heap.size=X7 at *
       have hG:=hg;clear hg;refine aa rfl fun K hK=>?_
       go_simp;refine(Ci.out true _ (aX.out.trans (hbase.trans hG.s (fun _ _ h=>h)) (fun _ _ h=>h))).mono ?_;rintro e aa5 ⟨A5,C5,rfl,dX⟩;have hg:=hG.mP dX;refine hK _ _ (aZ.bu (hbase.trans hg.s (fun _ _ h=>h))) ?_;clear hK K dX hG;have hG:=hg;clear hg;have hx0:=hG.xb.cell 0;have hx1:=hG.xb.cell 1;have vY:=hG.xb.free 0;have vZ:=hG.xb.free 1;have hxl:=hG.xb.lt;simp at hx0 hx1;refine aa rfl fun K hK=>?_
       go_simp;have hg:=hG.iU;refine hK _ _ (aZ.bu (hbase.trans hg.s (fun _ _ h=>h))) ?_;clear hK K hx0 hx1 vY vZ hxl;generalize (aa5.setCell ⟨X6,0,none⟩ (.int .i64 n)).setCell ⟨X6,1,none⟩ (.slice A2 (tab n (kU v false t.ws)).length C2)=WL at *
       have hy0:=hg.yb.cell 0;have hy1:=hg.yb.cell 1;have Mk:=hg.yb.free 0;have Ml:=hg.yb.free 1;have hyl:=hg.yb.lt;simp at hy0 hy1;have hfin:=hg.iV;have aF:=Lib.hid hfin;clear hfin hg hG;go_wp2_with fail
       go_meet
       exact⟨X6,X7,A2,A5,C2,C5,rfl,rfl,aF.out.1.1,Nat.le_trans hbase.size aF.out.1.2.1,Nat.le_trans hbase.size aF.out.1.2.2,aF.out.2.1,aF.out.2.2.1,aF.out.2.2.2.1,aF.out.2.2.2.2.1,hbase.trans aF.out.2.2.2.2.2 (fun _ _ h=>h)⟩
     ·refine aa rfl fun K hK=>?_
      go_simp;have hg:=hG.lJ;refine hK _ _ (aZ.bu (hbase.trans hg.s (fun _ _ h=>h))) ?_;clear hK K hG;generalize X0.alloc (.cells #[.int .i64 0,.slice none 0 0] 108)=acK at *
      generalize X0.heap.size=X7 at *
      have hG:=hg;clear hg;refine aa rfl fun K hK=>?_
      go_simp;refine(Ci.out false _ (aX.out.trans (hbase.trans hG.s (fun _ _ h=>h)) (fun _ _ h=>h))).mono ?_;rintro e acL ⟨A2,C2,rfl,dX⟩;have hg:=hG.Ch dX;refine hK _ _ (aZ.bu (hbase.trans hg.s (fun _ _ h=>h))) ?_;clear hK K dX hG;have hG:=hg;clear hg;refine aa rfl fun K hK=>?_
      go_simp;refine(Ci.out true _ (aX.out.trans (hbase.trans hG.s (fun _ _ h=>h)) (fun _ _ h=>h))).mono ?_;rintro e aa6 ⟨A5,C5,rfl,dX⟩;have hg:=hG.mP dX;refine hK _ _ (aZ.bu (hbase.trans hg.s (fun _ _ h=>h))) ?_;clear hK K dX hG;have hG:=hg;clear hg;have hx0:=hG.xb.cell 0;have hx1:=hG.xb.cell 1;have vY:=hG.xb.free 0;have vZ:=hG.xb.free 1;have hxl:=hG.xb.lt;simp at hx0 hx1;refine aa rfl fun K hK=>?_
      go_simp;have hg:=hG.iU;refine hK _ _ (aZ.bu (hbase.trans hg.s (fun _ _ h=>h))) ?_;clear hK K hx0 hx1 vY vZ hxl;generalize (aa6.setCell ⟨X6,0,none⟩ (.int .i64 n)).setCell ⟨X6,1,none⟩ (.slice A2 (tab n (kU v false t.ws)).length C2)=WL at *
      have hy0:=hg.yb.cell 0;have hy1:=hg.yb.cell 1;have Mk:=hg.yb.free 0;have Ml:=hg.yb.free 1;have hyl:=hg.yb.lt;simp at hy0 hy1;have hfin:=hg.iV;have aF:=Lib.hid hfin;clear hfin hg hG;go_wp2_with fail
      go_meet
      exact⟨X6,X7,A2,A5,C2,C5,rfl,rfl,aF.out.1.1,Nat.le_trans hbase.size aF.out.1.2.1,Nat.le_trans hbase.size aF.out.1.2.2,aF.out.2.1,aF.out.2.2.1,aF.out.2.2.2.1,aF.out.2.2.2.2.1,hbase.trans aF.out.2.2.2.2.2 (fun _ _ h=>h)⟩
    ·refine aa rfl fun K hK=>?_
     go_simp;have hg:=hG.lJ;refine hK _ _ (aZ.bu (hbase.trans hg.s (fun _ _ h=>h))) ?_;clear hK K hG;generalize wb.alloc (.cells #[.int .i64 0,.slice none 0 0] 108)=X8 at *
     generalize wb.heap.size=X7 at *
     have hG:=hg;clear hg;refine⟨?_,?_⟩
     ·refine aa rfl fun K hK=>?_
      go_simp;refine(Ci.out false _ (aX.out.trans (hbase.trans hG.s (fun _ _ h=>h)) (fun _ _ h=>h))).mono ?_;rintro e X9 ⟨A2,C2,rfl,dX⟩;have hg:=hG.Ch dX;refine hK _ _ (aZ.bu (hbase.trans hg.s (fun _ _ h=>h))) ?_;clear hK K dX hG;have hG:=hg;clear hg;refine⟨?_,?_⟩
      ·refine aa rfl fun K hK=>?_
       go_simp;refine(Ci.out true _ (aX.out.trans (hbase.trans hG.s (fun _ _ h=>h)) (fun _ _ h=>h))).mono ?_;rintro e Ya ⟨A5,C5,rfl,dX⟩;have hg:=hG.mP dX;refine hK _ _ (aZ.bu (hbase.trans hg.s (fun _ _ h=>h))) ?_;clear hK K dX hG;have hG:=hg;clear hg;refine aa rfl fun K hK=>?_
       go_simp;have hg:=hG.lI;refine hK _ _ (aZ.bu (hbase.trans hg.s (fun _ _ h=>h))) ?_;clear hK K hG;generalize Ya.alloc (.cells #[.int .i64 0,.slice none 0 0] 108)=aa7 at *
       generalize Ya.heap.size=X6 at *
       have hG:=hg;clear hg;have hx0:=hG.xb.cell 0;have hx1:=hG.xb.cell 1;have vY:=hG.xb.free 0;have vZ:=hG.xb.free 1;have hxl:=hG.xb.lt;simp at hx0 hx1;refine aa rfl fun K hK=>?_
       go_simp;have hg:=hG.iU;refine hK _ _ (aZ.bu (hbase.trans hg.s (fun _ _ h=>h))) ?_;clear hK K hx0 hx1 vY vZ hxl;generalize (aa7.setCell ⟨X6,0,none⟩ (.int .i64 n)).setCell ⟨X6,1,none⟩ (.slice A2 (tab n (kU v false t.ws)).length C2)=WL at *
       have hy0:=hg.yb.cell 0;have hy1:=hg.yb.cell 1;have Mk:=hg.yb.free 0;have Ml:=hg.yb.free 1;have hyl:=hg.yb.lt;simp at hy0 hy1;have hfin:=hg.iV;have aF:=Lib.hid hfin;clear hfin hg hG;go_wp2_with fail
       go_meet
       exact⟨X6,X7,A2,A5,C2,C5,rfl,rfl,aF.out.1.1,Nat.le_trans hbase.size aF.out.1.2.1,Nat.le_trans hbase.size aF.out.1.2.2,aF.out.2.1,aF.out.2.2.1,aF.out.2.2.2.1,aF.out.2.2.2.2.1,hbase.trans aF.out.2.2.2.2.2 (fun _ _ h=>h)⟩
      ·refine aa rfl fun K hK=>?_
       go_simp;have hg:=hG.lI;refine hK _ _ (aZ.bu (hbase.trans hg.s (fun _ _ h=>h))) ?_;clear hK K hG;generalize X9.alloc (.cells #[.int .i64 0,.slice none 0 0] 108)=acM at *
       generalize X9.heap.size=X6 at *
       have hG:=hg;clear hg;refine aa rfl fun K hK=>?_
       go_simp;refine(Ci.out true _ (aX.out.trans (hbase.trans hG.s (fun _ _ h=>h)) (fun _ _ h=>h))).mono ?_;rintro e aa8 ⟨A5,C5,rfl,dX⟩;have hg:=hG.mP dX;refine hK _ _ (aZ.bu (hbase.trans hg.s (fun _ _ h=>h))) ?_;clear hK K dX hG;have hG:=hg;clear hg;have hx0:=hG.xb.cell 0;have hx1:=hG.xb.cell 1;have vY:=hG.xb.free 0;have vZ:=hG.xb.free 1;have hxl:=hG.xb.lt;simp at hx0 hx1;refine aa rfl fun K hK=>?_
       go_simp;have hg:=hG.iU;refine hK _ _ (aZ.bu (hbase.trans hg.s (fun _ _ h=>h))) ?_;clear hK K hx0 hx1 vY vZ hxl;generalize (aa8.setCell ⟨X6,0,none⟩ (.int .i64 n)).setCell ⟨X6,1,none⟩ (.slice A2 (tab n (kU v false t.ws)).length C2)=WL at *
       have hy0:=hg.yb.cell 0;have hy1:=hg.yb.cell 1;have Mk:=hg.yb.free 0;have Ml:=hg.yb.free 1;have hyl:=hg.yb.lt;simp at hy0 hy1;have hfin:=hg.iV;have aF:=Lib.hid hfin;clear hfin hg hG;go_wp2_with fail
       go_meet
       exact⟨X6,X7,A2,A5,C2,C5,rfl,rfl,aF.out.1.1,Nat.le_trans hbase.size aF.out.1.2.1,Nat.le_trans hbase.size aF.out.1.2.2,aF.out.2.1,aF.out.2.2.1,aF.out.2.2.2.1,aF.out.2.2.2.2.1,hbase.trans aF.out.2.2.2.2.2 (fun _ _ h=>h)⟩
     ·refine aa rfl fun K hK=>?_
      go_simp;have hg:=hG.lI;refine hK _ _ (aZ.bu (hbase.trans hg.s (fun _ _ h=>h))) ?_;clear hK K hG;generalize X8.alloc (.cells #[.int .i64 0,.slice none 0 0] 108)=acN at *
      generalize X8.heap.size=X6 at *
      have hG:=hg;clear hg;refine aa rfl fun K hK=>?_
      go_simp;refine(Ci.out false _ (aX.out.trans (hbase.trans hG.s (fun _ _ h=>h)) (fun _ _ h=>h))).mono ?_;rintro e acO ⟨A2,C2,rfl,dX⟩;have hg:=hG.Ch dX;refine hK _ _ (aZ.bu (hbase.trans hg.s (fun _ _ h=>h))) ?_;clear hK K dX hG;have hG:=hg;clear hg;refine aa rfl fun K hK=>?_
      go_simp;refine(Ci.out true _ (aX.out.trans (hbase.trans hG.s (fun _ _ h=>h)) (fun _ _ h=>h))).mono ?_;rintro e aa9 ⟨A5,C5,rfl,dX⟩;have hg:=hG.mP dX;refine hK _ _ (aZ.bu (hbase.trans hg.s (fun _ _ h=>h))) ?_;clear hK K dX hG;have hG:=hg;clear hg;have hx0:=hG.xb.cell 0;have hx1:=hG.xb.cell 1;have vY:=hG.xb.free 0;have vZ:=hG.xb.free 1;have hxl:=hG.xb.lt;simp at hx0 hx1;refine aa rfl fun K hK=>?_
      go_simp;have hg:=hG.iU;refine hK _ _ (aZ.bu (hbase.trans hg.s (fun _ _ h=>h))) ?_;clear hK K hx0 hx1 vY vZ hxl;generalize (aa9.setCell ⟨X6,0,none⟩ (.int .i64 n)).setCell ⟨X6,1,none⟩ (.slice A2 (tab n (kU v false t.ws)).length C2)=WL at *
      have hy0:=hg.yb.cell 0;have hy1:=hg.yb.cell 1;have Mk:=hg.yb.free 0;have Ml:=hg.yb.free 1;have hyl:=hg.yb.lt;simp at hy0 hy1;have hfin:=hg.iV;have aF:=Lib.hid hfin;clear hfin hg hG;go_wp2_with fail
      go_meet
      exact⟨X6,X7,A2,A5,C2,C5,rfl,rfl,aF.out.1.1,Nat.le_trans hbase.size aF.out.1.2.1,Nat.le_trans hbase.size aF.out.1.2.2,aF.out.2.1,aF.out.2.2.1,aF.out.2.2.2.1,aF.out.2.2.2.2.1,hbase.trans aF.out.2.2.2.2.2 (fun _ _ h=>h)⟩
   case rest =>
    obtain⟨X,Y,Af,At,Cf,Ct,rfl,rfl,hXY,hXs,hYs,Mc,hYb,hOf,hOt,hsx⟩:=hcut
    rename World=>w2
    have hstep:gU n ((ts.take (k+1)).map Tb.ws) v=addN (addN (gU n ((ts.take k).map Tb.ws) v) (rR n v false t.ws)) (rR n v true t.ws):=by
     rw[List.take_add_one,HT.out];unfold gU;simp
    have HST:=Lib.hid hstep;have hs2:Same wr w2:=aX.out.trans hsx (fun _ _ h=>h);have hq:GQ w w2 n A' C' us X Y ⟨n,Af,Cf,tab n (kU v false t.ws)⟩ ⟨n,At,Ct,tab n (kU v true t.ws)⟩ :=
     ⟨HN.out.same hs2,HS.out.trans hs2 (fun _ _ h=>h),Mc,hYb,fun b hb=>by obtain⟨ad,had,rfl⟩:=hb;have:=HN.out.own.block ad had;have:=aX.out.size;omega,⟨rfl,hOf,gG hn16,kX⟩,⟨rfl,hOt,gG hn16,kX⟩⟩
    have HQ:=Lib.hid hq;clear hstep hs2 hq Mc hYb hOf hOt hsx Ci HX hXs hYs c0 c1 x0 x1 hxl;generalize hzf:tab n (kU v false t.ws)=zf at *
    generalize hzt:tab n (kU v true t.ws)=zt at *
    have HZF:Hid (rR n v false t.ws=zf):=Lib.hid hzf;have HZT:Hid (rR n v true t.ws=zt):=Lib.hid hzt;clear hzf hzt;have hin:=fun w' (hw:Same w2 w')=>nO (w:=w') (n:=n) (t:=⟨n,Af,Cf,zf⟩) (C:=C') (HQ.out.tn.tl.same hw) (HQ.out.tf.same hw) (by first | omega | (simp <;> omega))
    unfold Tb.val at hin;simp only at hin;obtain⟨bb1,hbb⟩:∃ bb,decide (zf∈List.map Tb.ws (us))=bb:=⟨_,rfl⟩;rw[hbb] at hin
    try simp only[List.length_append,List.length_cons,List.length_nil,Nat.zero_add] at hin
    have zR:=Lib.hid hin;have PE:=Lib.hid hbb;clear hin hbb;have x0:=HQ.out.x.cell 0;have x1:=HQ.out.x.cell 1;have hxl:=HQ.out.x.lt;simp at x0 x1;go_wp2_with (fail)
    refine(zR.out _ (ah.refl _ _)).mono ?_;rintro e v1 ⟨rfl,hs3⟩;have hq:=HQ.out.later hs3;have x0:=hq.x.cell 0;have x1:=hq.x.cell 1;have hxl:=hq.x.lt;simp at x0 x1;have HQ1:=Lib.hid hq;clear hs3 hq zR HQ;cases bb1 with
    | true =>
     have HQ:=HQ1;clear HQ1;have hin:=fun w' (hw:Same v1 w')=>nO (w:=w') (n:=n) (t:=⟨n,At,Ct,zt⟩) (C:=C') (HQ.out.tn.tl.same hw) (HQ.out.tt.same hw) (by first | omega | (simp <;> omega))
     unfold Tb.val at hin;simp only at hin;obtain⟨bb2,hbb⟩:∃ bb,decide (zt∈List.map Tb.ws (us))=bb:=⟨_,rfl⟩;rw[hbb] at hin
     try simp only[List.length_append,List.length_cons,List.length_nil,Nat.zero_add] at hin
     have zR:=Lib.hid hin;have Yb:=Lib.hid hbb;clear hin hbb;have x0:=HQ.out.y.cell 0;have x1:=HQ.out.y.cell 1;have hxl:=HQ.out.y.lt;simp at x0 x1;go_wp2_with (fail)
     refine(zR.out _ (ah.refl _ _)).mono ?_;rintro e v2 ⟨rfl,hs3⟩;have hq:=HQ.out.later hs3;have x0:=hq.y.cell 0;have x1:=hq.y.cell 1;have hxl:=hq.y.lt;simp at x0 x1;have HQ2:=Lib.hid hq;clear hs3 hq zR HQ;cases bb2 with
     | true =>
      go_wp2;go_roundw
      case rel =>
       have e1:gU n ((ts.take (k+1)).map Tb.ws) v=List.map Tb.ws (us):=by
        have i1:addN (List.map Tb.ws us) zf=List.map Tb.ws (us):=by rw[uw PE.out];try simp
        have i2:addN (List.map Tb.ws (us)) zt=List.map Tb.ws (us):=by rw[uw Yb.out];try simp
        rw[HST.out,← HU.out,HZF.out,HZT.out,i1,i2]
       exact⟨k+1,A',C',us,by omega,by go_num,by first | rfl | (simp;done),HQ2.out.tn,e1.symm,by first | omega | (simp <;> omega),HQ2.out.s⟩
      case measure=>simp[intOf] <;> omega
     | false =>
      go_upto_region 9 with fail
      refine aV 2 ?_;simp only[List.take_succ_cons,List.take_zero,List.drop_succ_cons,List.drop_zero];repeat (any_goals (first | go_big_quiet_step (fail) | quiet_step (fail)))
      refine wpQuiet_nil ?_;refine wpList_plain rfl fun K hK=>?_
      go_simp;refine hK _ _ ?_;clear hK K;refine aQ fun wa dR=>?_
      have hM:=ax.new v2 108 #[.int .i64 n,.slice At zt.length Ct];have hsa:Same v2 wa:=by rw[dR];exact(ah.refl _ _).alloc _
      rw[← dR] at hM;clear dR;have GA:=HQ2.out.later hsa;have hown:=GA.tn.own
      try simp only[List.length_append,List.length_cons,List.length_nil,Nat.zero_add] at hown
      refine Own.aR rfl (.tmp 34) (.tmp 36) _ rfl Tryz.underlying55 fq rfl (by omega) rfl hown Tb.ak ⟨n,At,Ct,zt⟩ v2.heap.size 1 rfl hM (by simp[Value.oneCell',Tb.cells]) (by unfold maxLen;first | omega | (simp <;> omega)) (by first | omega | (simp <;> omega)) ?_;intro Rh cap2 v2p hOb hgb hat;have Mm:=GA.push GA.tt (by first | rfl | simp) hOb hgb hat;have Yc:=Lib.hid Mm;clear hown hOb hgb hat GA Mm hM hsa HQ2;go_wp2;go_roundw
      case rel =>
       have e1:gU n ((ts.take (k+1)).map Tb.ws) v=List.map Tb.ws (us++[⟨n,At,Ct,zt⟩]):=by
        have i1:addN (List.map Tb.ws us) zf=List.map Tb.ws (us):=by rw[uw PE.out];try simp
        have i2:addN (List.map Tb.ws (us)) zt=List.map Tb.ws (us++[⟨n,At,Ct,zt⟩]):=by rw[qp Yb.out];try simp
        rw[HST.out,← HU.out,HZF.out,HZT.out,i1,i2]
       exact⟨k+1,(some ⟨Rh,0,none⟩),cap2,us++[⟨n,At,Ct,zt⟩],by omega,by go_num,by first | rfl | (simp;done),Yc.out.tn,e1.symm,by first | omega | (simp <;> omega),Yc.out.s⟩
      case measure=>simp[intOf] <;> omega
    | false =>
     go_upto_region 7 with fail
     refine aV 2 ?_;simp only[List.take_succ_cons,List.take_zero,List.drop_succ_cons,List.drop_zero];repeat (any_goals (first | go_big_quiet_step (fail) | quiet_step (fail)))
     refine wpQuiet_nil ?_;refine wpList_plain rfl fun K hK=>?_
     go_simp;refine hK _ _ ?_;clear hK K;refine aQ fun wa dR=>?_
     have hM:=ax.new v1 108 #[.int .i64 n,.slice Af zf.length Cf];have hsa:Same v1 wa:=by rw[dR];exact(ah.refl _ _).alloc _
     rw[← dR] at hM;clear dR;have GA:=HQ1.out.later hsa;have hown:=GA.tn.own
     try simp only[List.length_append,List.length_cons,List.length_nil,Nat.zero_add] at hown
     refine Own.aR rfl (.tmp 26) (.tmp 28) _ rfl Tryz.underlying55 fq rfl (by omega) rfl hown Tb.ak ⟨n,Af,Cf,zf⟩ v1.heap.size 1 rfl hM (by simp[Value.oneCell',Tb.cells]) (by unfold maxLen;first | omega | (simp <;> omega)) (by first | omega | (simp <;> omega)) ?_;intro gg1 Yd v1p hOb hgb hat;have Mm:=GA.push GA.tf (by first | rfl | simp) hOb hgb hat;have Ye:=Lib.hid Mm;clear hown hOb hgb hat GA Mm hM hsa HQ1;have HQ:=Ye;clear Ye;have hin:=fun w' (hw:Same v1p w')=>nO (w:=w') (n:=n) (t:=⟨n,At,Ct,zt⟩) (C:=Yd) (HQ.out.tn.tl.same hw) (HQ.out.tt.same hw) (by first | omega | (simp <;> omega))
     unfold Tb.val at hin;simp only at hin;obtain⟨bb3,hbb⟩:∃ bb,decide (zt∈List.map Tb.ws (us++[⟨n,Af,Cf,zf⟩]))=bb:=⟨_,rfl⟩;rw[hbb] at hin
     try simp only[List.length_append,List.length_cons,List.length_nil,Nat.zero_add] at hin
     have zR:=Lib.hid hin;have Yf:=Lib.hid hbb;clear hin hbb;have x0:=HQ.out.y.cell 0;have x1:=HQ.out.y.cell 1;have hxl:=HQ.out.y.lt;simp at x0 x1;go_wp2_with (fail)
     refine(zR.out _ (ah.refl _ _)).mono ?_;rintro e v3 ⟨rfl,hs3⟩;have hq:=HQ.out.later hs3;have x0:=hq.y.cell 0;have x1:=hq.y.cell 1;have hxl:=hq.y.lt;simp at x0 x1;have HQ3:=Lib.hid hq;clear hs3 hq zR HQ;cases bb3 with
     | true =>
      go_wp2;go_roundw
      case rel =>
       have e1:gU n ((ts.take (k+1)).map Tb.ws) v=List.map Tb.ws (us++[⟨n,Af,Cf,zf⟩]):=by
        have i1:addN (List.map Tb.ws us) zf=List.map Tb.ws (us++[⟨n,Af,Cf,zf⟩]):=by rw[qp PE.out];try simp
        have i2:addN (List.map Tb.ws (us++[⟨n,Af,Cf,zf⟩])) zt=List.map Tb.ws (us++[⟨n,Af,Cf,zf⟩]):=by rw[uw Yf.out];try simp
        rw[HST.out,← HU.out,HZF.out,HZT.out,i1,i2]
       exact⟨k+1,(some ⟨gg1,0,none⟩),Yd,us++[⟨n,Af,Cf,zf⟩],by omega,by go_num,by first | rfl | (simp;done),HQ3.out.tn,e1.symm,by first | omega | (simp <;> omega),HQ3.out.s⟩
      case measure=>simp[intOf] <;> omega
     | false =>
      go_upto_region 9 with fail
      refine aV 2 ?_;simp only[List.take_succ_cons,List.take_zero,List.drop_succ_cons,List.drop_zero];repeat (any_goals (first | go_big_quiet_step (fail) | quiet_step (fail)))
      refine wpQuiet_nil ?_;refine wpList_plain rfl fun K hK=>?_
      go_simp;refine hK _ _ ?_;clear hK K;refine aQ fun wa dR=>?_
      have hM:=ax.new v3 108 #[.int .i64 n,.slice At zt.length Ct];have hsa:Same v3 wa:=by rw[dR];exact(ah.refl _ _).alloc _
      rw[← dR] at hM;clear dR;have GA:=HQ3.out.later hsa;have hown:=GA.tn.own
      try simp only[List.length_append,List.length_cons,List.length_nil,Nat.zero_add] at hown
      refine Own.aR rfl (.tmp 34) (.tmp 36) _ rfl Tryz.underlying55 fq rfl (by omega) rfl hown Tb.ak ⟨n,At,Ct,zt⟩ v3.heap.size 1 rfl hM (by simp[Value.oneCell',Tb.cells]) (by unfold maxLen;first | omega | (simp <;> omega)) (by first | omega | (simp <;> omega)) ?_;intro Ve Jd v3p hOb hgb hat;have Mm:=GA.push GA.tt (by first | rfl | simp) hOb hgb hat;have Yg:=Lib.hid Mm;clear hown hOb hgb hat GA Mm hM hsa HQ3;go_wp2;go_roundw
      case rel =>
       have e1:gU n ((ts.take (k+1)).map Tb.ws) v=List.map Tb.ws (us++[⟨n,Af,Cf,zf⟩]++[⟨n,At,Ct,zt⟩]):=by
        have i1:addN (List.map Tb.ws us) zf=List.map Tb.ws (us++[⟨n,Af,Cf,zf⟩]):=by rw[qp PE.out];try simp
        have i2:addN (List.map Tb.ws (us++[⟨n,Af,Cf,zf⟩])) zt=List.map Tb.ws ((us++[⟨n,Af,Cf,zf⟩])++[⟨n,At,Ct,zt⟩]):=by rw[qp Yf.out];try simp
        rw[HST.out,← HU.out,HZF.out,HZT.out,i1,i2]
       exact⟨k+1,(some ⟨Ve,0,none⟩),Jd,us++[⟨n,Af,Cf,zf⟩]++[⟨n,At,Ct,zt⟩],by omega,by go_num,by first | rfl | (simp;done),Yg.out.tn,e1.symm,by first | omega | (simp <;> omega),Yg.out.s⟩
      case measure=>simp[intOf] <;> omega
  ·obtain rfl:k=ts.length:=by omega
   have hI:¬ ((ts.length:Nat):Int)<(ts.length:Int):=by omega
   have HN:=Lib.hid hN;have HU:=Lib.hid l6;have HS:=Lib.hid hS;clear hN l6 hS;go_wp2;go_ret;exact⟨A',C',us,rfl,HN.out,by have:=HU.out;rwa [List.take_length] at this,qY,HS.out⟩
end
structure jm where
 A:Option Addr
 C:Nat
 ts:List Tb
def jm.cells (r:jm):List Value:=[.slice r.A r.ts.length r.C]
theorem jm.ak (r:jm):r.cells.length=1:=rfl
theorem Je:(Tryz.prog.info? 55).map (fun i=>(i.zero,i.size,i.bytes))=some (some (.slice none 0 0),1,24):=by kernel_rfl
def lK (n:Nat) (s:List (List (List Nat))×List (List Nat)) (v:Int):List (List (List Nat))×List (List Nat):=(s.1++[iT n s.2 v.toNat],gU n s.2 v.toNat)
def aM (n:Nat) (zs:List (List Nat)) (ord:List Int):List (List (List Nat)):=(ord.foldl (lK n) ([],dP zs)).1
def Cj (n:Nat) (zs:List (List Nat)) (ord:List Int):Nat:=((aM n zs ord).map List.length).sum
structure LN (lo:Nat) (w:World) (n:Nat) (A:Option Addr) (C:Nat) (rs:List jm):Prop where
 own:Go.Tk.Own w 55 1 jm.cells A rs.length C rs
 tn:∀ r∈rs,TN lo w n r.A r.C r.ts
 fresh:bQ lo A
def lz (rs:List jm):List (List (List Nat)):=rs.map fun r=>r.ts.map Tb.ws
theorem TN.lower {lo lo':Nat} {w:World} {n:Nat} {A:Option Addr} {C:Nat} {ts:List Tb} (h:TN lo w n A C ts) (hl:lo'≤lo):TN lo' w n A C ts:=⟨h.own,h.tw,fun b hb=>Nat.le_trans hl (h.fresh b hb)⟩
theorem Ck {α β:Type} (f:β→α→β) (s:β) {l:List α} {i:Nat} {c:α} (h:l[i]?=some c):(l.take (i+1)).foldl f s=f ((l.take i).foldl f s) c:=by
 rw[List.take_add_one,h];simp
section
variable {w w':World} {n:Nat} {A:Option Addr} {C:Nat} {ts:List Tb} {rs:List jm} {lo:Nat}
theorem LN.same (h:LN lo w n A C rs) (hs:Same w w'):LN lo w' n A C rs:=⟨h.own.ag hs (fun _ _=>id),fun r hr=>(h.tn r hr).same hs,h.fresh⟩
theorem LN.push (h:LN lo w n A C rs) {r:jm} (hr:TN lo w n r.A r.C r.ts) {wb:World} {g cap:Nat} (hO:Go.Tk.Own wb 55 1 jm.cells (some ⟨g,0,none⟩) (rs.length+1) cap (rs++[r])) (hg:w.grownBy wb (Value.slice A rs.length C).ownBlock)
  (hat:(Value.slice A rs.length C).ownBlock=some g∨g=w.heap.size) (hlo:lo≤w.heap.size):LN lo wb n (some ⟨g,0,none⟩) cap (rs++[r]):=by
 have kp:∀ u,TW w n u→TW wb n u:=fun u hu=>⟨hu.N,hu.own.gH hg (fun b hb hA=>h.own.aL hu.own (by decide) b (af.1 hb) hA),hu.fm,hu.sm⟩
 have kt:∀ q:jm,TN lo w n q.A q.C q.ts→TN lo wb n q.A q.C q.ts:=fun q hq=>⟨hq.own.gH hg (fun b hb hA=>h.own.aL hq.own (by decide) b (af.1 hb) hA),fun t ht=>kp t (hq.tw t ht),hq.fresh⟩
 refine⟨by rw[List.length_append];exact hO,fun q hq=>?_,bR ?_⟩
 ·rcases List.mem_append.1 hq with hq | hq
  ·exact kt q (h.tn q hq)
  ·simp at hq;subst hq;exact kt _ hr
 ·rcases hat with h1 | h1
  ·exact h.fresh g (af.1 h1)
  ·omega
theorem eu (n:Nat):∀ (ord:List Int) (s:List (List (List Nat))×List (List Nat)),(ord.foldl (lK n) s).1.length=s.1.length+ord.length
 | [],s=>rfl
 | v::ord,s=>by rw[List.foldl_cons,eu n ord];simp[lK] <;> omega
theorem wm (zs:List (List Nat)):(dP zs).length≤zs.length:=by
 unfold dP
 have:∀ (l s:List (List Nat)),(l.foldl addN s).length≤s.length+l.length:=by
  intro l
  induction l with
  | nil=>intro s;simp
  | cons z l ih=>intro s;rw[List.foldl_cons];have:=ih (addN s z);have:=vX s z;simp only[List.length_cons];omega
 have:=this zs []
 simpa using this
theorem Jf (n:Nat) (zs:List (List Nat)) (v:Nat):(gU n zs v).length≤2*zs.length:=by
 unfold gU
 have:∀ (l s:List (List Nat)),(l.foldl (fun l z=>addN (addN l (rR n v false z)) (rR n v true z)) s).length≤s.length+2*l.length:=by
  intro l
  induction l with
  | nil=>intro s;simp
  | cons z l ih =>
   intro s;rw[List.foldl_cons];have h1:=ih (addN (addN s (rR n v false z)) (rR n v true z));have h2:=vX (addN s (rR n v false z)) (rR n v true z);have h3:=vX s (rR n v false z);simp only[List.length_cons];omega
 have:=this zs []
 simpa using this
theorem gp (n:Nat) (zs:List (List Nat)) (hz:zs.length≤2000000) (ord:List Int) (hol:ord.length≤16):∀ z∈aM n zs ord,z.length≤131072000000:=by
 have key:∀ (o:List Int) (i:Nat) (s:List (List (List Nat))×List (List Nat)),i+o.length≤16→s.2.length≤2 ^ i*2000000→(∀ z∈s.1,z.length≤131072000000)→∀ z∈(o.foldl (lK n) s).1,z.length≤131072000000:=by
  intro o
  induction o with
  | nil=>intro i s _ _ h;exact h
  | cons v o ih =>
   intro i s hi hs h;simp only[List.length_cons] at hi;rw[List.foldl_cons];have hp:2 ^ i≤65536:=by
    have:2 ^ i≤2 ^ 16:=Nat.pow_le_pow_right (by omega) (by omega)
    omega
   refine ih (i+1) _ (by omega) ?_ ?_
   ·have:=Jf n s.2 v.toNat
    show(gU n s.2 v.toNat).length≤_;rw[Nat.pow_succ];omega
   ·intro z hz;replace hz:z∈s.1++[iT n s.2 v.toNat]:=hz;rcases List.mem_append.1 hz with hz | hz
    ·exact h z hz
    ·simp at hz;subst hz
     have:(iT n s.2 v.toNat).length≤s.2.length:=List.length_filter_le _ _
     have h3:2 ^ i*2000000≤65536*2000000:=Nat.mul_le_mul_right _ hp;omega
 have h0:(dP zs).length≤2 ^ 0*2000000:=by
  have:=wm zs
  omega
 have h1:∀ z∈(([]:List (List (List Nat))),dP zs).1,z.length≤131072000000:=by
  intro z hz;cases hz
 exact key ord 0 ([],dP zs) (by omega) h0 h1
theorem nP (l:List (List (List Nat))) (b:Nat) (h:∀ z∈l,z.length≤b) (k:Nat):((l.take k).map List.length).sum≤k*b:=by
 induction l generalizing k with
 | nil=>simp
 | cons z l ih =>
  cases k with
  | zero=>simp
  | succ k =>
   have h1:=ih (fun q hq=>h q (List.mem_cons_of_mem _ hq)) k;have h2:=h z (List.mem_cons_self ..);simp only[List.take_succ_cons,List.map_cons,List.sum_cons];rw[Nat.add_mul];omega
theorem mQ (hL:TL w n A ts) (hn:n≤16) (hl:ts.length≤2000000) {O:Option Addr} {OC:Nat} {ord:List Int} (hO:IL w O ord.length ord) (hv:∀ v∈ord,0≤v∧v<n) (hol:ord.length≤16) :
  Calls Tryz.prog 116 #[.slice A ts.length C,.slice O ord.length OC] w fun e w'=>∃ A' C' rs,e=.returned (.slice A' rs.length C')∧LN w.heap.size w' n A' C' rs∧lz rs=aM n (ts.map Tb.ws) ord∧Same w w':=by
 have HL:=Lib.hid hL;have HO:=Lib.hid hO;have HV:=Lib.hid hv;have hu:=sP (C:=C) hL (by omega);have HU:=Lib.hid hu;clear hL hO hv hu;go_enter Tryz.func116,Tryz.ntmps116;go_wp2_with (fail)
 refine HU.out.mono ?_;rintro e w1 ⟨A1,C1,UN,rfl,hN1,hu1,hl1,hs1⟩;have Br:=Lib.hid hN1;have SV:=Lib.hid hu1;have aX:=Lib.hid hs1;clear hN1 hu1 hs1;go_wp2_with (fail)
 go_loopw [13,5,6] (fun i a c wr=>∃ (k:Nat) (A':Option Addr) (C':Nat) (rs:List jm) (B:Option Addr) (D:Nat) (us:List Tb),k≤ord.length∧i=.int .i64 k∧a=.slice A' rs.length C'∧c=.slice B us.length D∧LN w.heap.size wr n A' C' rs∧TN w.heap.size wr n B D us∧
  (lz rs,us.map Tb.ws)=(ord.take k).foldl (lK n) ([],dP (ts.map Tb.ws))∧us.length≤2 ^ k*2000000∧rs.length=k∧Same w wr) (fun i _ _ _=>ord.length-(intOf i).toNat)
 case atStart=>exact⟨0,none,0,[],A1,C1,UN,by omega,rfl,rfl,rfl,⟨Own.nil _ _ _ _,(fun _ h=>by cases h),aS _⟩,Br.out,by rw[SV.out];rfl,by omega,rfl,aX.out⟩
 case round =>
  obtain⟨k,A',C',rs,B,D,us,hk,rfl,rfl,rfl,qw,hTN,hst,qY,hrl,hS⟩:=hrel;by_cases hlt:k<ord.length
  ·obtain⟨v,hv⟩:∃ v,ord[k]?=some v:=⟨_,List.getElem?_eq_getElem hlt⟩;obtain⟨v0,v1⟩:=HV.out v (List.mem_of_getElem? hv);obtain⟨m,rfl⟩:=Int.eq_ofNat_of_zero_le v0;have hil:IL wr O ord.length ord:=Sl.same HO.out hS;obtain⟨ob,off,rfl,hob,hoc⟩:=hil.dQ hv;have hI:(k:Int)<(ord.length:Int):=by omega
   have hp:2 ^ k≤65536:=by
    have:2 ^ k≤2 ^ 16:=Nat.pow_le_pow_right (by omega) (by omega)
    omega
   have aba:us.length≤131072000000:=Nat.le_trans qY (by omega);have hnd:=fun w' (hw:Same wr w')=>EK (w:=w') (C:=D) (hTN.tl.same hw) m (by omega) (by omega)
   have hstep:(ord.take (k+1)).foldl (lK n) ([],dP (ts.map Tb.ws))=(lz rs++[iT n (us.map Tb.ws) m],gU n (us.map Tb.ws) m):=by
    rw[Ck _ _ hv,← hst];simp[lK]
   have Le:=Lib.hid hnd;have HST:=Lib.hid hstep;have Av:=Lib.hid qw;have K4:=Lib.hid hTN;have HS:=Lib.hid hS;have HP:Hid (2*us.length≤2 ^ (k+1)*2000000):=Lib.hid (by rw[Nat.pow_succ];omega);clear hv hil hnd hstep qw hTN hst hS hp qY;have um:=Lib.hid hrl;clear hrl;go_upto_region 6 with fail
   refine aV 3 ?_;simp only[List.take_succ_cons,List.take_zero,List.drop_succ_cons,List.drop_zero];repeat (any_goals (first | go_big_quiet_step (fail) | quiet_step (fail)))
   refine wpQuiet_nil ?_;refine wpList_plain rfl fun K hK=>?_
   go_simp;refine(Le.out _ (ah.refl _ _)).mono ?_;rintro e w2 ⟨A2,C2,us2,rfl,Mo,hu2,hl2,hs2⟩;refine hK _ _ ?_;clear hK K;have FQ:=Lib.hid Mo;have Ij:=Lib.hid hu2;have HS2:=Lib.hid hs2;clear Mo hu2 hs2;refine wpList_plain rfl fun K hK=>?_
   go_simp;refine hK _ _ ?_;clear hK K;refine aQ fun wa dR=>?_
   have hM:=ax.new w2 55 #[.slice A2 us2.length C2];have hsa:Same w2 wa:=by rw[dR];exact(ah.refl _ _).alloc _
   rw[← dR] at hM;clear dR;have hra:Same wr wa:=HS2.out.trans hsa (fun _ _ h=>h);have Ri:=Av.out.same hra;refine Own.aR rfl (.tmp 17) (.tmp 21) _ rfl Tryz.underlying126 Je rfl (by omega) rfl Ri.own jm.ak ⟨A2,C2,us2⟩ w2.heap.size 1 rfl hM (by simp[Value.oneCell',jm.cells]) (by have:=um.out;unfold maxLen;omega) (by have:=um.out;omega) ?_;intro gg cap wb hOb hgb hat;have hzw:w.heap.size≤wr.heap.size:=HS.out.size;have hza:w.heap.size≤wa.heap.size:=Nat.le_trans hzw hra.size;have hpl:=Ri.push (r:=⟨A2,C2,us2⟩) ((FQ.out.same hsa).lower hzw) hOb hgb hat hza;have NW:=K4.out.same hra
   have OJ:TN w.heap.size wb n B D us:=⟨NW.own.gH hgb (fun b hb hA=>Ri.own.aL NW.own (by decide) b (af.1 hb) hA),fun t ht=>by
    have hu:=NW.tw t ht
    exact⟨hu.N,hu.own.gH hgb (fun b hb hA=>Ri.own.aL hu.own (by decide) b (af.1 hb) hA),hu.fm,hu.sm⟩,NW.fresh⟩
   have hSb:Same w wb:=(HS.out.trans hra (fun _ _ h=>h)).grown hgb (fun g hg=>.inr (Ri.fresh g (af.1 hg)));have hgv:=fun w' (hw:Same wb w')=>EL (w:=w') (C:=D) (OJ.tl.same hw) m (by omega) (by omega) hn
   have HGV:=Lib.hid hgv;have HPL:=Lib.hid hpl;have kS:=Lib.hid hSb;clear hOb hgb hat Ri NW OJ hSb hpl hM hsa hra hgv;go_wp2_with (fail)
   refine(HGV.out _ (ah.refl _ _)).mono ?_;rintro e w3 ⟨A3,C3,us3,rfl,Yh,hu3,hl3,hs3⟩;have Ls:=Lib.hid Yh;have xM:=Lib.hid hu3;have dY:=Lib.hid hs3;have HL3:=Lib.hid hl3;clear Yh hu3 hs3 hl3;go_wp2;go_roundw
   case rel =>
    refine⟨k+1,some ⟨gg,0,none⟩,cap,rs++[⟨A2,C2,us2⟩],A3,C3,us3,by omega,by go_num,by rw[List.length_append];rfl,rfl,HPL.out.same dY.out,Ls.out.lower kS.out.size,?_,Nat.le_trans HL3.out HP.out,by rw[List.length_append,um.out];rfl,kS.out.trans dY.out (fun _ _ h=>h)⟩;rw[HST.out,xM.out];congr 1;unfold lz;rw[List.map_append,← Ij.out];rfl
   case measure=>simp[intOf] <;> omega
  ·obtain rfl:k=ord.length:=by omega
   have hI:¬ ((ord.length:Nat):Int)<(ord.length:Int):=by omega
   have Av:=Lib.hid qw;have HST:=Lib.hid hst;have HS:=Lib.hid hS;have um:=Lib.hid hrl;clear qw hst hS hTN hrl;go_wp2;go_ret;refine⟨A',C',rs,rfl,Av.out,?_,HS.out⟩
   have:=HST.out
   rw[List.take_length] at this;exact congrArg (·.1) this
theorem kr (rs:List jm):(lz rs).length=rs.length:=by simp[lz]
theorem Jg (hL:TL w n A ts) (hn:n≤16) (hl:ts.length≤2000000) {O:Option Addr} {OC:Nat} {ord:List Int} (hO:IL w O ord.length ord) (hv:∀ v∈ord,0≤v∧v<n) (hol:ord.length≤16) :
  Calls Tryz.prog 142 #[.slice A ts.length C,.slice O ord.length OC] w fun e w'=>e=.returned (.int .i64 (Cj n (ts.map Tb.ws) ord))∧Same w w':=by
 have hv2:=mQ (C:=C) (OC:=OC) hL hn hl hO hv hol;have HV:=Lib.hid hv2;have hsz:∀ z∈aM n (ts.map Tb.ws) ord,z.length≤131072000000:=gp n _ (by rw[List.length_map];exact hl) ord hol;have hll:(aM n (ts.map Tb.ws) ord).length=ord.length:=by unfold aM;rw[eu];simp
 have tJ:=Lib.hid hsz;have NZ:=Lib.hid hll;clear hL hO hv hv2 hsz hll;go_enter Tryz.func142,Tryz.ntmps142;go_wp2_with (fail)
 refine HV.out.mono ?_;rintro e w1 ⟨A1,C1,rs,rfl,qw,hlz,hs1⟩;have Av:=Lib.hid qw;have Jh:=Lib.hid hlz;have aX:=Lib.hid hs1;have hrl:rs.length≤16:=by have:=NZ.out;rw[← hlz,kr] at this;omega
 clear qw hlz hs1;go_wp2_with (fail)
 go_loopw [12,5] (fun i a wr=>∃ k:Nat,k≤rs.length∧i=.int .i64 k∧a=.int .i64 (((lz rs).take k).map List.length).sum∧Same w1 wr) (fun i _ _=>rs.length-(intOf i).toNat)
 case atStart=>exact⟨0,by omega,rfl,rfl,ah.refl _ _⟩
 case round =>
  obtain⟨k,hk,rfl,rfl,hS⟩:=hrel;have hbd:(((lz rs).take k).map List.length).sum≤k*131072000000:=by
   rw[Jh.out];exact nP (aM n (ts.map Tb.ws) ord) 131072000000 tJ.out k
  obtain⟨S,hS0⟩:∃ S,(((lz rs).take k).map List.length).sum=S:=⟨_,rfl⟩;rw[hS0] at hbd ⊢;have Yi:=Lib.hid hS0;have HS:=Lib.hid hS;clear hS0 hS;have hb2:S≤2097152000000:=Nat.le_trans hbd (by omega);by_cases hlt:k<rs.length
  ·obtain⟨r,hr⟩:∃ r,rs[k]?=some r:=⟨_,List.getElem?_eq_getElem hlt⟩;have hL:=Av.out.same HS.out;obtain⟨sb,rfl,hsb,hc⟩:=hL.own.get jm.ak hr;have c0:wr.cell? ⟨sb,k*1,none⟩=some (.slice r.A r.ts.length r.C):=hc 0 (by omega);rw[Nat.mul_one] at c0;have hI:(k:Int)<(rs.length:Int):=by omega
   have hrs:r.ts.length≤131072000000:=by
    have h1:(r.ts.map Tb.ws)∈lz rs:=List.mem_map_of_mem (f:=fun r:jm=>r.ts.map Tb.ws) (List.mem_of_getElem? hr);rw[Jh.out] at h1
    have:=tJ.out _ h1
    simpa using this
   have hstep:(((lz rs).take (k+1)).map List.length).sum=S+r.ts.length:=by
    have:(lz rs)[k]?=some (r.ts.map Tb.ws):=by unfold lz;rw[List.getElem?_map,hr];rfl
    rw[List.take_add_one,this,← Yi.out];simp
   have HST:=Lib.hid hstep;clear hr hL hc hstep;go_wp2;go_roundw
   case rel=>exact⟨k+1,by omega,by go_num,by rw[HST.out];go_num,HS.out⟩
   case measure=>simp[intOf] <;> omega
  ·obtain rfl:k=rs.length:=by omega
   have hI:¬ ((rs.length:Nat):Int)<(rs.length:Int):=by omega
   go_wp2;go_ret;refine⟨?_,aX.out.trans HS.out (fun _ _ h=>h)⟩
   have:S=Cj n (ts.map Tb.ws) ord:=by
    rw[← Yi.out];unfold Cj;rw[← Jh.out,List.take_of_length_le (by rw[kr];exact Nat.le_refl _)]
   rw[this];rfl
end
structure MH where
 t:Tb
 c:Int
def MH.cells (h:MH):List Value:=[.int .i64 h.t.N,.slice h.t.A h.t.ws.length h.t.C,.int .i64 h.c]
theorem MH.ak (h:MH):h.cells.length=3:=rfl
theorem rT:(Tryz.prog.info? 155).map (fun i=>(i.zero,i.size,i.bytes))=some (some (.agg #[.int .i64 0,.slice none 0 0,.int .i64 0]),3,40):=by kernel_rfl
structure MS where
 n:Nat
 c:Nat
 ord:List Int
 held:List (List Nat×Int)
 tr:List Int
structure MA where
 oA:Option Addr
 oC:Nat
 hA:Option Addr
 hC:Nat
 hs:List MH
 tA:Option Addr
 tC:Nat
structure MW (w:World) (mp:Nat) (M:MS) (a:MA):Prop where
 blk:ax w mp 112 #[.int .i64 M.n,.int .i64 M.c,.slice a.oA M.ord.length a.oC,.slice a.hA a.hs.length a.hC,.slice a.tA M.tr.length a.tC]
 ord:gq w 3 a.oA M.ord.length a.oC M.ord
 hs:Go.Tk.Own w 155 3 MH.cells a.hA a.hs.length a.hC a.hs
 tw:∀ h∈a.hs,TW w M.n h.t
 held:a.hs.map (fun h=>(h.t.ws,h.c))=M.held
 tr:gq w 3 a.tA M.tr.length a.tC M.tr
 n16:M.n≤16
 ol:M.ord.length≤16
 hl:M.held.length≤1500000
 trl:M.tr.length≤10000000000000
 dj:∀ b,rowOf a.oA b→¬ rowOf a.tA b
def kC (M:MS):List (List Nat):=M.held.map (·.1)
section
variable {w w':World} {mp:Nat} {M:MS} {a:MA} {n:Nat} {t:Tb}
theorem MW.same (h:MW w mp M a) (hs:Same w w'):MW w' mp M a :=
 ⟨h.blk.ag hs id,h.ord.ag hs (fun _ _=>id),h.hs.ag hs (fun _ _=>id),fun q hq=>(h.tw q hq).same hs,h.held,h.tr.ag hs (fun _ _=>id),h.n16,h.ol,h.hl,h.trl,h.dj⟩
theorem MW.c2 (h:MW w mp M a):w.cell? ⟨mp,2,none⟩=some (.slice a.oA M.ord.length a.oC):=h.blk.cell 2
theorem MW.c3 (h:MW w mp M a):w.cell? ⟨mp,3,none⟩=some (.slice a.hA a.hs.length a.hC):=h.blk.cell 3
theorem MW.c4 (h:MW w mp M a):w.cell? ⟨mp,4,none⟩=some (.slice a.tA M.tr.length a.tC):=h.blk.cell 4
theorem MW.c0 (h:MW w mp M a):w.cell? ⟨mp,0,none⟩=some (.int .i64 M.n):=h.blk.cell 0
theorem MW.c1 (h:MW w mp M a):w.cell? ⟨mp,1,none⟩=some (.int .i64 M.c):=h.blk.cell 1
theorem MW.zs (h:MW w mp M a):a.hs.map (fun h=>h.t.ws)=kC M:=by
 unfold kC;rw[← h.held,List.map_map];rfl
theorem qz {P:Program} {ops:Array Oper} {C:World→Prop} {o:Oper} {a:Act} {w:World} {K:Act→World→Prop} (hg:Region.wanted o (yielded ops a.tmps)=false)
  (h:K (a.put o.dst undef) w):cB P ops C o a w K:=by
 unfold cB;rw[if_neg (by rw[hg] <;> decide)];exact h
theorem MW.hsl (h:MW w mp M a):a.hs.length=M.held.length:=by rw[← h.held,List.length_map]
def aG (n:Nat) (b:Bool):List Nat:=tab n (fun _=>b)
def fE (n:Nat) (z:List Nat):Bool:=decide (z=aG n false)||decide (z=aG n true)
theorem j4 (ht:TW w n t) :
  Calls Tryz.prog 102 #[t.val] w fun e w'=>e=.returned (.bool (fE n t.ws))∧Same w w':=by
 have hn:=ht.fm.n16;have htl:t.ws.length≤1000000000000000000:=by rw[ht.fm.len];have:=iD hn;omega
 have hN:=ht.N;have HT:=Lib.hid ht;have hc:=fun (b:Bool) w'=>o5 n b w' hn
 have HC:=Lib.hid hc;unfold fE;obtain⟨b1,hb1⟩:∃ b,decide (t.ws=aG n false)=b:=⟨_,rfl⟩;obtain⟨b2,hb2⟩:∃ b,decide (t.ws=aG n true)=b:=⟨_,rfl⟩
 have hsm:=fun (b:Bool) (bb:Bool) (hbb:decide (t.ws=aG n b)=bb) (A:Option Addr) (C:Nat) w' (hw:Same w w') (ho:dN w' A (tab n (fun _=>b)).length C (tab n (fun _=>b)))=>(fJ t.N t.A t.ws.length t.C t.ws n A (tab n (fun _=>b)).length C (tab n (fun _=>b)) w' (HT.out.same hw).ok.wl (ho.sl jB) htl).mono (fun (e:Ending) w'' ⟨h1,h2⟩=>(⟨by
  rw[h1];unfold sm;rw[HT.out.N,← hbb];unfold aG
  simp,h2⟩:e=Ending.returned (.bool bb)∧Same w' w''))
 have aX:=Lib.hid (hsm false b1 hb1);have HS2:=Lib.hid (hsm true b2 hb2);rw[hb1,hb2];clear hc hsm hb1 hb2 ht htl;unfold Tb.val;rw[hN] at aX HS2 ⊢;clear hN;go_enter Tryz.func102,Tryz.ntmps102;go_wp2_with (fail)
 refine ai fun w1 hw1=>?_
 have hX:=ax.new w 108 #[.int .i64 n,.slice t.A t.ws.length t.C];have hs1:Same w w1:=by rw[hw1];exact(ah.refl _ _).alloc _
 rw[← hw1] at hX;clear hw1;have x0:=hX.cell 0;have x1:=hX.cell 1;have hxl:=hX.lt;simp at x0 x1;have HX:=Lib.hid hX;have yJ:=Lib.hid hs1;clear hX hs1;refine aJ (fun _=>False) [([0,1,2],3),([],4),([5,6,7,8],9),([],10),([11],12)] (by kernel_rfl) (by kernel_rfl) ?_;simp only[cK,pick,List.map_cons,List.map_nil,List.getD_cons_zero,List.getD_cons_succ];have hs:Same w1 w1.drew:=(ah.refl _ _).drew;repeat (any_goals (first | go_big_quiet_step (fail) | quiet_step (fail)))
 refine wpQuiet_nil ?_;refine aa rfl fun K hK=>?_
 go_simp;refine(HC.out false _).mono ?_;rintro e u ⟨A0,C0,rfl,dX⟩;have hs:=hs.trans dX.2.2 (fun _ _ h=>h);have ho0:=dX.1;refine hK _ _ (aZ.bu (ah.mono hs (fun _ _ h=>h.elim))) ?_;clear hK K dX;refine wpQuiet_nil ?_;refine aa rfl fun K hK=>?_
 go_simp;refine(aX.out A0 C0 _ (yJ.out.trans hs (fun _ _ h=>h)) ho0).mono ?_;rintro e u ⟨rfl,hsz⟩;have hs:=hs.trans hsz (fun _ _ h=>h);refine hK _ _ (aZ.bu (ah.mono hs (fun _ _ h=>h.elim))) ?_;clear hK K hsz ho0;cases b1
 ·repeat (any_goals (first | go_big_quiet_step (fail) | quiet_step (fail)))
  refine wpQuiet_nil ?_;refine cu (by rfl) fun K hK=>?_
  go_simp;refine(HC.out true _).mono ?_;rintro e u ⟨A1,C1,rfl,dX⟩;have hs:=hs.trans dX.2.2 (fun _ _ h=>h);have ho1:=dX.1;refine hK _ _ (aZ.bu (ah.mono hs (fun _ _ h=>h.elim))) ?_;clear hK K dX;refine wpQuiet_nil ?_;refine cu (by rfl) fun K hK=>?_
  go_simp;refine(HS2.out A1 C1 _ (yJ.out.trans hs (fun _ _ h=>h)) ho1).mono ?_;rintro e u ⟨rfl,hsz⟩;have hs:=hs.trans hsz (fun _ _ h=>h);refine hK _ _ (aZ.bu (ah.mono hs (fun _ _ h=>h.elim))) ?_;clear hK K hsz ho1;have Tn:=Lib.hid (yJ.out.trans hs (fun _ _ h=>h));clear hs;cases b2
  all_goals
   repeat (any_goals (first | go_big_quiet_step (fail) | quiet_step (fail)))
   refine wpQuiet_nil ?_;go_wp2;go_ret;exact⟨rfl,Tn.out⟩
 ·have Tn:=Lib.hid (yJ.out.trans hs (fun _ _ h=>h));clear hs;repeat (any_goals (first | go_big_quiet_step (fail) | quiet_step (fail)))
  refine wpQuiet_nil ?_;refine qz (by rfl) ?_;refine wpQuiet_nil ?_;refine qz (by rfl) ?_;repeat (any_goals (first | go_big_quiet_step (fail) | quiet_step (fail)))
  refine wpQuiet_nil ?_;go_wp2;go_ret;exact⟨rfl,Tn.out⟩
end
def iq (l:List (List Nat×Int)) (z:List Nat):Int:=match l.find? (fun p=>decide (p.1=z)) with
 | some p=>p.2
 | none=>0
theorem Mq {l:List (List Nat×Int)} {z:List Nat} {k:Nat} {c:Int} (h:l[k]?=some (z,c)) (hn:∀ p∈l.take k,p.1≠z):iq l z=c:=by
 have hl:l=l.take k++((z,c)::l.drop (k+1)):=by
  obtain⟨hk,he⟩:=List.getElem?_eq_some_iff.1 h;rw[← he,List.getElem_cons_drop hk,List.take_append_drop]
 unfold iq;rw[hl,List.find?_append]
 have:(l.take k).find? (fun p=>decide (p.1=z))=none:=List.find?_eq_none.2 fun p hp=>by simp[hn p hp]
 rw[this];simp
theorem Mr {l:List (List Nat×Int)} {z:List Nat} (hn:∀ p∈l,p.1≠z):iq l z=0:=by
 unfold iq
 have:l.find? (fun p=>decide (p.1=z))=none:=List.find?_eq_none.2 fun p hp=>by simp[hn p hp]
 rw[this]
section
variable {w w':World} {mp:Nat} {M:MS} {a:MA} {n:Nat} {t:Tb}
theorem MW.at (h:MW w mp M a) {i:Nat} {q:MH} (hi:a.hs[i]?=some q):∃ b off,a.hA=some ⟨b,off,none⟩∧b<w.heap.size∧w.cell? ⟨b,off+i*3,none⟩=some (.int .i64 q.t.N)∧w.cell? ⟨b,off+i*3+1,none⟩=some (.slice q.t.A q.t.ws.length q.t.C)∧w.cell? ⟨b,off+i*3+2,none⟩=some (.int .i64 q.c):=by
 obtain⟨b,off,h1,h2,h3⟩:=(h.hs.sl MH.ak).get i q hi;exact⟨b,off,h1,h2,h3 0 (by omega),h3 1 (by omega),h3 2 (by omega)⟩
theorem yK (hM:MW w mp M a) (ht:TW w M.n t) :
  Calls Tryz.prog 70 #[.pointer (some ⟨mp,0,none⟩),t.val] w fun e w'=>e=.returned (.int .i64 (iq M.held t.ws))∧Same w w':=by
 have htl:t.ws.length≤1000000000000000000:=by rw[ht.fm.len];have:=iD ht.fm.n16;omega
 have hsm:=fun (u:Tb) w' (h1:TW w' M.n t) (h2:TW w' M.n u)=>fJ u.N u.A u.ws.length u.C u.ws t.N t.A t.ws.length t.C t.ws w' h2.ok.wl h1.ok.wl (by rw[h2.fm.len];have:=iD h2.fm.n16;omega)
 have zQ:=Lib.hid hsm;have HM:=Lib.hid hM;have HT:=Lib.hid ht;have c3:=hM.c3;have hml:=hM.blk.lt;have QS:a.hs.length≤1500000:=by rw[hM.hsl];exact hM.hl
 clear hM ht hsm htl;unfold Tb.val;go_enter Tryz.func70,Tryz.ntmps70;go_wp2_with (fail)
 refine ai fun w1 hw1=>?_
 have hX:=ax.new w 108 #[.int .i64 t.N,.slice t.A t.ws.length t.C];have hs1:Same w w1:=by rw[hw1];exact(ah.refl _ _).alloc _
 rw[← hw1] at hX;clear hw1;have HX:=Lib.hid hX;have aX:=Lib.hid hs1;clear hX hs1 c3 hml;go_loopw [12] (fun i wr=>∃ k:Nat,k≤a.hs.length∧i=.int .i64 k∧Same w1 wr∧∀ p∈M.held.take k,p.1≠t.ws) (fun i _=>a.hs.length-(intOf i).toNat)
 case atStart=>exact⟨0,by omega,rfl,ah.refl _ _,fun u hu=>by simp at hu⟩
 case round =>
  obtain⟨k,hk,rfl,hS,hno⟩:=hrel;have HS:=Lib.hid hS;have nY:=Lib.hid hno;have hX:=HX.out.ag hS id;have x0:=hX.cell 0;have x1:=hX.cell 1;have hxl:=hX.lt;simp at x0 x1;clear hS hno hX;by_cases hlt:k<a.hs.length
  ·obtain⟨u,hu⟩:∃ u,a.hs[k]?=some u:=⟨_,List.getElem?_eq_getElem hlt⟩;have wu:=HM.out.same (aX.out.trans HS.out (fun _ _ h=>h));obtain⟨b,off,hA,hb,c0,c1,c2⟩:=wu.at hu;have hI:(k:Int)<(a.hs.length:Int):=by omega
   have htu:=HM.out.tw u (List.mem_of_getElem? hu);have hse:sm u.t.N t.N u.t.ws t.ws=decide (u.t.ws=t.ws):=by
    unfold sm;rw[HT.out.N,htu.N];simp
   have hat:M.held[k]?=some (u.t.ws,u.c):=by rw[← HM.out.held,List.getElem?_map,hu];rfl
   have tK:=Lib.hid (show ∀ w',Same w1 w'→Calls Tryz.prog 71 #[.agg #[.int .i64 u.t.N,.slice u.t.A u.t.ws.length u.t.C],.agg #[.int .i64 t.N,.slice t.A t.ws.length t.C]] w' fun e w''=>e=.returned (.bool (decide (u.t.ws=t.ws)))∧Same w' w'' from fun w' hw=>by
    have:=zQ.out u.t w' (HT.out.same (aX.out.trans hw (fun _ _ h=>h))) (htu.same (aX.out.trans hw (fun _ _ h=>h)))
    rwa [hse] at this)
   have HAT:=Lib.hid hat;clear hu wu htu hse hat;rw[hA];obtain⟨bb,hbb⟩:∃ bb,decide (u.t.ws=t.ws)=bb:=⟨_,rfl⟩;rw[hbb] at tK;have tF:=Lib.hid hbb;clear hbb;go_wp2_with (fail)
   refine(tK.out _ (HS.out.alloc _)).mono ?_;rintro e w3 ⟨rfl,hs3⟩;have hs4:=(HS.out.alloc (.cells #[.int .i64 u.t.N,.slice u.t.A u.t.ws.length u.t.C,.int .i64 u.c] 155)).trans hs3 (fun _ _ h=>h);have hX2:=(ax.new wr 155 #[.int .i64 u.t.N,.slice u.t.A u.t.ws.length u.t.C,.int .i64 u.c]).ag hs3 id;have y2:=hX2.cell 2;have hyl:=hX2.lt;simp at y2;have iB:=Lib.hid hs4;clear hs3 hs4 hX2;cases bb with
   | true =>
    go_wp2;go_ret;refine⟨congrArg (fun x=>Ending.returned (Value.int .i64 x)) (Mq (c:=u.c) ?_ nY.out).symm,aX.out.trans iB.out (fun _ _ h=>h)⟩;rw[HAT.out,of_decide_eq_true tF.out]
   | false =>
    go_wp2;go_roundw
    case rel =>
     refine⟨k+1,by omega,by go_num,iB.out,fun v hv=>?_⟩;rw[List.take_add_one,HAT.out] at hv;rcases List.mem_append.1 hv with hv | hv
     ·exact nY.out v hv
     ·simp at hv;rw[hv];exact of_decide_eq_false tF.out
    case measure=>simp[intOf] <;> omega
  ·obtain rfl:k=a.hs.length:=by omega
   have hI:¬ ((a.hs.length:Nat):Int)<(a.hs.length:Int):=by omega
   go_wp2;go_ret;refine⟨?_,aX.out.trans HS.out (fun _ _ h=>h)⟩;have hl:M.held.length=a.hs.length:=by rw[← HM.out.held,List.length_map]
   rw[Mr (fun p hp=>nY.out p (by rw[← hl,List.take_length];exact hp))];rfl
end
section
variable {w w':World} {mp:Nat} {M:MS} {a:MA} {n:Nat} {t:Tb}
theorem o8 (hM:MW w mp M a) :
  Calls Tryz.prog 117 #[.pointer (some ⟨mp,0,none⟩)] w fun e w'=>∃ A C ts,e=.returned (.slice A ts.length C)∧TN w.heap.size w' M.n A C ts∧ts.map Tb.ws=kC M∧ts.length≤1500000∧Same w w':=by
 have HM:=Lib.hid hM;have c3:=hM.c3;have hml:=hM.blk.lt;have QS:a.hs.length≤1500000:=by rw[hM.hsl];exact hM.hl
 clear hM;go_enter Tryz.func117,Tryz.ntmps117;go_wp2_with (fail)
 clear c3 hml;go_loopw [11,3] (fun i c wr=>∃ (k:Nat) (A:Option Addr) (C:Nat) (ts:List Tb),k≤a.hs.length∧i=.int .i64 k∧c=.slice A ts.length C∧TN w.heap.size wr M.n A C ts∧ts=(a.hs.take k).map MH.t∧Same w wr) (fun i _ _=>a.hs.length-(intOf i).toNat)
 case atStart=>exact⟨0,none,0,[],by omega,rfl,rfl,TN.nil _ _ _,rfl,ah.refl _ _⟩
 case round =>
  obtain⟨k,A',C',us,hk,rfl,rfl,hN,l6,hS⟩:=hrel;have qY:us.length=k:=by rw[l6,List.length_map,List.length_take];omega
  by_cases hlt:k<a.hs.length
  ·obtain⟨u,hu⟩:∃ u,a.hs[k]?=some u:=⟨_,List.getElem?_eq_getElem hlt⟩;have wu:=HM.out.same hS;obtain⟨b,off,hA,hb,c0,c1,c2⟩:=wu.at hu;have hI:(k:Int)<(a.hs.length:Int):=by omega
   have Aw:=Lib.hid (wu.tw u (List.mem_of_getElem? hu));have hstep:(a.hs.take (k+1)).map MH.t=us++[u.t]:=by rw[List.take_add_one,hu,l6];simp
   have HST:=Lib.hid hstep;have HN:=Lib.hid hN;have HS:=Lib.hid hS;have QK:=Lib.hid qY;clear hu wu hstep l6 hN hS qY;rw[hA];clear hA;go_upto_region 5 with fail
   refine ai fun w1 hw1=>?_
   have hX:=ax.new wr 155 #[.int .i64 u.t.N,.slice u.t.A u.t.ws.length u.t.C,.int .i64 u.c];have hs1:Same wr w1:=by rw[hw1];exact(ah.refl _ _).alloc _
   rw[← hw1] at hX;clear hw1;have x0:=hX.cell 0;have x1:=hX.cell 1;have hxl:=hX.lt;simp at x0 x1;have aX:=Lib.hid hs1;clear hX hs1;refine aV 3 ?_;simp only[List.take_succ_cons,List.take_zero,List.drop_succ_cons,List.drop_zero];repeat (any_goals (first | go_big_quiet_step (fail) | quiet_step (fail)))
   refine wpQuiet_nil ?_;refine wpList_plain rfl fun K hK=>?_
   go_simp;refine hK _ _ ?_;clear hK K;refine aQ fun wa dR=>?_
   have hM:=ax.new w1 108 #[.int .i64 u.t.N,.slice u.t.A u.t.ws.length u.t.C];have hsa:Same wr wa:=by rw[dR];exact aX.out.alloc _
   rw[← dR] at hM;clear dR;have Mj:=HN.out.same hsa;refine Own.aR rfl (.tmp 15) (.tmp 18) _ rfl Tryz.underlying55 fq rfl (by omega) rfl Mj.own Tb.ak u.t w1.heap.size 1 rfl (by unfold Tb.cells;exact hM) (by simp[Value.oneCell',Tb.cells]) (by have:=QK.out;unfold maxLen;omega) (by have:=QK.out;omega) ?_;intro gg cap wb hOb hgb hat;have hza:w.heap.size≤wa.heap.size:=(HS.out.trans hsa (fun _ _ h=>h)).size;have hp:=Mj.push (Aw.out.same hsa) hOb hgb hat hza;have HP:=Lib.hid hp.1;have kS:=Lib.hid (hp.2 w (HS.out.trans hsa (fun _ _ h=>h)) rfl);clear hp hOb hgb hat Mj hsa hM;go_wp2;go_roundw
   case rel=>exact⟨k+1,some ⟨gg,0,none⟩,cap,us++[u.t],by omega,by go_num,by rw[List.length_append];rfl,HP.out,HST.out.symm,kS.out⟩
   case measure=>simp[intOf] <;> omega
  ·obtain rfl:k=a.hs.length:=by omega
   have hI:¬ ((a.hs.length:Nat):Int)<(a.hs.length:Int):=by omega
   have HN:=Lib.hid hN;have HU:=Lib.hid l6;have HS:=Lib.hid hS;clear hN l6 hS;go_wp2;go_ret;refine⟨A',C',us,congrArg (fun l=>Ending.returned (Value.slice A' l C')) qY.symm,HN.out,?_,by omega,HS.out⟩;have h1:=HU.out;rw[List.take_length] at h1;rw[h1,← HM.out.zs,List.map_map];rfl
def nQ (M:MS) (z:List Nat):Bool:=fE M.n z||(aM M.n (kC M) M.ord).any fun l=>decide (z∈l)
def wD (M:MS) (zs:List (List Nat)):Nat:=Cj M.n zs M.ord
end
def eY (M:MS):Prop:=∀ v∈M.ord,0≤v∧v<M.n
section
variable {w w':World} {mp:Nat} {M:MS} {a:MA} {n:Nat} {t:Tb} {A:Option Addr} {C:Nat} {ts:List Tb}
theorem Ji (hM:MW w mp M a) (ho:eY M) (hL:TL w M.n A ts) (hl:ts.length≤2000000) :
  Calls Tryz.prog 138 #[.pointer (some ⟨mp,0,none⟩),.slice A ts.length C] w fun e w'=>e=.returned (.int .i64 (wD M (ts.map Tb.ws)))∧Same w w':=by
 have c2:=hM.c2;have hml:=hM.blk.lt;have hsz:=fun w' (hw:Same w w')=>Jg (C:=C) (OC:=a.oC) (hL.same hw) hM.n16 hl (O:=a.oA) ((hM.ord.sl fu).same hw) ho hM.ol
 have tJ:=Lib.hid hsz;unfold wD;clear hM hL hsz ho;go_enter Tryz.func138,Tryz.ntmps138;go_wp2_with (fail)
 refine(tJ.out _ (ah.refl _ _)).mono ?_;rintro e w3 ⟨rfl,hs3⟩;have dY:=Lib.hid hs3;clear hs3;go_wp2;go_ret;exact⟨rfl,dY.out⟩
end
section
variable {w w':World} {mp:Nat} {M:MS} {a:MA} {n:Nat} {t:Tb} {A:Option Addr} {C:Nat} {ts:List Tb}
theorem j5 (hM:MW w mp M a) (ho:eY M) :
  Calls Tryz.prog 86 #[.pointer (some ⟨mp,0,none⟩)] w fun e w'=>∃ A C rs,e=.returned (.slice A rs.length C)∧LN w.heap.size w' M.n A C rs∧lz rs=aM M.n (kC M) M.ord∧Same w w':=by
 have HM:=Lib.hid hM;have HO:=Lib.hid ho;clear hM ho;go_enter Tryz.func86,Tryz.ntmps86;go_wp2_with (fail)
 have c2:=HM.out.c2;have hml:=HM.out.blk.lt;refine aJ (fun _=>False) [([0,2,3,4,5],1),([],6),([],7)] (by kernel_rfl) (by kernel_rfl) ?_;simp only[cK,pick,List.map_cons,List.map_nil,List.getD_cons_zero,List.getD_cons_succ];have hs:Same w w.drew:=(ah.refl _ _).drew;repeat (any_goals (first | go_big_quiet_step (fail) | quiet_step (fail)))
 refine wpQuiet_nil ?_;refine aa rfl fun K hK=>?_
 go_simp;refine(o8 (HM.out.same hs)).mono ?_;rintro e w3 ⟨A,C,ts,rfl,hN,hz,hl,hs3⟩;have hs:=hs.trans hs3 (fun _ _ h=>h);have jo:=HM.out.same hs;have hlv:=fun w' (hw:Same w3 w')=>mQ (C:=C) (OC:=a.oC) (hN.tl.same hw) jo.n16 (by omega) (O:=a.oA) ((jo.ord.sl fu).same hw) HO.out jo.ol
 rw[hz] at hlv;have zw:=Lib.hid hlv;refine hK _ _ (aZ.bu (ah.mono hs (fun _ _ h=>h.elim))) ?_;have dY:=Lib.hid hs;clear hs hs3 hN hz jo hlv hK K;refine wpQuiet_nil ?_;refine aa rfl fun K hK=>?_
 go_simp;refine(zw.out _ (ah.refl _ _)).mono ?_;rintro e w4 ⟨A4,C4,rs,rfl,qw,hlz,hs4⟩;have hs:=dY.out.trans hs4 (fun _ _ h=>h);refine hK _ _ (aZ.bu (ah.mono hs (fun _ _ h=>h.elim))) ?_;have Av:=Lib.hid qw;have Jh:=Lib.hid hlz;have iB:=Lib.hid hs4;clear hs qw hlz hs4 hK K;repeat (any_goals (first | go_big_quiet_step (fail) | quiet_step (fail)))
 refine wpQuiet_nil ?_;go_wp2;go_ret;exact⟨A4,C4,rs,rfl,⟨Av.out.own,fun r hr=>(Av.out.tn r hr).lower dY.out.size,fun b hb=>Nat.le_trans dY.out.size (Av.out.fresh b hb)⟩,Jh.out,dY.out.trans iB.out (fun _ _ h=>h)⟩
end
section
variable {w w':World} {mp:Nat} {M:MS} {a:MA} {n:Nat} {t:Tb} {A:Option Addr} {C:Nat} {ts:List Tb}
theorem wE (hM:MW w mp M a) (ho:eY M) (ht:TW w M.n t) :
  Calls Tryz.prog 106 #[.pointer (some ⟨mp,0,none⟩),t.val] w fun e w'=>e=.returned (.bool (nQ M t.ws))∧Same w w':=by
 have HM:=Lib.hid hM;have HO:=Lib.hid ho;have HT:=Lib.hid ht;have hic:=fun w' (h:TW w' M.n t)=>j4 h
 have FW:=Lib.hid hic;have hin:=fun (A:Option Addr) (C:Nat) (us:List Tb) w' (hL:TL w' M.n A us) (h:TW w' M.n t) (hl:us.length≤1000000000000000000)=>nO (C:=C) hL h hl
 have zR:=Lib.hid hin;unfold Tb.val at FW zR ⊢;unfold nQ;obtain⟨cc,hcc⟩:∃ b,fE M.n t.ws=b:=⟨_,rfl⟩;rw[hcc] at FW ⊢;clear hM ho ht hic hin hcc;go_enter Tryz.func106,Tryz.ntmps106;go_wp2_with (fail)
 refine(FW.out _ (HT.out.same ((ah.refl _ _).alloc _))).mono ?_;rintro e w1 ⟨rfl,hs1⟩;have hX:=(ax.new w 108 #[.int .i64 t.N,.slice t.A t.ws.length t.C]).ag hs1 id;have hs1:Same w w1:=((ah.refl _ _).alloc _).trans hs1 (fun _ _ h=>h);have x0:=hX.cell 0;have x1:=hX.cell 1;have hxl:=hX.lt;simp at x0 x1;have HX:=Lib.hid hX;have aX:=Lib.hid hs1;clear hX hs1;cases cc with
 | true =>
  go_wp2;go_ret;exact⟨rfl,aX.out⟩
 | false =>
  go_wp2_with (fail)
  refine(j5 (HM.out.same aX.out) HO.out).mono ?_;rintro e w2 ⟨A,C,rs,rfl,qw,hlz,hs2⟩;have Av:=Lib.hid qw;have Jh:=Lib.hid hlz;have HS2:=Lib.hid (aX.out.trans hs2 (fun _ _ h=>h));have tX:=Lib.hid (HX.out.ag hs2 id);have hrl:rs.length≤16:=by
   have h1:(lz rs).length=M.ord.length:=by rw[hlz];unfold aM;rw[eu];simp
   rw[kr] at h1
   have:=HM.out.ol
   omega
  have hbig:∀ r∈rs,r.ts.length≤131072000000:=fun r hr=>by
   have h1:r.ts.map Tb.ws∈aM M.n (kC M) M.ord:=by rw[← hlz];exact List.mem_map.2 ⟨r,hr,rfl⟩
   have h2:=gp M.n (kC M) (by unfold kC;rw[List.length_map];have:=HM.out.hl;omega) M.ord HM.out.ol _ h1
   rwa [List.length_map] at h2
  have HBG:=Lib.hid hbig;clear qw hlz hs2 x0 x1 hxl hbig;go_wp2_with (fail)
  go_loopw [12] (fun i wr=>∃ k:Nat,k≤rs.length∧i=.int .i64 k∧Same w2 wr∧∀ r∈rs.take k,t.ws∉r.ts.map Tb.ws) (fun i _=>rs.length-(intOf i).toNat)
  case atStart=>exact⟨0,by omega,rfl,ah.refl _ _,fun u hu=>by simp at hu⟩
  case round =>
   obtain⟨k,hk,rfl,hS,hno⟩:=hrel;have HS:=Lib.hid hS;have nY:=Lib.hid hno;have hX:=tX.out.ag hS id;have x0:=hX.cell 0;have x1:=hX.cell 1;have hxl:=hX.lt;simp at x0 x1;clear hS hno hX;by_cases hlt:k<rs.length
   ·obtain⟨r,hr⟩:∃ r,rs[k]?=some r:=⟨_,List.getElem?_eq_getElem hlt⟩;have Rj:=Av.out.same HS.out;obtain⟨sb,hA,hsb,hc⟩:=Rj.own.get jm.ak hr;have c0:wr.cell? ⟨sb,k*1,none⟩=some (.slice r.A r.ts.length r.C):=hc 0 (by omega);rw[Nat.mul_one] at c0;have hI:(k:Int)<(rs.length:Int):=by omega
    have hm:=List.mem_of_getElem? hr;have hin:=fun w' (hw:Same wr w')=>zR.out r.A r.C r.ts w' (((Rj.tn r hm).same hw).tl) (HT.out.same ((HS2.out.trans HS.out (fun _ _ h=>h)).trans hw (fun _ _ h=>h))) (by have:=HBG.out r hm;omega)
    obtain⟨bb,hbb⟩:∃ bb,decide (t.ws∈r.ts.map Tb.ws)=bb:=⟨_,rfl⟩;rw[hbb] at hin;have abb:=Lib.hid hin;have tF:=Lib.hid hbb;have HR:=Lib.hid hr;clear hr Rj hc hm hin hbb;rw[hA];go_wp2_with (fail)
    refine(abb.out _ (ah.refl _ _)).mono ?_;rintro e w3 ⟨rfl,hs3⟩;have dY:=Lib.hid (HS.out.trans hs3 (fun _ _ h=>h));clear hs3;cases bb with
    | true =>
     go_wp2;go_ret;refine⟨?_,HS2.out.trans dY.out (fun _ _ h=>h)⟩
     have:((aM M.n (kC M) M.ord).any fun l=>decide (t.ws∈l))=true:=by
      rw[← Jh.out];exact List.any_eq_true.2 ⟨_,List.mem_map.2 ⟨r,List.mem_of_getElem? HR.out,rfl⟩,tF.out⟩
     rw[this];rfl
    | false =>
     go_wp2;go_roundw
     case rel =>
      refine⟨k+1,by omega,by go_num,dY.out,fun v hv=>?_⟩;rw[List.take_add_one,HR.out] at hv;rcases List.mem_append.1 hv with hv | hv
      ·exact nY.out v hv
      ·simp at hv;rw[hv];exact of_decide_eq_false tF.out
     case measure=>simp[intOf] <;> omega
   ·obtain rfl:k=rs.length:=by omega
    have hI:¬ ((rs.length:Nat):Int)<(rs.length:Int):=by omega
    go_wp2;go_ret;refine⟨?_,HS2.out.trans HS.out (fun _ _ h=>h)⟩
    have:((aM M.n (kC M) M.ord).any fun l=>decide (t.ws∈l))=false:=by
     rw[← Jh.out];refine List.any_eq_false.2 fun l hl=>?_
     obtain⟨r,hr,rfl⟩:=List.mem_map.1 hl;simpa using nY.out r (by rw[List.take_length];exact hr)
    rw[this];rfl
end
def dU (ord:List Int) (v:Int):Int:=if v∈ord then ((ord.idxOf v:Nat):Int) else -1
theorem Ms {ord:List Int} {v:Int} {k:Nat} (h:ord[k]?=some v) (hn:∀ u∈ord.take k,u≠v):dU ord v=k:=by
 obtain⟨hk,he⟩:=List.getElem?_eq_some_iff.1 h;have hl:ord=ord.take k++(v::ord.drop (k+1)):=by
  rw[← he,List.getElem_cons_drop hk,List.take_append_drop]
 have hm:v∈ord:=List.mem_of_getElem? h;unfold dU;rw[if_pos hm];have hi:ord.idxOf v=k:=by
  rw[hl,List.idxOf_append,if_neg (fun hv=>hn v hv rfl)];simp[List.length_take];omega
 rw[hi]
section
variable {w w':World} {mp:Nat} {M:MS} {a:MA} {n:Nat} {t:Tb}
theorem j6 (hM:MW w mp M a) (v:Int) :
  Calls Tryz.prog 68 #[.pointer (some ⟨mp,0,none⟩),.int .i64 v] w fun e w'=>e=.returned (.int .i64 (dU M.ord v))∧Same w w':=by
 have HM:=Lib.hid hM;have c2:=hM.c2;have hml:=hM.blk.lt;have hol:=hM.ol;clear hM;go_enter Tryz.func68,Tryz.ntmps68;go_wp2_with (fail)
 go_loopw [12] (fun i wr=>∃ k:Nat,k≤M.ord.length∧i=.int .i64 k∧Same w wr∧∀ u∈M.ord.take k,u≠v) (fun i _=>M.ord.length-(intOf i).toNat)
 case atStart=>exact⟨0,by omega,rfl,ah.refl _ _,fun u hu=>by simp at hu⟩
 case round =>
  obtain⟨k,hk,rfl,hS,hno⟩:=hrel;by_cases hlt:k<M.ord.length
  ·obtain⟨u,hu⟩:∃ u,M.ord[k]?=some u:=⟨_,List.getElem?_eq_getElem hlt⟩;have hil:IL wr a.oA M.ord.length M.ord:=(HM.out.same hS).ord.sl fu;obtain⟨b,off,hA,hb,c0⟩:=hil.dQ hu;have hI:(k:Int)<(M.ord.length:Int):=by omega
   have HU:=Lib.hid hu;have nY:=Lib.hid hno;have HS:=Lib.hid hS;clear hu hno hS hil;rw[hA];by_cases huv:u=v
   ·go_wp2;go_ret;exact⟨congrArg (fun x=>Ending.returned (Value.int .i64 x)) (Ms (by rw[HU.out,huv]) nY.out).symm,HS.out⟩
   ·go_wp2;go_roundw
    case rel =>
     refine⟨k+1,by omega,by go_num,HS.out,fun x hx=>?_⟩;rw[List.take_add_one,HU.out] at hx;rcases List.mem_append.1 hx with hx | hx
     ·exact nY.out x hx
     ·simp at hx;rw[hx];exact huv
    case measure=>simp[intOf] <;> omega
  ·obtain rfl:k=M.ord.length:=by omega
   have hI:¬ ((M.ord.length:Nat):Int)<(M.ord.length:Int):=by omega
   have nY:=Lib.hid hno;have HS:=Lib.hid hS;clear hno hS;go_wp2;go_ret;refine⟨?_,HS.out⟩
   have:v∉M.ord:=fun hm=>nY.out v (by rw[List.take_length];exact hm) rfl
   unfold dU;rw[if_neg this];rfl
end
def mR (M:MS) (v:Int):Int:=if dU M.ord v<0 then -1 else (((aM M.n (kC M) M.ord).getD (dU M.ord v).toNat []).length:Nat)
theorem Cm (ord:List Int) (v:Int):dU ord v = -1∨∃ k:Nat,dU ord v=k∧k<ord.length:=by
 unfold dU;split
 ·next h=>exact .inr ⟨_,rfl,List.idxOf_lt_length_of_mem h⟩
 ·exact .inl rfl
section
variable {w w':World} {mp:Nat} {M:MS} {a:MA} {n:Nat} {t:Tb} {A:Option Addr} {C:Nat} {ts:List Tb}
theorem EM (hM:MW w mp M a) (ho:eY M) (v:Int) :
  Calls Tryz.prog 67 #[.pointer (some ⟨mp,0,none⟩),.int .i64 v] w fun e w'=>e=.returned (.int .i64 (mR M v))∧Same w w':=by
 have HM:=Lib.hid hM;have HO:=Lib.hid ho;have hlo:=j6 hM v;unfold mR;have hr:=Cm M.ord v;obtain⟨x,hx⟩:∃ x,dU M.ord v=x:=⟨_,rfl⟩;rw[hx] at hlo hr ⊢;have Bw:=Lib.hid hlo;clear hM ho hlo hx;go_enter Tryz.func67,Tryz.ntmps67;go_wp2_with (fail)
 refine Bw.out.mono ?_;rintro e w1 ⟨rfl,hs1⟩;have aX:=Lib.hid hs1;clear hs1;rcases hr with rfl | ⟨k,rfl,hk⟩
 ·go_wp2;go_ret;exact⟨rfl,aX.out⟩
 ·have h0:¬ ((k:Nat):Int)<0:=by omega
  go_wp2_with (fail)
  refine(j5 (HM.out.same aX.out) HO.out).mono ?_;rintro e w2 ⟨A,C,rs,rfl,qw,hlz,hs2⟩;have hrl:rs.length=M.ord.length:=by
   have h1:(lz rs).length=M.ord.length:=by rw[hlz];unfold aM;rw[eu];simp
   rwa [kr] at h1
  have hol:=HM.out.ol;obtain⟨r,hr⟩:∃ r,rs[k]?=some r:=⟨_,List.getElem?_eq_getElem (by omega)⟩;obtain⟨sb,rfl,hsb,hc⟩:=qw.own.get jm.ak hr;have c0:w2.cell? ⟨sb,k*1,none⟩=some (.slice r.A r.ts.length r.C):=hc 0 (by omega);rw[Nat.mul_one] at c0;have hI:(k:Int)<(rs.length:Int):=by omega
  have hk2:k<rs.length:=by omega
  have Mt:Hid (((aM M.n (kC M) M.ord).getD k []).length=r.ts.length):=Lib.hid (by
   rw[← hlz,List.getD_eq_getElem?_getD];unfold lz;rw[List.getElem?_map,hr]
   simp)
  have HS2:=Lib.hid (aX.out.trans hs2 (fun _ _ h=>h));clear qw hlz hs2 hr hc hk hrl;go_wp2;go_ret;refine⟨?_,HS2.out⟩;have hres:=Mt.out;rw[List.getD_eq_getElem?_getD] at hres;rw[hres];rfl
end
def xQ (n:Nat) (ord:List Int) (z:List Nat):Int:=(ord.find? fun v=>rQ n z v.toNat).getD (-1)
theorem Tt {n:Nat} {ord:List Int} {z:List Nat} {k:Nat} {v:Int} (h:ord[k]?=some v) (hv:rQ n z v.toNat=true) (hn:∀ u∈ord.take k,rQ n z u.toNat=false):xQ n ord z=v:=by
 obtain⟨hk,he⟩:=List.getElem?_eq_some_iff.1 h;have hl:ord=ord.take k++(v::ord.drop (k+1)):=by rw[← he,List.getElem_cons_drop hk,List.take_append_drop]
 unfold xQ;rw[hl,List.find?_append]
 have:(ord.take k).find? (fun u=>rQ n z u.toNat)=none:=List.find?_eq_none.2 fun p hp=>by simp[hn p hp]
 rw[this];simp[hv]
theorem Tu {n:Nat} {ord:List Int} {z:List Nat} (hn:∀ u∈ord,rQ n z u.toNat=false):xQ n ord z = -1:=by
 unfold xQ
 have:ord.find? (fun u=>rQ n z u.toNat)=none:=List.find?_eq_none.2 fun p hp=>by simp[hn p hp]
 rw[this];rfl
section
variable {w w':World} {mp:Nat} {M:MS} {a:MA} {t:Tb}
theorem PG (hM:MW w mp M a) (ho:∀ v∈M.ord,0≤v∧v<M.n) (ht:TW w M.n t) :
  Calls Tryz.prog 113 #[.pointer (some ⟨mp,0,none⟩),t.val] w fun e w'=>e=.returned (.int .i64 (xQ M.n M.ord t.ws))∧Same w w':=by
 have HM:=Lib.hid hM;have HT:=Lib.hid ht;have HO:=Lib.hid ho;have c2:=hM.c2;have hml:=hM.blk.lt;have hol:=hM.ol;have hN:=ht.N;clear hM ht ho;unfold Tb.val;rw[hN];clear hN;go_enter Tryz.func113,Tryz.ntmps113;go_wp2_with (fail)
 refine ai fun w1 hw1=>?_
 have hX:=ax.new w 108 #[.int .i64 M.n,.slice t.A t.ws.length t.C];have hs1:Same w w1:=by rw[hw1];exact(ah.refl _ _).alloc _
 rw[← hw1] at hX;clear hw1;have HX:=Lib.hid hX;have aX:=Lib.hid hs1;clear hX hs1 c2 hml;go_loopw [12] (fun i wr=>∃ k:Nat,k≤M.ord.length∧i=.int .i64 k∧Same w1 wr∧∀ u∈M.ord.take k,rQ M.n t.ws u.toNat=false) (fun i _=>M.ord.length-(intOf i).toNat)
 case atStart=>exact⟨0,by omega,rfl,ah.refl _ _,fun u hu=>by simp at hu⟩
 case round =>
  obtain⟨k,hk,rfl,hS,hno⟩:=hrel;have HS:=Lib.hid hS;have nY:=Lib.hid hno;have hX:=HX.out.ag hS id;have x0:=hX.cell 0;have x1:=hX.cell 1;have hxl:=hX.lt;simp at x0 x1;clear hS hno hX;by_cases hlt:k<M.ord.length
  ·obtain⟨u,hu⟩:∃ u,M.ord[k]?=some u:=⟨_,List.getElem?_eq_getElem hlt⟩;have hSr:=aX.out.trans HS.out (fun _ _ h=>h);have hil:IL wr a.oA M.ord.length M.ord:=(HM.out.same hSr).ord.sl fu;obtain⟨b,off,hA,hb,c0⟩:=hil.dQ hu;have hI:(k:Int)<(M.ord.length:Int):=by omega
   obtain⟨v0,v1⟩:=HO.out u (List.mem_of_getElem? hu);obtain⟨m,rfl⟩:=Int.eq_ofNat_of_zero_le v0;have hin:=fun w' (hw:Same wr w')=>qo M.n m t.A t.C t.ws w' (by have:=(HT.out.same (hSr.trans hw (fun _ _ h=>h))).ok;rw[show t=⟨t.N,t.A,t.C,t.ws⟩ from rfl,HT.out.N] at this;exact this) HT.out.fm (by omega)
   have HU:=Lib.hid hu;obtain⟨bb,hbb⟩:∃ bb,rQ M.n t.ws m=bb:=⟨_,rfl⟩;rw[hbb] at hin;have zR:=Lib.hid hin;have tF:=Lib.hid hbb;clear hu hil hin hbb v0 v1 hSr;rw[hA];go_wp2_with (fail)
   refine(zR.out _ (ah.refl _ _)).mono ?_;rintro e w3 ⟨rfl,hs3⟩;have dY:=Lib.hid (HS.out.trans hs3 (fun _ _ h=>h));clear hs3;cases bb with
   | true =>
    go_wp2;go_ret;exact⟨congrArg (fun x=>Ending.returned (Value.int .i64 x)) (Tt HU.out (by simpa using tF.out) nY.out).symm,aX.out.trans dY.out (fun _ _ h=>h)⟩
   | false =>
    go_wp2;go_roundw
    case rel =>
     refine⟨k+1,by omega,by go_num,dY.out,fun v hv=>?_⟩;rw[List.take_add_one,HU.out] at hv;rcases List.mem_append.1 hv with hv | hv
     ·exact nY.out v hv
     ·simp at hv;rw[hv];simpa using tF.out
    case measure=>simp[intOf] <;> omega
  ·obtain rfl:k=M.ord.length:=by omega
   have hI:¬ ((M.ord.length:Nat):Int)<(M.ord.length:Int):=by omega
   go_wp2;go_ret;refine⟨?_,aX.out.trans HS.out (fun _ _ h=>h)⟩;rw[Tu (fun u hu=>nY.out u (by rw[List.take_length];exact hu))];rfl
end
section
variable {w w':World} {mp:Nat} {M:MS} {a:MA} {n:Nat} {t:Tb} {A:Option Addr} {C:Nat} {ts:List Tb}
theorem yL (hM:MW w mp M a) (ho:eY M) (v:Int) (ht:TW w M.n t) :
  Calls Tryz.prog 111 #[.pointer (some ⟨mp,0,none⟩),.int .i64 v,t.val] w fun e w'=>e=.returned (.bool (decide (xQ M.n M.ord t.ws<0)||decide (dU M.ord v<dU M.ord (xQ M.n M.ord t.ws))))∧Same w w':=by
 have HM:=Lib.hid hM;have HT:=Lib.hid ht;have hto:=fun w' (hs:Same w w')=>PG (hM.same hs) ho (ht.same hs)
 unfold Tb.val at hto ⊢;obtain⟨u,hu⟩:∃ u,xQ M.n M.ord t.ws=u:=⟨_,rfl⟩;rw[hu] at hto ⊢;have oF:=Lib.hid hto;clear hM ht ho hto hu;obtain⟨y,hy⟩:∃ y,dU M.ord v=y:=⟨_,rfl⟩;obtain⟨z,hz⟩:∃ z,dU M.ord u=z:=⟨_,rfl⟩;rw[hy,hz];have hlv:=fun w' (hs:Same w w')=>j6 (HM.out.same hs) v
 have VT:=fun w' (hs:Same w w')=>j6 (HM.out.same hs) u
 rw[hy] at hlv;rw[hz] at VT;have zw:=Lib.hid hlv;have HLU:=Lib.hid VT;clear hlv VT hy hz;go_enter Tryz.func111,Tryz.ntmps111;go_wp2_with (fail)
 refine(oF.out _ ((ah.refl _ _).alloc _)).mono ?_;rintro e w1 ⟨rfl,hs1⟩;have aX:=Lib.hid (((ah.refl _ _).alloc (.cells #[.int .i64 t.N,.slice t.A t.ws.length t.C] 108)).trans hs1 (fun _ _ h=>h));clear hs1;by_cases h0:u<0
 ·go_wp2;go_ret;refine⟨?_,aX.out⟩
  first | rfl | (simp only[h0,decide_true,Bool.true_or];rfl)
 ·go_wp2_with (fail)
  refine(zw.out _ aX.out).mono ?_;rintro e w2 ⟨rfl,hs2⟩;have HS2:=Lib.hid (aX.out.trans hs2 (fun _ _ h=>h));clear hs2;go_wp2_with (fail)
  refine(HLU.out _ HS2.out).mono ?_;rintro e w3 ⟨rfl,hs3⟩;have dY:=Lib.hid (HS2.out.trans hs3 (fun _ _ h=>h));clear hs3;by_cases h1:y<z
  all_goals
   go_wp2;go_ret;refine⟨?_,dY.out⟩;simp[h1]
end
def Yj (v:Nat) (lo hi:List Nat) (x:Nat):Bool:=if x.testBit v then vb hi x else vb lo x
def qJ (n v:Nat) (lo hi:List Nat):List Nat:=tab n (Yj v lo hi)
section
variable {w w':World} {n:Nat} {t lo hi:Tb}
theorem Cn (ht:TW w n t) (x:Nat) (hx:x<2 ^ n) :
  Calls Tryz.prog 124 #[t.val,.int .i64 x] w fun e w'=>e=.returned (.bool (vb t.ws x))∧Same w w':=by
 have hdl:x / 64<t.ws.length:=by rw[ht.fm.len];exact qP hx
 obtain⟨z,hz⟩:∃ z,t.ws[x / 64]?=some z:=⟨_,List.getElem?_eq_getElem hdl⟩;have Tc:=AQ ht.fm.n16;have hwl:t.ws.length≤1024:=by rw[ht.fm.len];exact iD ht.fm.n16
 obtain⟨b,off,hA,hbl,hc⟩:=WL.dQ ht.ok.wl hz;have hxs:=ht.sm.dQ hz;have hvb:z.testBit (x%64)=vb t.ws x:=by unfold vb;rw[List.getD_eq_getElem?_getD,hz];rfl
 have hbv:=Pj z (x%64);rw[hvb] at hbv;have hN:=ht.N;clear hvb hz ht;obtain⟨v,hv⟩:∃ v,vb t.ws x=v:=⟨_,rfl⟩;rw[hv] at hbv ⊢;clear hv;obtain⟨N,A,C,ws⟩:=t;simp only at hdl hwl hA hN;subst hA hN;unfold Tb.val;simp only;obtain⟨L,hL⟩:∃ L,ws.length=L:=⟨_,rfl⟩;rw[hL] at hdl hwl ⊢;clear hL;have xO:min (x%64) 64=x%64:=by omega
 have hq1:z / 2 ^ (x%64)≤z:=Nat.div_le_self _ _;have hkk:x%64<64:=by omega
 have hn1:(x:Int) / 64=((x / 64:Nat):Int):=by omega
 have hn2:(x:Int)%64=((x%64:Nat):Int):=by omega
 have hpw:((z:Nat):Int) / 2 ^ (x%64)=((z / 2 ^ (x%64):Nat):Int):=by rw[uq];exact(Int.natCast_ediv _ _).symm
 have hx16:x<65536:=by omega
 clear Tc;generalize x%64=r at *
 generalize z / 2 ^ r=y at *
 have acP:((y:Int)%2 == 1)=v:=by rw[← hbv];simp
 generalize x / 64=q at *
 go_enter Tryz.func124,Tryz.ntmps124;go_wp2;go_ret;exact⟨rfl,(ah.refl _ _).alloc _⟩
def GD (F:Nat→Bool) (M k:Nat):List Bool:=(List.range M).map fun i=>decide (i<k)&&F i
theorem Mv (F:Nat→Bool) (M:Nat):GD F M 0=List.replicate M false:=by
 apply List.ext_getElem?;intro i;rcases Nat.lt_or_ge i M with h | h
 ·simp[GD,h]
 ·rw[List.getElem?_eq_none (by simpa [GD] using h),List.getElem?_eq_none (by simpa using h)]
theorem PI (F:Nat→Bool) (M:Nat):GD F M M=vals M F:=by
 unfold GD vals;refine List.map_congr_left fun i hi=>?_
 rw[decide_eq_true (List.mem_range.1 hi),Bool.true_and]
theorem PK (F:Nat→Bool) {M k:Nat} (h:k<M):(GD F M k).set k (F k)=GD F M (k+1):=by
 apply List.ext_getElem?;intro i;rcases Nat.lt_or_ge i M with hi | hi
 ·rw[List.getElem?_set];simp only[GD,List.getElem?_map,List.getElem?_range hi,Option.map_some,List.length_map,List.length_range,h,if_true];by_cases he:k=i
  ·subst he;simp
  ·rw[if_neg he];congr 2;rw[decide_eq_decide];omega
 ·rw[List.getElem?_eq_none (by simp[GD,hi]),List.getElem?_eq_none (by simp[GD,hi])]
theorem GG (v:Nat) (hv:v<n) (hlo:TW w n lo) (hhi:TW w n hi) :
  Calls Tryz.prog 104 #[.int .i64 v,lo.val,hi.val] w (EE w n (qJ n v lo.ws hi.ws)):=by
 have hn:=hlo.fm.n16;have HF:=Lib.hid (fun A C w' (h:BL w' A (2 ^ n) (vals (2 ^ n) (Yj v lo.ws hi.ws)))=>vV n C A (Yj v lo.ws hi.ws) w' hn h);unfold qJ;have Bw:=Lib.hid (fun w' (hs:Same w w') x hx=>Cn (hlo.same hs) x hx);have Dq:=Lib.hid (fun w' (hs:Same w w') x hx=>Cn (hhi.same hs) x hx);have Re:=Lib.hid (show ∀ k,Yj v lo.ws hi.ws k=if k.testBit v then vb hi.ws k else vb lo.ws k from fun k=>rfl);have hNl:=hlo.N;have hNh:=hhi.N;clear hlo hhi;obtain⟨F,hF⟩:∃ F,F=Yj v lo.ws hi.ws:=⟨_,rfl⟩;rw[← hF] at HF Re ⊢;clear hF;obtain⟨W,hW⟩:∃ W,W=tab n F:=⟨_,rfl⟩;rw[← hW] at HF ⊢;clear hW;unfold Tb.val at Bw Dq ⊢;rw[hNl] at Bw ⊢;rw[hNh] at Dq ⊢;clear hNl hNh;have hp:(2:Nat) ^ n≤2 ^ 16:=Nat.pow_le_pow_right (by omega) hn;have h2:(2:Int) ^ n=((2 ^ n:Nat):Int):=by rw[Int.natCast_pow];rfl
 obtain⟨M,hM⟩:∃ M,M=2 ^ n:=⟨_,rfl⟩;rw[← hM] at HF Bw Dq hp h2;have xO:min n 64=n:=by omega
 have XO:min v 64=v:=by omega
 have hv0:(0:Int)≤v:=by omega
 have hw:IntKind.i64.wrap ((2:Int) ^ n)=(M:Int):=by rw[h2];exact IntWalk.i64_in _ (by omega)
 have hw2:wrap64 ((2:Int) ^ n)=(M:Int):=by rw[← hw];simp[IntKind.wrap_i64,wrap64]
 have hmk:=fun w=>eZ (P:=Tryz.prog) Tryz.underlying56 kL .i64 .i64 M (show 1*M≤281474976710656 by omega) (show M≤9223372036854775807 by omega) w
 clear hM h2;go_enter Tryz.func104,Tryz.ntmps104;go_upto_region 2 with fail
 refine ai fun w1 hw1=>?_
 have hs1:Same w w1:=by rw[hw1];exact((((ah.refl _ _).alloc _).alloc _).alloc _).alloc _
 have hBL:ax w1 w.heap.size 108 #[.int .i64 n,.slice lo.A lo.ws.length lo.C]:=by
  rw[hw1];exact((((ax.new w 108 #[.int .i64 n,.slice lo.A lo.ws.length lo.C]).alloc _).alloc _).alloc _)
 have hBH:ax w1 (w.heap.size+1) 108 #[.int .i64 n,.slice hi.A hi.ws.length hi.C]:=by
  rw[hw1]
  have:=((ax.new (w.alloc (.cells #[.int .i64 n,.slice lo.A lo.ws.length lo.C] 108)) 108 #[.int .i64 n,.slice hi.A hi.ws.length hi.C]).alloc (.cells #[.int .i64 0,.slice none 0 0] 108)).alloc (.cells (madeCells #[.bool false] M) 4)
  simpa using this
 have fV:ax w1 (w.heap.size+1+1) 108 #[.int .i64 0,.slice none 0 0]:=by
  rw[hw1]
  have:=((ax.new ((w.alloc (.cells #[.int .i64 n,.slice lo.A lo.ws.length lo.C] 108)).alloc (.cells #[.int .i64 n,.slice hi.A hi.ws.length hi.C] 108)) 108 #[.int .i64 0,.slice none 0 0]).alloc (.cells (madeCells #[.bool false] M) 4))
  simpa using this
 have hO:Go.Tk.Own w1 4 1 Kg (some ⟨w.heap.size+1+1+1,0,none⟩) M M (GD F M 0):=by
  have h:=Own.mh (m:=1) (((w.alloc (.cells #[.int .i64 n,.slice lo.A lo.ws.length lo.C] 108)).alloc (.cells #[.int .i64 n,.slice hi.A hi.ws.length hi.C] 108)).alloc (.cells #[.int .i64 0,.slice none 0 0] 108)) 4 Kg (fun _=>rfl) (by decide) false M (show M≤9223372036854775807 by omega) rfl;rw[hw1];simpa [Kg,Mv] using h
 obtain⟨T1,hT1⟩:∃ z,z=w.heap.size:=⟨_,rfl⟩;obtain⟨T2,EN⟩:∃ z,z=w.heap.size+1:=⟨_,rfl⟩;obtain⟨R,hR⟩:∃ z,z=w.heap.size+1+1:=⟨_,rfl⟩;obtain⟨G,hG⟩:∃ z,z=w.heap.size+1+1+1:=⟨_,rfl⟩;have o6:w.heap.size≤R:=by omega
 have Va:w.heap.size≤G:=by omega
 have Vb:G≠R:=by omega
 have hG1:G≠T1:=by omega
 have hG2:G≠T2:=by omega
 have Tv:T1+1=T2:=by omega
 have hR2:T2+1=R:=by omega
 have Mg:R+1=G:=by omega
 simp only[← hT1,Tv,hR2,Mg] at hBL hBH fV hO;simp only[← hT1,Tv,hR2,Mg];have HS:=Lib.hid hs1;have QN:=Lib.hid hBL;have Yk:=Lib.hid hBH;have bP:=Lib.hid fV;have HO:=Lib.hid hO;clear hw1 hs1 hBL hBH fV hO hT1 EN hR hG Tv hR2 Mg hmk hw hw2 xO;go_wp2;go_loopw [8] (fun i wi=>∃ k:Nat,k≤M∧i=.int .i64 k∧Same w wi∧ax wi T1 108 #[.int .i64 n,.slice lo.A lo.ws.length lo.C]∧ax wi T2 108 #[.int .i64 n,.slice hi.A hi.ws.length hi.C]∧ax wi R 108 #[.int .i64 0,.slice none 0 0]∧Go.Tk.Own wi 4 1 Kg (some ⟨G,0,none⟩) M M (GD F M k)) (fun i _=>M-(intOf i).toNat)
 case atStart=>exact⟨0,by omega,rfl,HS.out,QN.out,Yk.out,bP.out,HO.out⟩
 case round =>
  clear HS QN Yk bP HO;obtain⟨k,hk,rfl,hs,hbl,Vf,hbr,ho⟩:=hrel;have l0:=hbl.cell 0;have l1:=hbl.cell 1;have ll:=hbl.lt;have h0:=Vf.cell 0;have h1:=Vf.cell 1;have lh:=Vf.lt;simp at l0 l1 h0 h1;by_cases hlt:k<M
  ·have hlk:k<(GD F M k).length:=by rw[← ho.len];exact hlt
   obtain⟨x,hx⟩:∃ x,(GD F M k)[k]?=some x:=⟨_,List.getElem?_eq_getElem hlk⟩;have hst:=fun w' (hw:Same wr w')=>Own.l5 (c:=fun x:Bool=>.bool x) (Own.ag ho hw (fun _ _=>id)) hlk (F k)
   rw[PK F hlt] at hst;obtain⟨tb,htb⟩:∃ z,k.testBit v=z:=⟨_,rfl⟩;have Tw:=Re.out k;rw[htb] at Tw;have aaV:(((k:Int) / 2 ^ v).tmod 2 == 1)=tb:=by rw[← htb];exact Gz k v
   have hk0:(0:Int)≤k:=by omega
   have hk1:(k:Int)<M:=by omega
   have abd:=hbl;have QN:=Lib.hid hbl;have Yk:=Lib.hid Vf;have bP:=Lib.hid hbr;have HS:=Lib.hid hs;have HST:=Lib.hid hst;have HO:=Lib.hid ho;have HX:=Lib.hid hx;clear hbl Vf hbr hs hst ho abd htb hx hlk;cases tb with
   | true =>
    obtain⟨bv,hbv⟩:∃ z,vb hi.ws k=z:=⟨_,rfl⟩;rw[if_pos rfl,hbv] at Tw;have hcb:=Dq.out wr HS.out k hlt;rw[hbv] at hcb;have Mw:=Lib.hid hcb;rw[Tw] at HST;clear hcb hbv Tw;go_wp2_with (fail)
    refine Mw.out.mono ?_;rintro e w2 ⟨rfl,hs2⟩;obtain⟨s0,h00,hgl,c0⟩:=Own.dQ (c:=fun x:Bool=>.bool x) (Own.ag HO.out hs2 (fun _ _=>id)) HX.out;injection h00 with h00
    injection h00 with h00
    subst h00;have fz:=Own.free (Own.ag HO.out hs2 (fun _ _=>id)) k;have HP:=Lib.hid (HST.out w2 hs2);have Tj:=Lib.hid ((HS.out.trans hs2 (fun _ _ h=>h)).aj k (.bool bv) Va);have Au:=Lib.hid ((QN.out.ag hs2 id).far (p:=⟨G,k,none⟩) (Ne.symm hG1) (.bool bv));have zn:=Lib.hid ((Yk.out.ag hs2 id).far (p:=⟨G,k,none⟩) (Ne.symm hG2) (.bool bv));have PL:=Lib.hid ((bP.out.ag hs2 id).far (p:=⟨G,k,none⟩) (Ne.symm Vb) (.bool bv));clear hs2 l0 l1 ll h0 h1 lh;go_wp2;go_roundw
    case rel=>exact⟨k+1,by omega,by go_num,Tj.out,Au.out,zn.out,PL.out,HP.out⟩
    case measure=>simp[intOf] <;> omega
   | false =>
    obtain⟨bv,hbv⟩:∃ z,vb lo.ws k=z:=⟨_,rfl⟩;rw[if_neg (by decide),hbv] at Tw;have hcb:=Bw.out wr HS.out k hlt;rw[hbv] at hcb;have Mw:=Lib.hid hcb;rw[Tw] at HST;clear hcb hbv Tw;go_wp2_with (fail)
    refine Mw.out.mono ?_;rintro e w2 ⟨rfl,hs2⟩;obtain⟨s0,h00,hgl,c0⟩:=Own.dQ (c:=fun x:Bool=>.bool x) (Own.ag HO.out hs2 (fun _ _=>id)) HX.out;injection h00 with h00
    injection h00 with h00
    subst h00;have fz:=Own.free (Own.ag HO.out hs2 (fun _ _=>id)) k;have HP:=Lib.hid (HST.out w2 hs2);have Tj:=Lib.hid ((HS.out.trans hs2 (fun _ _ h=>h)).aj k (.bool bv) Va);have Au:=Lib.hid ((QN.out.ag hs2 id).far (p:=⟨G,k,none⟩) (Ne.symm hG1) (.bool bv));have zn:=Lib.hid ((Yk.out.ag hs2 id).far (p:=⟨G,k,none⟩) (Ne.symm hG2) (.bool bv));have PL:=Lib.hid ((bP.out.ag hs2 id).far (p:=⟨G,k,none⟩) (Ne.symm Vb) (.bool bv));clear hs2 l0 l1 ll h0 h1 lh;go_wp2;go_roundw
    case rel=>exact⟨k+1,by omega,by go_num,Tj.out,Au.out,zn.out,PL.out,HP.out⟩
    case measure=>simp[intOf] <;> omega
  ·obtain rfl:k=M:=by omega
   have HB:=Lib.hid (show BL wr (some ⟨G,0,none⟩) k (vals k F) by rw[← PI];exact ho.sl (fun _=>rfl));have HS:=Lib.hid hs;have bP:=Lib.hid hbr;clear hs hbr ho hbl Vf h0 h1 lh;go_wp2_with (fail)
   refine(HF.out (some ⟨G,0,none⟩) k wr HB.out).mono ?_;rintro e w2 ⟨A,C,rfl,dX⟩;have fV:=bP.out.ag dX.2.2 id;have ZX:w2.cell? ⟨R,0,none⟩=some (.int .i64 0):=fV.cell 0;have ZY:w2.cell? ⟨R,1,none⟩=some (.slice none 0 0):=fV.cell 1;have lR:=fV.lt;have ZZ:=fV.free 0;have Z0:=fV.free 1;have HB2:=Lib.hid fV;have XN:=Lib.hid dX.1;have OT:=Lib.hid (show bQ w.heap.size A from fun x hx=>Nat.le_trans HS.out.size (dX.2.1 x hx));have Rc:=Lib.hid (show ∀ a,A=some a→a.block≠R from fun a ha h=>by have:=dX.2.1 a.block ⟨a,ha,rfl⟩;have:=bP.out.lt;omega);have HS2:=Lib.hid (HS.out.trans dX.2.2 (fun _ _ h=>h));clear dX fV l0 l1 ll;go_wp2;refine bE fun w3 hw3=>?_
   have dx:ax w3 R 108 #[.int .i64 n,.slice A W.length C]:=by
    rw[hw3]
    have:=(HB2.out.set 0 (.int .i64 n)).set 1 (.slice A W.length C)
    simpa using this
   have jl:Same w w3:=by rw[hw3];exact(HS2.out.aj 0 _ o6).aj 1 _ o6
   have xP:dN w3 A W.length C W:=by
    rw[hw3];exact(Own.far (p:=⟨R,0,none⟩) XN.out Rc.out _).far (p:=⟨R,1,none⟩) Rc.out _
   have hr0:w3.cell? ⟨R,0,none⟩=some (.int .i64 n):=dx.cell 0;have hr1:w3.cell? ⟨R,1,none⟩=some (.slice A W.length C):=dx.cell 1;have Re:=OT.out;clear hw3 dx;refine bodyPost_ret (v:=.agg #[.int .i64 n,.slice A W.length C]) (by simp[results,Tryz.results104,go_sem,hr0,hr1]) rfl ?_;exact⟨A,C,rfl,xP,Re,jl⟩
end
def lM (mp:Nat) (a:MA) (b:Nat):Prop:=b=mp∨rowOf a.oA b∨rowOf a.hA b∨rowOf a.tA b
structure iW (mp:Nat) (w:World) (a:MA) (w':World) (a':MA):Prop where
 ag:ah (lM mp a) w w'
 fp:∀ b,lM mp a' b→lM mp a b∨w.heap.size≤b
def rU (M:MS):Prop:=∀ p∈M.held,0≤p.2∧p.2≤65535
def qA:List (List Nat×Int)→List Nat→List (List Nat×Int)×Int
 | [],z=>([(z,1)],0)
 | (y,c)::l,z=>if y=z then (if 65535≤c then ((y,c)::l,8) else ((y,c+1)::l,0)) else ((y,c)::(qA l z).1,(qA l z).2)
def zS:List (List Nat×Int)→List Nat→List (List Nat×Int)×Int
 | [],_=>([],3)
 | (y,c)::l,z=>if y=z then (if c-1=0 then (l,0) else ((y,c-1)::l,0)) else ((y,c)::(zS l z).1,(zS l z).2)
theorem Mx {l:List (List Nat×Int)} {z:List Nat} (hn:∀ p∈l,p.1≠z):qA l z=(l++[(z,1)],0):=by
 induction l with
 | nil=>rfl
 | cons p l ih =>
  obtain⟨y,c⟩:=p;rw[qA,if_neg (hn (y,c) (List.mem_cons_self ..)),ih (fun q hq=>hn q (List.mem_cons_of_mem _ hq))];rfl
theorem MB {l:List (List Nat×Int)} {z:List Nat} {c:Int}:∀ {k:Nat},l[k]?=some (z,c)→(∀ p∈l.take k,p.1≠z)→qA l z=if 65535≤c then (l,8) else (l.set k (z,c+1),0):=by
 induction l with
 | nil=>intro k h;simp at h
 | cons p l ih =>
  intro k h hn;obtain⟨y,d⟩:=p;cases k with
  | zero =>
   simp at h;obtain⟨rfl,rfl⟩:=h;rw[qA,if_pos rfl];rfl
  | succ k =>
   rw[qA,if_neg (hn (y,d) (by simp)),ih (k:=k) (by simpa using h) (fun q hq=>hn q (by simp[hq]))];split <;> rfl
theorem PM {l:List (List Nat×Int)} {z:List Nat} (hn:∀ p∈l,p.1≠z):zS l z=(l,3):=by
 induction l with
 | nil=>rfl
 | cons p l ih =>
  obtain⟨y,c⟩:=p;rw[zS,if_neg (hn (y,c) (List.mem_cons_self ..)),ih (fun q hq=>hn q (List.mem_cons_of_mem _ hq))]
theorem PN {l:List (List Nat×Int)} {z:List Nat} {c:Int}:∀ {k:Nat},l[k]?=some (z,c)→(∀ p∈l.take k,p.1≠z)→zS l z=if c-1=0 then (l.take k++l.drop (k+1),0) else (l.set k (z,c-1),0):=by
 induction l with
 | nil=>intro k h;simp at h
 | cons p l ih =>
  intro k h hn;obtain⟨y,d⟩:=p;cases k with
  | zero =>
   simp at h;obtain⟨rfl,rfl⟩:=h;rw[zS,if_pos rfl];rfl
  | succ k =>
   rw[zS,if_neg (hn (y,d) (by simp)),ih (k:=k) (by simpa using h) (fun q hq=>hn q (by simp[hq]))];split <;> rfl
section
variable {w w':World} {mp:Nat} {M:MS} {a:MA} {n:Nat} {t:Tb}
theorem iW.same (hf:Same w w'):iW mp w a w' a:=⟨hf.mono (fun _ _ h=>h.elim),fun _ h=>.inl h⟩
theorem iW.refl (mp:Nat) (w:World) (a:MA):iW mp w a w a:=⟨ah.refl _ _,fun _ h=>.inl h⟩
theorem iW.trans {w1 w2:World} {a1 a2:MA} (h:iW mp w a w1 a1) (g:iW mp w1 a1 w2 a2):iW mp w a w2 a2 :=
 ⟨h.ag.trans g.ag (fun i hi hk=>(h.fp i hk).elim id (fun h=>by omega)),fun b hb=>(g.fp b hb).elim (h.fp b) (fun h2=>.inr (Nat.le_trans h.ag.size h2))⟩
theorem dV {e:TypeId} {m:Nat} {α:Type} {f:α→List Value} {A:Option Addr} {N C:Nat} {xs:List α} (h:Go.Tk.Own w e m f A N C xs) {b:Nat} (hb:rowOf A b):b<w.heap.size:=by
 obtain⟨x,hx,rfl⟩:=hb;exact h.block x hx
theorem MW.lt (h:MW w mp M a) {b:Nat} (hb:lM mp a b):b<w.heap.size:=by
 rcases hb with rfl | hb | hb | hb
 ·exact h.blk.lt
 ·exact dV h.ord hb
 ·exact dV h.hs hb
 ·exact dV h.tr hb
theorem MW.aL (h:MW w mp M a) {e:TypeId} {m:Nat} {α:Type} {f:α→List Value} {A:Option Addr} {N C:Nat} {xs:List α} (ho:Go.Tk.Own w e m f A N C xs) (h1:e≠112) (h2:e≠155) (h3:e≠3):∀ b,rowOf A b→¬ lM mp a b:=by
 rintro b hb (rfl | hk | hk | hk)
 ·obtain⟨x,hx,hxb⟩:=hb;exact ho.av h.blk h1 x hx hxb
 ·exact ho.aL h.ord h3 b hb hk
 ·exact ho.aL h.hs h2 b hb hk
 ·exact ho.aL h.tr h3 b hb hk
theorem TW.Jj (ht:TW w n t) (h:MW w mp M a) {S:Nat→Prop} (hf:ah S w w') (hS:∀ b,S b→lM mp a b):TW w' n t :=
 ⟨ht.N,ht.own.ag hf (fun x hx hs=>h.aL ht.own (by decide) (by decide) (by decide) x.block ⟨x,hx,rfl⟩ (hS _ hs)),ht.fm,ht.sm⟩
theorem MW.ag {S:Nat→Prop} (h:MW w mp M a) (hf:ah S w w') (hs:∀ b,lM mp a b→¬ S b) (ht:∀ q∈a.hs,∀ b,rowOf q.t.A b→¬ S b):MW w' mp M a :=
 ⟨h.blk.ag hf (hs _ (.inl rfl)),h.ord.ag hf (fun x hx=>hs _ (.inr (.inl ⟨x,hx,rfl⟩))),h.hs.ag hf (fun x hx=>hs _ (.inr (.inr (.inl ⟨x,hx,rfl⟩)))),fun q hq=>⟨(h.tw q hq).N,(h.tw q hq).own.ag hf (fun x hx=>ht q hq _ ⟨x,hx,rfl⟩),(h.tw q hq).fm,(h.tw q hq).sm⟩,h.held,h.tr.ag hf (fun x hx=>hs _ (.inr (.inr (.inr ⟨x,hx,rfl⟩)))),h.n16,h.ol,h.hl,h.trl,h.dj⟩
end
theorem addr_add (b off j:Nat):(⟨b,off,none⟩:Addr).add j=⟨b,off+j,none⟩:=by unfold Addr.add;split <;> simp_all
theorem Sl.source {w:World} {A:Option Addr} {n m:Nat} {α:Type} {f:α→List Value} {xs:List α} (hf:∀ x,(f x).length=m) (hm:0<m) (h:Sl w m f A n xs) (hne:xs≠[]):∃ ad,A=some ad∧∀ j u,(xs.flatMap f)[j]?=some u→w.cell? (ad.add j)=some u:=by
 obtain⟨b,off,rfl,_,_⟩:=h.get 0 _ (List.getElem?_eq_getElem (List.length_pos_iff.2 hne));refine⟨_,rfl,fun j u hj=>?_⟩;have hjm:j=j / m*m+j%m:=by rw[Nat.mul_comm];exact(Nat.div_add_mod j m).symm
 have hj':=hj;rw[hjm,flat_get f m hf _ _ _ (Nat.mod_lt _ hm)] at hj';cases hx:xs[j / m]? with
 | none=>rw[hx] at hj';cases hj'
 | some x =>
  rw[hx] at hj';obtain⟨b2,o2,hA,_,hc⟩:=h.get _ _ hx;injection hA with hA
  injection hA with h1 h2
  subst h1 h2;have hadd:(⟨b,off,none⟩:Addr).add j=⟨b,off+j / m*m+j%m,none⟩:=by
   rw[addr_add];congr 1;omega
  rw[hadd,hc _ (Nat.mod_lt _ hm)];exact hj'
section
variable {w w':World} {mp:Nat} {M:MS} {a:MA} {n:Nat} {t:Tb} {A:Option Addr} {C:Nat} {ts us:List Tb} {lo:Nat}
theorem Tb.one (t:Tb):∀ u∈t.cells,u.oneCell'=true:=by
 intro u hu;simp only[Tb.cells,List.mem_cons,List.not_mem_nil,or_false] at hu;rcases hu with rfl | rfl <;> rfl
theorem TN.app (h:TN lo w n A C ts) (hu:∀ t∈us,TW w n t) {wb:World} {A':Option Addr} {C':Nat} (hO:Go.Tk.Own wb 108 2 Tb.cells A' (ts++us).length C' (ts++us)) (hg:w.grownBy wb (Value.slice A ts.length C).ownBlock)
  (hat:∀ b,rowOf A' b→rowOf A b∨b=w.heap.size) (hlo:lo≤w.heap.size):TN lo wb n A' C' (ts++us)∧∀ (w0:World),Same w0 w→w0.heap.size=lo→Same w0 wb:=by
 have kp:∀ u,TW w n u→TW wb n u:=fun u hu=>⟨hu.N,hu.own.gH hg (fun b hb hA=>h.own.aL hu.own (by decide) b (af.1 hb) hA),hu.fm,hu.sm⟩
 refine⟨⟨hO,fun u hm=>?_,fun b hb=>?_⟩,fun w0 hs hz=>hs.grown hg (fun g' hg'=>.inr ?_)⟩
 ·rcases List.mem_append.1 hm with hm | hm
  ·exact kp u (h.tw u hm)
  ·exact kp u (hu u hm)
 ·rcases hat b hb with h1 | h1
  ·exact h.fresh b h1
  ·omega
 ·rw[hz];exact h.fresh g' (af.1 hg')
theorem sS (A:Option Addr) (n C:Nat) (xs:List Int) (l:Nat) (w:World) (h:IL w A n xs) (hr:n*8≤140737488351232) (hl:l+2≤n) :
  Calls Tryz.prog 110 #[.slice A n C,.int .i64 l] w (IU w (swp xs l)):=by
 obtain rfl:=h.len;have H:=Lib.hid h;clear h;go_enter Tryz.func110,Tryz.ntmps110;go_upto_region 2 with fail
 refine aV 2 ?_;simp only[List.take_succ_cons,List.take_zero,List.drop_succ_cons,List.drop_zero];repeat (any_goals (first | go_big_quiet_step (fail) | quiet_step (fail)))
 refine wpQuiet_nil ?_;refine wpList_plain rfl fun K hK=>?_
 refine Own.bT (.tmp 6) (.tmp 7) _ rfl Tryz.underlying46 jN rfl (by omega) rfl (Own.nil w _ _ _) (fun _=>rfl) xs A C rfl (fun hne=>IL.src H.out hne) (by simp[eU,Value.oneCell']) (by simp[maxLen] <;> omega) (by simp <;> omega) ?_;intro A2 C2 w2 hO hg hat;refine hK _ _ ?_;clear hK K;simp only[List.nil_append] at hO ⊢;have MC:=Same.app (ah.refl _ w) (ah.refl _ _) hg (aS _);obtain⟨a,ha⟩:∃ a,xs[l]?=some a:=⟨_,List.getElem?_eq_getElem (by omega)⟩;obtain⟨b,hb⟩:∃ b,xs[l+1]?=some b:=⟨_,List.getElem?_eq_getElem (by omega)⟩;obtain⟨sb,rfl,hsb,ca⟩:=hO.dQ (c:=fun x=>.int .i64 x) ha;obtain⟨sb',tu,_,cb⟩:=hO.dQ (c:=fun x=>.int .i64 x) hb;injection tu with tu
 injection tu with tu
 subst tu;have fa:=Own.free hO l;have fb:=Own.free hO (l+1);have Tx:w.heap.size≤sb:=by
  rcases hat sb ⟨_,rfl,rfl⟩ with⟨a,h,_⟩ | h
  ·cases h
  ·omega
 have HO:=Lib.hid hO;have HS:=Lib.hid MC;have HA:=Lib.hid ha;have HB:=Lib.hid hb;clear hO MC ha hb hg hat;have hw0:IntKind.i64.wrap ((l:Int)+1)=l+1:=IntWalk.i64_in _ (by omega);have hw1:(0:Int)≤(l:Int)+1:=by omega
 have hw2:((l:Int)+1).toNat=l+1:=by omega
 have hw3:(l:Int)+1<xs.length:=by omega
 have hw4:(l:Int)<xs.length:=by omega
 have lu:(0:Int)≤(l:Int):=by omega
 go_upto_region 3 with fail
 go_region
 have h1:=Own.l5 (c:=fun x=>.int .i64 x) HO.out (i:=l) (by omega) b;have h2:=Own.l5 (c:=fun x=>.int .i64 x) h1 (i:=l+1) (by rw[List.length_set];omega) a;rw[← swp_get xs l HA.out HB.out] at h2;have h3:gq ((w2.setCell ⟨sb,l,none⟩ (.int .i64 b)).setCell ⟨sb,l+1,none⟩ (.int .i64 a)).drew 3 (some ⟨sb,0,none⟩) xs.length C2 (swp xs l):=Own.ag h2 ((ah.refl (fun _=>False) _).drew) (fun _ _=>id);have hs3:Same w ((w2.setCell ⟨sb,l,none⟩ (.int .i64 b)).setCell ⟨sb,l+1,none⟩ (.int .i64 a)).drew:=((HS.out.aj _ _ Tx).aj _ _ Tx).drew;generalize ((w2.setCell ⟨sb,l,none⟩ (.int .i64 b)).setCell ⟨sb,l+1,none⟩ (.int .i64 a)).drew=w3 at h3 hs3 ⊢;have RO:=Lib.hid h3;have dY:=Lib.hid hs3;clear h1 h2 h3 hs3 ca cb fa fb hw0 hw1 hw2 hw3 hw4 lu;go_wp2;go_ret;exact⟨some ⟨sb,0,none⟩,C2,by rw[je];rfl,by rw[je];exact RO.out,bR Tx,dY.out⟩
def Cq (M:MS) (zs:List (List Nat)):Bool:=decide (2+wD M (kC M++zs)≤M.c)
theorem ME (M:MS) (zs:List (List Nat)) (hz:zs.length≤2000000) (ho:M.ord.length≤16):wD M zs≤2097152000000:=by
 unfold wD Cj;have h1:=nP (aM M.n zs M.ord) 131072000000 (gp M.n zs hz M.ord ho) (aM M.n zs M.ord).length;rw[List.take_length] at h1;have h2:(aM M.n zs M.ord).length≤16:=by
  unfold aM;rw[eu];simpa using ho
 have:=Nat.mul_le_mul_right 131072000000 h2
 omega
theorem MF (hM:MW w mp M a) (ho:eY M) (hL:TL w M.n A ts) (hl:ts.length≤100000) :
  Calls Tryz.prog 133 #[.pointer (some ⟨mp,0,none⟩),.slice A ts.length C] w fun e w'=>e=.returned (.bool (Cq M (ts.map Tb.ws)))∧Same w w':=by
 have HM:=Lib.hid hM;have HO:=Lib.hid ho;have HL:=Lib.hid hL;clear hM ho hL;have htb:=o8 HM.out;have QT:=Lib.hid htb;obtain⟨fb,wZ⟩:∃ z,Cq M (ts.map Tb.ws)=z:=⟨_,rfl⟩;rw[wZ];have J8:=Lib.hid wZ;clear wZ;have hmc:=HM.out.c1;have hml:=HM.out.blk.lt;have QS:M.held.length≤1500000:=HM.out.hl;clear htb;have HMC:=Lib.hid hmc;clear hmc hml;go_enter Tryz.func133,Tryz.ntmps133;go_upto_region 2 with fail
 refine aV 2 ?_;simp only[List.take_succ_cons,List.take_zero,List.drop_succ_cons,List.drop_zero];repeat (any_goals (first | go_big_quiet_step (fail) | quiet_step (fail)))
 refine wpQuiet_nil ?_;refine wpList_plain rfl fun K hK=>?_
 go_simp;refine QT.out.mono ?_;rintro e w1 ⟨A1,C1,us,rfl,hN,hz,qY,hs1⟩;refine hK _ _ ?_;clear hK K;refine wpList_plain rfl fun K hK=>?_
 refine Own.bT (.tmp 6) (.tmp 8) _ rfl Tryz.underlying55 fq rfl (by omega) rfl (Own.nil w1 _ _ _) Tb.ak us A1 C1 rfl (fun hne=>Sl.source Tb.ak (by omega) hN.tl.sl hne) (fun y _=>Tb.one y) (by simp[maxLen] <;> omega) (by simp <;> omega) ?_;intro A2 C2 w2 hO2 hg2 MG;refine hK _ _ ?_;clear hK K;simp only[List.nil_append] at hO2 ⊢;have hp2:=TN.app (A:=none) (C:=0) (ts:=[]) (us:=us) (TN.nil w1.heap.size w1 M.n) hN.tw (by rw[List.nil_append];exact hO2) hg2 MG (Nat.le_refl _);have hs2:Same w1 w2:=hp2.2 w1 (ah.refl _ _) rfl;have Mo:=hp2.1;rw[List.nil_append] at Mo;have HZ:=Lib.hid hz;have HS2:=Lib.hid (hs1.trans hs2 (fun _ _ h=>h));have Jk:=Lib.hid hs2;have abe:=Lib.hid hs1;have FQ:=Lib.hid Mo;have HL2:=Lib.hid (HL.out.same HS2.out);clear hz hs1 hN hp2 hs2 Mo hO2 hg2 MG;go_upto_region 3 with fail
 refine aV 2 ?_;simp only[List.take_succ_cons,List.take_zero,List.drop_succ_cons,List.drop_zero];repeat (any_goals (first | go_big_quiet_step (fail) | quiet_step (fail)))
 refine wpQuiet_nil ?_;refine wpList_plain rfl fun K hK=>?_
 refine Own.bT (.tmp 10) (.tmp 11) _ rfl Tryz.underlying55 fq rfl (by omega) rfl FQ.out.own Tb.ak ts A C rfl (fun hne=>Sl.source Tb.ak (by omega) HL2.out.sl hne) (fun y _=>Tb.one y) (by simp[maxLen] <;> omega) (by omega) ?_;intro A3 C3 w3 hO3 hg3 zT;refine hK _ _ ?_;clear hK K;have hp3:=TN.app FQ.out HL2.out.tw hO3 hg3 zT Jk.out.size;have hs3:Same w w3:=abe.out.trans (hp3.2 w1 Jk.out rfl) (fun _ _ h=>h);have Yh:=hp3.1;have hsz:∀ w',Same w3 w'→Calls Tryz.prog 138 #[.pointer (some ⟨mp,0,none⟩),.slice A3 (us.length+ts.length) C3] w' fun e w''=>e=.returned (.int .i64 (wD M (kC M++ts.map Tb.ws)))∧Same w' w'':=by
  intro w' hw
  have:=Ji (C:=C3) (HM.out.same (hs3.trans hw (fun _ _ h=>h))) HO.out (Yh.tl.same hw) (by simp <;> omega)
  rwa [List.map_append,HZ.out,List.length_append] at this
 have hle:=ME M (kC M++ts.map Tb.ws) (by simp[kC] <;> omega) HM.out.ol;have wZ:=J8.out;unfold Cq at wZ;obtain⟨s,hsd⟩:∃ s,wD M (kC M++ts.map Tb.ws)=s:=⟨_,rfl⟩;rw[hsd] at hsz hle wZ;have c1:=(HM.out.same hs3).c1;have hml:=(HM.out.same hs3).blk.lt;have tJ:=Lib.hid hsz;have dY:=Lib.hid hs3;clear hp3 hs3 Yh hsz hO3 hg3 zT hsd;have hw1:IntKind.i64.wrap (2+(s:Int))=((2+s:Nat):Int):=by rw[IntWalk.i64_in _ (by omega)];omega
 have hdec:decide (((2+s:Nat):Int)≤(M.c:Int))=fb:=by rw[← wZ,decide_eq_decide];omega
 clear wZ;go_upto_region 4 with fail
 refine aJ (fun _=>False) [([0,1,4,5,6,7],2),([3,8],9)] (by kernel_rfl) (by kernel_rfl) ?_;simp only[cK,pick,List.map_cons,List.map_nil,List.getD_cons_zero,List.getD_cons_succ];have hs:Same w3 w3.drew:=(ah.refl _ _).drew;repeat (any_goals (first | go_big_quiet_step (fail) | quiet_step (fail)))
 refine wpQuiet_nil ?_;refine aa rfl fun K hK=>?_
 go_simp;refine(tJ.out _ hs).mono ?_;rintro e w4 ⟨rfl,hs4⟩;have hs:=hs.trans hs4 (fun _ _ h=>h);refine hK _ _ (aZ.bu (ah.mono hs (fun _ _ h=>h.elim))) ?_;have c1:=(hs.cell (p:=⟨mp,1,none⟩) hml id).trans c1;have hml:mp<w4.heap.size:=Nat.lt_of_lt_of_le hml hs.size;have iB:=Lib.hid (dY.out.trans hs (fun _ _ h=>h));clear hK K hs hs4;repeat (any_goals (first | go_big_quiet_step (fail) | quiet_step (fail)))
 refine wpQuiet_nil ?_;go_wp2;go_ret;exact⟨congrArg (fun b=>Ending.returned (Value.bool b)) hdec,iB.out⟩
end
def mU (M:MS) (z:List Nat):MS×Int:=if fE M.n z then (M,0) else ({ M with held:=(qA M.held z).1 },(qA M.held z).2)
def ku (M:MS) (a:MA):Array Value:=#[.int .i64 M.n,.int .i64 M.c,.slice a.oA M.ord.length a.oC,.slice a.hA a.hs.length a.hC,.slice a.tA M.tr.length a.tC]
section
variable {w w':World} {mp:Nat} {M:MS} {a:MA} {n:Nat} {t:Tb}
theorem MW.Yl (h:MW w mp M a) {i:Nat} {q:MH} (hi:a.hs[i]?=some q):∃ b,a.hA=some ⟨b,0,none⟩∧b<w.heap.size∧w.cell? ⟨b,i*3,none⟩=some (.int .i64 q.t.N)∧w.cell? ⟨b,i*3+1,none⟩=some (.slice q.t.A q.t.ws.length q.t.C)∧w.cell? ⟨b,i*3+2,none⟩=some (.int .i64 q.c):=by
 obtain⟨b,h1,h2,h3⟩:=h.hs.get MH.ak hi;exact⟨b,h1,h2,h3 0 (by omega),h3 1 (by omega),h3 2 (by omega)⟩
theorem MW.Jl (h:MW w mp M a):¬ rowOf a.hA mp:=fun ⟨x,hx,hb⟩=>h.hs.av h.blk (by decide) x hx hb
theorem MW.Ym (h:MW w mp M a):¬ rowOf a.oA mp:=fun ⟨x,hx,hb⟩=>h.ord.av h.blk (by decide) x hx hb
theorem MW.Ty (h:MW w mp M a):¬ rowOf a.tA mp:=fun ⟨x,hx,hb⟩=>h.tr.av h.blk (by decide) x hx hb
theorem MW.uV {qs:List MH} {A2:Option Addr} {C2:Nat} (h:MW w mp M a) (hf:ah (fun b=>b=mp∨rowOf a.hA b) w w') (hb:ax w' mp 112 (ku M { a with hA:=A2,hC:=C2,hs:=qs }))
  (hr:Go.Tk.Own w' 155 3 MH.cells A2 qs.length C2 qs) (hq:∀ q∈qs,TW w M.n q.t) (hn:∀ b,rowOf A2 b→rowOf a.hA b∨w.heap.size≤b) (hl:qs.length≤1500000) :
  MW w' mp { M with held:=qs.map (fun h=>(h.t.ws,h.c)) } { a with hA:=A2,hC:=C2,hs:=qs }∧iW mp w a w' { a with hA:=A2,hC:=C2,hs:=qs }:=by
 have hS:∀ b,(b=mp∨rowOf a.hA b)→lM mp a b:=fun b hb=>hb.elim .inl (fun h=>.inr (.inr (.inl h)))
 refine⟨⟨hb,h.ord.ag hf ?_,hr,fun q hm=>(hq q hm).Jj h hf hS,rfl,h.tr.ag hf ?_,h.n16,h.ol,by rw[List.length_map];exact hl,h.trl,h.dj⟩,⟨hf.mono (fun b _ hb=>hS b hb),?_⟩⟩
 ·rintro x hx (hb | hb)
  ·exact h.Ym ⟨x,hx,hb⟩
  ·exact h.ord.aL h.hs (by decide) x.block ⟨x,hx,rfl⟩ hb
 ·rintro x hx (hb | hb)
  ·exact h.Ty ⟨x,hx,hb⟩
  ·exact h.tr.aL h.hs (by decide) x.block ⟨x,hx,rfl⟩ hb
 ·rintro b (hb | hb | hb | hb)
  ·exact .inl (.inl hb)
  ·exact .inl (.inr (.inl hb))
  ·exact(hn b hb).elim (fun h=>.inl (.inr (.inr (.inl h)))) .inr
  ·exact .inl (.inr (.inr (.inr hb)))
theorem MW.ym {r:List Int} {A2:Option Addr} {C2:Nat} (h:MW w mp M a) (hf:ah (fun b=>b=mp∨rowOf a.tA b) w w') (hb:ax w' mp 112 (ku { M with tr:=r } { a with tA:=A2,tC:=C2 }))
  (hr:gq w' 3 A2 r.length C2 r) (hn:∀ b,rowOf A2 b→rowOf a.tA b∨w.heap.size≤b) (hl:r.length≤10000000000000) :
  MW w' mp { M with tr:=r } { a with tA:=A2,tC:=C2 }∧iW mp w a w' { a with tA:=A2,tC:=C2 }:=by
 have hS:∀ b,(b=mp∨rowOf a.tA b)→lM mp a b:=fun b hb=>hb.elim .inl (fun h=>.inr (.inr (.inr h)))
 refine⟨⟨hb,h.ord.ag hf ?_,h.hs.ag hf ?_,fun q hm=>(h.tw q hm).Jj h hf hS,h.held,hr,h.n16,h.ol,h.hl,hl,?_⟩,⟨hf.mono (fun b _ hb=>hS b hb),?_⟩⟩
 ·rintro x hx (hb | hb)
  ·exact h.Ym ⟨x,hx,hb⟩
  ·exact h.dj x.block ⟨x,hx,rfl⟩ hb
 ·rintro x hx (hb | hb)
  ·exact h.Jl ⟨x,hx,hb⟩
  ·exact h.hs.aL h.tr (by decide) x.block ⟨x,hx,rfl⟩ hb
 ·intro b ho ht;rcases hn b ht with h1 | h1
  ·exact h.dj b ho h1
  ·have:=dV h.ord ho;omega
 ·rintro b (hb | hb | hb | hb)
  ·exact .inl (.inl hb)
  ·exact .inl (.inr (.inl hb))
  ·exact .inl (.inr (.inr (.inl hb)))
  ·exact(hn b hb).elim (fun h=>.inl (.inr (.inr (.inr h)))) .inr
theorem MW.D9 {r:List Int} {A2:Option Addr} {C2:Nat} (h:MW w mp M a) (hf:ah (fun b=>b=mp∨rowOf a.oA b) w w') (hb:ax w' mp 112 (ku { M with ord:=r } { a with oA:=A2,oC:=C2 }))
  (hr:gq w' 3 A2 r.length C2 r) (hn:∀ b,rowOf A2 b→rowOf a.oA b∨w.heap.size≤b) (hl:r.length≤16) :
  MW w' mp { M with ord:=r } { a with oA:=A2,oC:=C2 }∧iW mp w a w' { a with oA:=A2,oC:=C2 }:=by
 have hS:∀ b,(b=mp∨rowOf a.oA b)→lM mp a b:=fun b hb=>hb.elim .inl (fun h=>.inr (.inl h))
 refine⟨⟨hb,hr,h.hs.ag hf ?_,fun q hm=>(h.tw q hm).Jj h hf hS,h.held,h.tr.ag hf ?_,h.n16,hl,h.hl,h.trl,?_⟩,⟨hf.mono (fun b _ hb=>hS b hb),?_⟩⟩
 ·rintro x hx (hb | hb)
  ·exact h.Jl ⟨x,hx,hb⟩
  ·exact h.hs.aL h.ord (by decide) x.block ⟨x,hx,rfl⟩ hb
 ·rintro x hx (hb | hb)
  ·exact h.Ty ⟨x,hx,hb⟩
  ·exact h.dj x.block hb ⟨x,hx,rfl⟩
 ·intro b ho ht;rcases hn b ho with h1 | h1
  ·exact h.dj b h1 ht
  ·have:=dV h.tr ht;omega
 ·rintro b (hb | hb | hb | hb)
  ·exact .inl (.inl hb)
  ·exact(hn b hb).elim (fun h=>.inl (.inr (.inl h))) .inr
  ·exact .inl (.inr (.inr (.inl hb)))
  ·exact .inl (.inr (.inr (.inr hb)))
theorem Jm (hM:MW w mp M a) (ht:TW w M.n t) (hc:rU M) (hl:M.held.length<1500000) :
  Calls Tryz.prog 107 #[.pointer (some ⟨mp,0,none⟩),t.val] w fun e w'=>e=.returned (.int .i64 (mU M t.ws).2)∧∃ a',MW w' mp (mU M t.ws).1 a'∧iW mp w a w' a':=by
 have htl:t.ws.length≤1000000000000000000:=by rw[ht.fm.len];have:=iD ht.fm.n16;omega
 have hsm:=fun (u:Tb) w' (h1:TW w' M.n t) (h2:TW w' M.n u)=>fJ u.N u.A u.ws.length u.C u.ws t.N t.A t.ws.length t.C t.ws w' h2.ok.wl h1.ok.wl (by rw[h2.fm.len];have:=iD h2.fm.n16;omega)
 have zQ:=Lib.hid hsm;have HM:=Lib.hid hM;have HT:=Lib.hid ht;have HC:=Lib.hid hc;have hic:=fun w' (hs:Same w w')=>j4 (ht.same hs)
 have QS:a.hs.length<1500000:=by rw[hM.hsl];exact hl
 obtain⟨R,hR⟩:∃ z,mU M t.ws=z:=⟨_,rfl⟩;rw[hR];obtain⟨cc,hcc⟩:∃ z,fE M.n t.ws=z:=⟨_,rfl⟩;unfold mU at hR;rw[hcc] at hR hic;unfold Tb.val at hic ⊢;have FW:=Lib.hid hic;have HR:=Lib.hid hR;clear hM ht hsm htl hc hic hcc hR hl;go_enter Tryz.func107,Tryz.ntmps107;go_wp2_with (fail)
 refine(FW.out _ ((ah.refl _ _).alloc _)).mono ?_;rintro e w1 ⟨rfl,hs1⟩;have hX:=(ax.new w 108 #[.int .i64 t.N,.slice t.A t.ws.length t.C]).ag hs1 id;have hs1:Same w w1:=((ah.refl _ _).alloc _).trans hs1 (fun _ _ h=>h);have HX:=Lib.hid hX;have aX:=Lib.hid hs1;have U2:w.heap.size≠mp:=by have:=HM.out.blk.lt;omega
 clear hX hs1;cases cc with
 | true =>
  have hR:=HR.out;rw[if_pos rfl] at hR;subst hR;go_wp2;go_ret;exact⟨rfl,a,HM.out.same aX.out,iW.same aX.out⟩
 | false =>
  have hR:=HR.out;rw[if_neg (by decide)] at hR;replace HR:=Lib.hid hR;clear hR;go_wp2_with (fail)
  go_loopw [5] (fun i wr=>∃ k:Nat,k≤a.hs.length∧i=.int .i64 k∧Same w1 wr∧∀ p∈M.held.take k,p.1≠t.ws) (fun i _=>a.hs.length-(intOf i).toNat)
  case atStart=>exact⟨0,by omega,rfl,ah.refl _ _,fun u hu=>by simp at hu⟩
  case round =>
   obtain⟨k,hk,rfl,hS,hno⟩:=hrel;have HS:=Lib.hid (aX.out.trans hS (fun _ _ h=>h));have HS2:=Lib.hid hS;have nY:=Lib.hid hno;have wu:=HM.out.same HS.out;have hX:=HX.out.ag hS id;have x0:=hX.cell 0;have x1:=hX.cell 1;have hxl:=hX.lt;simp at x0 x1;have c3:=wu.c3;have hml:=wu.blk.lt;have HXr:=Lib.hid hX;have Jn:=Lib.hid wu;clear hS hno hX wu;by_cases hlt:k<a.hs.length
   ·obtain⟨u,hu⟩:∃ u,a.hs[k]?=some u:=⟨_,List.getElem?_eq_getElem hlt⟩;obtain⟨b,hA,hb,d0,d1,d2⟩:=Jn.out.Yl hu;have hI:(k:Int)<(a.hs.length:Int):=by omega
    have htu:=HM.out.tw u (List.mem_of_getElem? hu);have hse:sm u.t.N t.N u.t.ws t.ws=decide (u.t.ws=t.ws):=by
     unfold sm;rw[HT.out.N,htu.N];simp
    have hat:M.held[k]?=some (u.t.ws,u.c):=by rw[← HM.out.held,List.getElem?_map,hu];rfl
    have tK:=Lib.hid (show ∀ w',Same w w'→Calls Tryz.prog 71 #[.agg #[.int .i64 u.t.N,.slice u.t.A u.t.ws.length u.t.C],.agg #[.int .i64 t.N,.slice t.A t.ws.length t.C]] w' fun e w''=>e=.returned (.bool (decide (u.t.ws=t.ws)))∧Same w' w'' from fun w' hw=>by
     have:=zQ.out u.t w' (HT.out.same hw) (htu.same hw)
     rwa [hse] at this)
    have HAT:=Lib.hid hat;have HU:=Lib.hid hu;obtain⟨bb,hbb⟩:∃ bb,decide (u.t.ws=t.ws)=bb:=⟨_,rfl⟩;rw[hbb] at tK;have tF:=Lib.hid hbb;have HA:=Lib.hid hA;rw[hA] at c3;clear hu htu hse hat hbb hA;go_upto_region 6 with fail
    refine aJ (fun _=>False) [([0,1,2,3,4,5,6,7,8],9)] (by kernel_rfl) (by kernel_rfl) ?_;simp only[cK,pick,List.map_cons,List.map_nil,List.getD_cons_zero,List.getD_cons_succ];have hs:Same wr wr.drew:=(ah.refl _ _).drew;repeat (any_goals (first | go_big_quiet_step (fail) | quiet_step (fail)))
    refine wpQuiet_nil ?_;refine wpList_plain rfl fun K hK=>?_
    go_simp;refine(tK.out _ (HS.out.trans hs (fun _ _ h=>h))).mono ?_;rintro e w3 ⟨rfl,hs3⟩;refine hK _ _ ?_;have zU:=hs.trans hs3 (fun _ _ h=>h);have jo:=Jn.out.same zU;have dY:=Lib.hid (HS.out.trans zU (fun _ _ h=>h));have Tz:=Lib.hid (HS2.out.trans zU (fun _ _ h=>h));clear hK K hs hs3 zU c3 hml d0 d1 d2 hb x0 x1 hxl;have c3:=jo.c3;have hml:=jo.blk.lt;obtain⟨b',hA',hb,d0,d1,d2⟩:=jo.Yl HU.out;rw[HA.out] at hA' c3;injection hA' with hA'
    injection hA' with hA'
    subst hA';have fz:=Own.free (sb:=b) (by have:=jo.hs;rwa [HA.out] at this) (k*3+2);have MI:=Lib.hid jo;clear jo;cases bb with
    | false =>
     go_wp2;go_roundw
     case rel =>
      refine⟨k+1,by omega,by go_num,Tz.out,fun v hv=>?_⟩;rw[List.take_add_one,HAT.out] at hv;rcases List.mem_append.1 hv with hv | hv
      ·exact nY.out v hv
      ·simp at hv;rw[hv];exact of_decide_eq_false tF.out
     case measure=>simp[intOf] <;> omega
    | true =>
     have hR:=HR.out;rw[MB (c:=u.c) (k:=k) (by rw[HAT.out,of_decide_eq_true tF.out]) nY.out] at hR;have hcr:=HC.out (u.t.ws,u.c) (List.mem_of_getElem? HAT.out);simp only at hcr;by_cases hmx:u.c≥65535
     ·rw[if_pos hmx] at hR;subst hR;go_wp2;go_ret;exact⟨rfl,a,MI.out,iW.same dY.out⟩
     ·rw[if_neg hmx] at hR;subst hR;have hw1:IntKind.i64.wrap (u.c+1)=u.c+1:=IntWalk.i64_in _ (by omega);go_wp2;go_ret;have jo:=MI.out;have hown:=jo.hs;rw[HA.out] at hown;have hst:=Own.store MH.ak hown k 2 u ⟨u.t,u.c+1⟩ (.int .i64 (u.c+1)) HU.out (by omega) rfl;have Vg:((a.hs.set k ⟨u.t,u.c+1⟩).map fun h=>(h.t.ws,h.c))=M.held.set k (t.ws,u.c+1):=by
       rw[List.map_set,jo.held,of_decide_eq_true tF.out]
      have hfr:ah (fun x=>x=mp∨rowOf a.hA x) w3 (w3.setCell ⟨b,k*3+2,none⟩ (.int .i64 (u.c+1))):=(ah.refl _ _).set _ _ (.inr (by rw[HA.out];exact⟨_,rfl,rfl⟩))
      have hgo:=jo.uV (qs:=a.hs.set k ⟨u.t,u.c+1⟩) (A2:=a.hA) (C2:=a.hC) hfr (by
        have:=jo.blk.far (p:=⟨b,k*3+2,none⟩) (fun h=>jo.Jl (by rw[HA.out];exact⟨_,rfl,h.symm⟩)) (.int .i64 (u.c+1))
        simpa [ku] using this)
       (by rw[List.length_set,HA.out];exact hst)
       (fun q hq=>by
        rcases List.mem_or_eq_of_mem_set hq with hq | rfl
        ·exact jo.tw q hq
        ·exact jo.tw u (List.mem_of_getElem? HU.out))
       (fun _ h=>.inl h) (by rw[List.length_set];omega)
      rw[Vg] at hgo;exact⟨rfl,_,hgo.1,(iW.same dY.out).trans hgo.2⟩
   ·obtain rfl:k=a.hs.length:=by omega
    have hI:¬ ((a.hs.length:Nat):Int)<(a.hs.length:Int):=by omega
    have hR:=HR.out;have hl:M.held.length=a.hs.length:=by rw[← HM.out.held,List.length_map]
    rw[Mx (fun p hp=>nY.out p (by rw[← hl,List.take_length];exact hp))] at hR;subst hR;go_upto_region 11 with fail
    have hmr:=Jn.out.Jl;have hTr:¬ rowOf a.hA w.heap.size:=fun h=>by
     obtain⟨x,hx,hb⟩:=h;exact Jn.out.hs.av HXr.out (by decide) x hx hb
    refine aJ (fun b=>rowOf a.hA b) [([0,1,2,3,4,5,6],7),([],8),([9,10],11)] (by kernel_rfl) (by kernel_rfl) ?_;simp only[cK,pick,List.map_cons,List.map_nil,List.getD_cons_zero,List.getD_cons_succ];have hs:Same wr wr.drew:=(ah.refl _ _).drew;repeat (any_goals (first | go_big_quiet_step (fail) | quiet_step (fail)))
    refine wpQuiet_nil ?_;refine aa rfl fun K hK=>?_
    go_simp;refine hK _ _ (aZ.bu (ah.mono (hs.alloc _) (fun _ _ h=>h.elim))) ?_;clear hK K;refine wpQuiet_nil ?_;refine aa rfl fun K hK=>?_
    have hL:ax (wr.alloc (.cells #[.int .i64 t.N,.slice t.A t.ws.length t.C,.int .i64 1] 155)).drew wr.heap.size 155 #[.int .i64 t.N,.slice t.A t.ws.length t.C,.int .i64 1]:=(ax.new wr _ _).drew;have hsl:Same wr (wr.alloc (.cells #[.int .i64 t.N,.slice t.A t.ws.length t.C,.int .i64 1] 155)).drew:=((ah.refl _ _).alloc _).drew;generalize (wr.alloc (.cells #[.int .i64 t.N,.slice t.A t.ws.length t.C,.int .i64 1] 155)).drew=wl at hL hsl ⊢;have Sm:=Jn.out.same hsl;refine Own.append (.tmp 51) (.tmp 54) _ rfl Tryz.underlying110 rT rfl (by omega) rfl Sm.hs MH.ak ⟨t,1⟩ wr.heap.size 1 rfl (by unfold MH.cells;exact hL) (by simp[Value.oneCell',MH.cells]) (by unfold maxLen;omega) (by omega) ?_;intro gg cap wb hOb hgb hat;refine hK _ _ (aZ.bu ?_) ?_
    ·exact(ah.mono hsl (fun _ _ h=>h.elim)).grown hgb (fun g hg=>.inl (af.1 hg))
    clear hK K;have hmb:=Sm.blk.grown hgb (fun hx=>Sm.Jl (af.1 hx.symm));have fb:=hmb.free 3;have Yn:=hmb.lt;have cb:=hmb.cell 3;simp at cb;have hfr:ah (fun x=>x=mp∨rowOf a.hA x) wr wb:=(ah.mono hsl (fun _ _ h=>h.elim)).grown hgb (fun g hg=>.inl (.inr (af.1 hg)));have tZ:=Lib.hid hfr;have TA:=Lib.hid hmb;have Bt:=Lib.hid hOb
    have HAT:=Lib.hid (show ∀ b,rowOf (some (⟨gg,0,none⟩:Addr)) b→rowOf a.hA b∨wr.heap.size≤b from fun b hb=>by
     obtain⟨x,hx,rfl⟩:=hb;injection hx with hx
     subst hx;rcases hat with h | h
     ·exact .inl (af.1 h)
     ·have:=hsl.size
      exact .inr (by simp only;omega))
    clear hfr hOb hgb hat Sm hsl hL hs hmb c3 x0 x1 hxl hml;repeat (any_goals (first | go_big_quiet_step (fail) | quiet_step (fail)))
    refine wpQuiet_nil ?_;go_wp2;go_ret;have Cs:=Own.far (p:=⟨mp,3,none⟩) Bt.out (fun x hx h=>Own.av Bt.out TA.out (by decide) x hx h) (.slice (some ⟨gg,0,none⟩) (a.hs.length+1) cap)
    have hgo:=Jn.out.uV (qs:=a.hs++[⟨t,1⟩]) (A2:=some ⟨gg,0,none⟩) (C2:=cap) (tZ.out.set 3 (.slice (some ⟨gg,0,none⟩) (a.hs.length+1) cap) (.inl rfl)) (by
      have:=TA.out.set 3 (.slice (some ⟨gg,0,none⟩) (a.hs.length+1) cap)
      simpa [ku] using this)
     (by rw[List.length_append];exact Cs)
     (fun q hq=>by
      rcases List.mem_append.1 hq with hq | hq
      ·exact Jn.out.tw q hq
      ·simp at hq;subst hq
       exact HT.out.same HS.out)
     HAT.out (by rw[List.length_append];simp <;> omega)
    rw[List.map_append,Jn.out.held] at hgo;exact⟨rfl,_,hgo.1,(iW.same HS.out).trans hgo.2⟩
end
def Cu (M:MS) (z:List Nat):MS×Int:=if fE M.n z then (M,0) else ({ M with held:=(zS M.held z).1 },(zS M.held z).2)
theorem MH.one (h:MH):∀ u∈h.cells,u.oneCell'=true:=by
 intro u hu;simp only[MH.cells,List.mem_cons,List.not_mem_nil,or_false] at hu;rcases hu with rfl | rfl | rfl <;> rfl
section
variable {w w':World} {mp:Nat} {M:MS} {a:MA} {n:Nat} {t:Tb}
theorem zV (hM:MW w mp M a) (ht:TW w M.n t) (hc:rU M) :
  Calls Tryz.prog 108 #[.pointer (some ⟨mp,0,none⟩),t.val] w fun e w'=>e=.returned (.int .i64 (Cu M t.ws).2)∧∃ a',MW w' mp (Cu M t.ws).1 a'∧iW mp w a w' a':=by
 have htl:t.ws.length≤1000000000000000000:=by rw[ht.fm.len];have:=iD ht.fm.n16;omega
 have hsm:=fun (u:Tb) w' (h1:TW w' M.n t) (h2:TW w' M.n u)=>fJ u.N u.A u.ws.length u.C u.ws t.N t.A t.ws.length t.C t.ws w' h2.ok.wl h1.ok.wl (by rw[h2.fm.len];have:=iD h2.fm.n16;omega)
 have zQ:=Lib.hid hsm;have HM:=Lib.hid hM;have HT:=Lib.hid ht;have HC:=Lib.hid hc;have hic:=fun w' (hs:Same w w')=>j4 (ht.same hs)
 have QS:a.hs.length≤1500000:=by rw[hM.hsl];exact hM.hl
 obtain⟨R,hR⟩:∃ z,Cu M t.ws=z:=⟨_,rfl⟩;rw[hR];obtain⟨cc,hcc⟩:∃ z,fE M.n t.ws=z:=⟨_,rfl⟩;unfold Cu at hR;rw[hcc] at hR hic;unfold Tb.val at hic ⊢;have FW:=Lib.hid hic;have HR:=Lib.hid hR;clear hM ht hsm htl hc hic hcc hR;go_enter Tryz.func108,Tryz.ntmps108;go_wp2_with (fail)
 refine(FW.out _ ((ah.refl _ _).alloc _)).mono ?_;rintro e w1 ⟨rfl,hs1⟩;have hX:=(ax.new w 108 #[.int .i64 t.N,.slice t.A t.ws.length t.C]).ag hs1 id;have hs1:Same w w1:=((ah.refl _ _).alloc _).trans hs1 (fun _ _ h=>h);have HX:=Lib.hid hX;have aX:=Lib.hid hs1;have U2:w.heap.size≠mp:=by have:=HM.out.blk.lt;omega
 clear hX hs1;cases cc with
 | true =>
  have hR:=HR.out;rw[if_pos rfl] at hR;subst hR;go_wp2;go_ret;exact⟨rfl,a,HM.out.same aX.out,iW.same aX.out⟩
 | false =>
  have hR:=HR.out;rw[if_neg (by decide)] at hR;replace HR:=Lib.hid hR;clear hR;go_wp2_with (fail)
  go_loopw [5] (fun i wr=>∃ k:Nat,k≤a.hs.length∧i=.int .i64 k∧Same w1 wr∧∀ p∈M.held.take k,p.1≠t.ws) (fun i _=>a.hs.length-(intOf i).toNat)
  case atStart=>exact⟨0,by omega,rfl,ah.refl _ _,fun u hu=>by simp at hu⟩
  case round =>
   obtain⟨k,hk,rfl,hS,hno⟩:=hrel;have HS:=Lib.hid (aX.out.trans hS (fun _ _ h=>h));have HS2:=Lib.hid hS;have nY:=Lib.hid hno;have wu:=HM.out.same HS.out;have hX:=HX.out.ag hS id;have x0:=hX.cell 0;have x1:=hX.cell 1;have hxl:=hX.lt;simp at x0 x1;have c3:=wu.c3;have hml:=wu.blk.lt;have HXr:=Lib.hid hX;have Jn:=Lib.hid wu;clear hS hno hX wu;by_cases hlt:k<a.hs.length
   ·obtain⟨u,hu⟩:∃ u,a.hs[k]?=some u:=⟨_,List.getElem?_eq_getElem hlt⟩;obtain⟨b,hA,hb,d0,d1,d2⟩:=Jn.out.Yl hu;have hI:(k:Int)<(a.hs.length:Int):=by omega
    have htu:=HM.out.tw u (List.mem_of_getElem? hu);have hse:sm u.t.N t.N u.t.ws t.ws=decide (u.t.ws=t.ws):=by
     unfold sm;rw[HT.out.N,htu.N];simp
    have hat:M.held[k]?=some (u.t.ws,u.c):=by rw[← HM.out.held,List.getElem?_map,hu];rfl
    have tK:=Lib.hid (show ∀ w',Same w w'→Calls Tryz.prog 71 #[.agg #[.int .i64 u.t.N,.slice u.t.A u.t.ws.length u.t.C],.agg #[.int .i64 t.N,.slice t.A t.ws.length t.C]] w' fun e w''=>e=.returned (.bool (decide (u.t.ws=t.ws)))∧Same w' w'' from fun w' hw=>by
     have:=zQ.out u.t w' (HT.out.same hw) (htu.same hw)
     rwa [hse] at this)
    have HAT:=Lib.hid hat;have HU:=Lib.hid hu;obtain⟨bb,hbb⟩:∃ bb,decide (u.t.ws=t.ws)=bb:=⟨_,rfl⟩;rw[hbb] at tK;have tF:=Lib.hid hbb;have HA:=Lib.hid hA;rw[hA] at c3;clear hu htu hse hat hbb hA;go_upto_region 6 with fail
    refine aJ (fun _=>False) [([0,1,2,3,4,5,6,7,8],9)] (by kernel_rfl) (by kernel_rfl) ?_;simp only[cK,pick,List.map_cons,List.map_nil,List.getD_cons_zero,List.getD_cons_succ];have hs:Same wr wr.drew:=(ah.refl _ _).drew;repeat (any_goals (first | go_big_quiet_step (fail) | quiet_step (fail)))
    refine wpQuiet_nil ?_;refine wpList_plain rfl fun K hK=>?_
    go_simp;refine(tK.out _ (HS.out.trans hs (fun _ _ h=>h))).mono ?_;rintro e w3 ⟨rfl,hs3⟩;refine hK _ _ ?_;have zU:=hs.trans hs3 (fun _ _ h=>h);have jo:=Jn.out.same zU;have dY:=Lib.hid (HS.out.trans zU (fun _ _ h=>h));have Tz:=Lib.hid (HS2.out.trans zU (fun _ _ h=>h));clear hK K hs hs3 zU c3 hml d0 d1 d2 hb x0 x1 hxl;have c3:=jo.c3;have hml:=jo.blk.lt;obtain⟨b',hA',hb,d0,d1,d2⟩:=jo.Yl HU.out;rw[HA.out] at hA' c3;injection hA' with hA'
    injection hA' with hA'
    subst hA';have fz:=Own.free (sb:=b) (by have:=jo.hs;rwa [HA.out] at this) (k*3+2);have MI:=Lib.hid jo;clear jo;cases bb with
    | false =>
     go_wp2;go_roundw
     case rel =>
      refine⟨k+1,by omega,by go_num,Tz.out,fun v hv=>?_⟩;rw[List.take_add_one,HAT.out] at hv;rcases List.mem_append.1 hv with hv | hv
      ·exact nY.out v hv
      ·simp at hv;rw[hv];exact of_decide_eq_false tF.out
     case measure=>simp[intOf] <;> omega
    | true =>
     have hR:=HR.out;rw[PN (c:=u.c) (k:=k) (by rw[HAT.out,of_decide_eq_true tF.out]) nY.out] at hR;have hcr:=HC.out (u.t.ws,u.c) (List.mem_of_getElem? HAT.out);simp only at hcr;have hw1:IntKind.i64.wrap (u.c-1)=u.c-1:=IntWalk.i64_in _ (by omega);have jo:=MI.out;have hown:=jo.hs;rw[HA.out] at hown;have hst:=Own.store MH.ak hown k 2 u ⟨u.t,u.c-1⟩ (.int .i64 (u.c-1)) HU.out (by omega) rfl;have Vg:((a.hs.set k ⟨u.t,u.c-1⟩).map fun h=>(h.t.ws,h.c))=M.held.set k (t.ws,u.c-1):=by
      rw[List.map_set,jo.held,of_decide_eq_true tF.out]
     have hfr:ah (fun x=>x=mp∨rowOf a.hA x) w3 (w3.setCell ⟨b,k*3+2,none⟩ (.int .i64 (u.c-1))):=(ah.refl _ _).set _ _ (.inr (by rw[HA.out];exact⟨_,rfl,rfl⟩))
     have hgo:=jo.uV (qs:=a.hs.set k ⟨u.t,u.c-1⟩) (A2:=a.hA) (C2:=a.hC) hfr (by
       have:=jo.blk.far (p:=⟨b,k*3+2,none⟩) (fun h=>jo.Jl (by rw[HA.out];exact⟨_,rfl,h.symm⟩)) (.int .i64 (u.c-1))
       simpa [ku] using this)
      (by rw[List.length_set,HA.out];exact hst)
      (fun q hq=>by
       rcases List.mem_or_eq_of_mem_set hq with hq | rfl
       ·exact jo.tw q hq
       ·exact jo.tw u (List.mem_of_getElem? HU.out))
      (fun _ h=>.inl h) (by rw[List.length_set];omega)
     have hqk:(a.hs.set k ⟨u.t,u.c-1⟩)[k]?=some ⟨u.t,u.c-1⟩:=by rw[List.getElem?_set];simp[hlt]
     have hql:(a.hs.set k ⟨u.t,u.c-1⟩).length=a.hs.length:=List.length_set;rw[Vg] at hgo;have Aq:=Lib.hid hgo;clear jo hown hst hfr hgo;go_upto_region 8 with fail
     generalize w3.setCell ⟨b,k*3+2,none⟩ (.int .i64 (u.c-1))=w4 at Aq ⊢;generalize a.hs.set k ⟨u.t,u.c-1⟩=qs at Aq hqk hql Vg;have Ob:=Aq.out.1;clear c3 hml d0 d1 d2 hb fz;have c3:=Ob.c3;have hml:=Ob.blk.lt;obtain⟨b',hA',hb,d0,d1,d2⟩:=Ob.Yl hqk;simp only at hA' c3;rw[HA.out] at hA' c3;injection hA' with hA'
     injection hA' with hA'
     subst hA';have hkq:k<qs.length:=by omega
     have acQ:(k:Int)<(qs.length:Int):=by omega
     have Oc:=Lib.hid Ob;have HQK:=Lib.hid hqk;have HQL:=Lib.hid hql;have HQS:=Lib.hid Vg;clear Ob hqk Vg;simp only at d2;by_cases hz:u.c-1=0
     ·rw[if_pos hz] at hR;subst hR;have hdz:(u.c-1 == 0)=true:=by simp[hz]
      clear hcr hw1;have Cv:=Oc.out.hs;rw[HA.out] at Cv;simp only at Cv;have hcap:qs.length≤a.hC:=Cv.cap;have hpc:∀ (i:Nat) (x:MH),qs[i]?=some x→∀ j,j<3→w4.cell? ⟨b,i*3+j,none⟩=(MH.cells x)[j]?:=fun i x hx=>by
       obtain⟨sb',h1,_,h3⟩:=Cv.get MH.ak hx;cases h1;exact h3
      have hlt1:(qs.take k).length=k:=by rw[List.length_take];omega
      have hlt2:(qs.drop (k+1)).length=a.hs.length-(k+1):=by rw[List.length_drop,hql]
      have hp1:=uH MH.ak (by omega) hpc 0 (qs.take k) (fun i x hx=>by
       rw[List.getElem?_take] at hx;split at hx
       ·rw[Nat.zero_add];exact hx
       ·cases hx)
      have HPC:=Lib.hid hpc;have Au:=Lib.hid hp1;have HT1:=Lib.hid hlt1;have HT2:=Lib.hid hlt2;clear hpc hp1 hlt1 hlt2 Cv;go_upto_region 10 with fail
      refine aV 7 ?_;simp only[List.take_succ_cons,List.take_zero,List.drop_succ_cons,List.drop_zero];repeat (any_goals (first | go_big_quiet_step (fail) | quiet_step (fail)))
      refine wpQuiet_nil ?_;refine wpList_plain rfl fun K hK=>?_
      refine Own.bT (.tmp 48) (.tmp 54) _ rfl Tryz.underlying110 rT rfl (by omega) rfl (Own.nil w4 _ _ _) MH.ak (qs.take k) (some ⟨b,0,none⟩) a.hC (by rw[HT1.out];rfl) (fun _=>⟨_,rfl,by simpa using Au.out⟩) (fun y _=>MH.one y) (by rw[HT1.out];simp[maxLen] <;> omega) (by rw[HT1.out];simp <;> omega) ?_;intro A1 C1 w5 SS hg1 LK;refine hK _ _ ?_;clear hK K;simp only[List.nil_append,HT1.out] at SS ⊢;have hs5:Same w4 w5:=(ah.refl _ _).grown hg1 (fun g hg=>by cases hg);have wF:=Oc.out.same hs5;have c3:=wF.c3;simp only at c3;rw[HA.out] at c3;have hml:=wF.blk.lt;have hp2:∀ j u,((qs.drop (k+1)).flatMap MH.cells)[j]?=some u→w5.cell? ((⟨b,(k+1)*3,none⟩:Addr).add j)=some u:=uH MH.ak (by omega) (fun i x hx j hj=>by rw[← HPC.out i x hx j hj];exact hs5.cell hb id) (k+1) (qs.drop (k+1)) (fun i x hx=>by rw[List.getElem?_drop] at hx;exact hx);have Yo:=Lib.hid wF;have WJ:=Lib.hid SS;have pY:=Lib.hid hs5;have HA1:=Lib.hid LK;have zn:=Lib.hid hp2;have hi2:(k:Int)+1≤qs.length:=by omega
      have hi3:(0:Int)≤k+1:=by omega
      have hi4:((k:Int)+1).toNat=k+1:=by omega
      have hi5:IntKind.i64.wrap ((k:Int)+1)=k+1:=IntWalk.i64_in _ (by omega);clear wF SS hs5 LK hg1 hp2 d0 d1 d2;go_upto_region 11 with fail
      refine aV 9 ?_;simp only[List.take_succ_cons,List.take_zero,List.drop_succ_cons,List.drop_zero];repeat (any_goals (first | go_big_quiet_step (fail) | quiet_step (fail)))
      refine wpQuiet_nil ?_;refine wpList_plain rfl fun K hK=>?_
      refine Own.bT (.tmp 57) (.tmp 64) _ rfl Tryz.underlying110 rT rfl (by omega) rfl WJ.out MH.ak (qs.drop (k+1)) (if a.hC=k+1 then some ⟨b,0,none⟩ else some ⟨b,(k+1)*3,none⟩) (a.hC-(k+1)) (by rw[HT2.out];rfl) (fun hne=>?_) (fun y _=>MH.one y) (by rw[HT1.out,HT2.out];simp[maxLen] <;> omega) (by rw[HT1.out,HT2.out];omega) ?_
      ·split
       ·exact absurd (List.drop_eq_nil_of_le (by omega)) hne
       ·exact⟨_,rfl,zn.out⟩
      intro A2 C2 w6 hO2 hg2 MG;refine hK _ _ ?_;clear hK K;have wF:=Yo.out;have TB:ah (fun x=>rowOf A1 x) w5 w6:=(ah.refl _ _).grown hg2 (fun g hg=>.inl (af.1 hg));have Yp:¬ rowOf A1 mp:=fun ⟨x,hx,hxb⟩=>WJ.out.av wF.blk (by decide) x hx hxb
      have hb6:=wF.blk.ag TB Yp;have c3:=hb6.cell 3;have fb:=hb6.free 3;have hml:=hb6.lt;simp at c3;rw[HA.out] at c3
      have Rk:ah (fun x=>x=mp∨rowOf a.hA x) w4 w6:=(pY.out.mono (fun _ _ h=>h.elim)).trans TB (fun i hi h=>by
       rcases HA1.out i h with h | h
       ·obtain⟨x,hx,_⟩:=h;cases hx
       ·omega)
      have Yq:∀ b,rowOf A2 b→rowOf a.hA b∨w4.heap.size≤b:=fun b hb=>by
       rcases MG b hb with h | h
       ·rcases HA1.out b h with h | h
        ·obtain⟨x,hx,_⟩:=h;cases hx
        ·exact .inr (by omega)
       ·have:=pY.out.size
        exact .inr (by omega)
      obtain⟨rs,hrs⟩:∃ rs,qs.take k++qs.drop (k+1)=rs:=⟨_,rfl⟩;rw[hrs] at hO2 ⊢;have hrl:rs.length≤1500000:=by rw[← hrs,List.length_append,HT1.out,HT2.out];omega
      have hrm:rs.map (fun h=>(h.t.ws,h.c))=M.held.take k++M.held.drop (k+1):=by
       rw[← hrs,List.map_append,List.map_take,List.map_drop,HQS.out];simp[List.take_set_of_le,List.drop_set_of_lt]
      have hrq:∀ q∈rs,TW w4 M.n q.t:=fun q hq=>by
       rw[← hrs] at hq;rcases List.mem_append.1 hq with hq | hq
       ·exact Oc.out.tw q (List.mem_of_mem_take hq)
       ·exact Oc.out.tw q (List.mem_of_mem_drop hq)
      have HO2:=Lib.hid hO2;have Od:=Lib.hid hb6;have tZ:=Lib.hid Rk;have abf:=Lib.hid Yq;have OI:=Lib.hid hrm;have HRQ:=Lib.hid hrq;clear wF TB Yp hb6 Rk Yq hrs hrm hrq hO2 hg2 MG;go_wp2
      all_goals
       go_ret;have Cs:=Own.far (p:=⟨mp,3,none⟩) HO2.out (fun x hx h=>Own.av HO2.out Od.out (by decide) x hx h) (.slice A2 rs.length C2)
       have TC:=Oc.out.uV (qs:=rs) (A2:=A2) (C2:=C2) (tZ.out.set 3 (.slice A2 rs.length C2) (.inl rfl)) (by
         have:=Od.out.set 3 (.slice A2 rs.length C2)
         simpa [ku] using this)
        Cs HRQ.out abf.out hrl
       simp only[OI.out] at TC;exact⟨rfl,_,TC.1,((iW.same dY.out).trans Aq.out.2).trans TC.2⟩
     ·rw[if_neg hz] at hR;subst hR;have hdz:(u.c-1 == 0)=false:=by simp[hz]
      go_wp2;go_ret;exact⟨rfl,_,Oc.out,(iW.same dY.out).trans Aq.out.2⟩
   ·obtain rfl:k=a.hs.length:=by omega
    have hI:¬ ((a.hs.length:Nat):Int)<(a.hs.length:Int):=by omega
    have hR:=HR.out;have hl:M.held.length=a.hs.length:=by rw[← HM.out.held,List.length_map]
    rw[PM (fun p hp=>nY.out p (by rw[← hl,List.take_length];exact hp))] at hR;subst hR;go_wp2;go_ret;exact⟨rfl,a,Jn.out,iW.same HS.out⟩
end
def uM (M:MS) (l:Nat):Nat:=(dP ((aM M.n (kC M) M.ord).flatten++(aM M.n (kC M) (swp M.ord l)).flatten)).length
section
variable {w w':World} {mp:Nat} {M:MS} {a:MA} {n:Nat} {t:Tb} {A X:Option Addr} {C D:Nat} {ts us xs:List Tb} {lo:Nat} {rs:List jm}
theorem LN.keep {lo':Nat} (h:LN lo w n A C rs) {wb:World} (ho:TN lo' w n X D xs) (hg:w.grownBy wb (Value.slice X xs.length D).ownBlock) (hd:∀ r∈rs,∀ b,rowOf X b→¬ rowOf r.A b):LN lo wb n A C rs:=by
 have kp:∀ u,TW w n u→TW wb n u:=fun u hu=>⟨hu.N,hu.own.gH hg (fun b hb hA=>ho.own.aL hu.own (by decide) b (af.1 hb) hA),hu.fm,hu.sm⟩
 refine⟨h.own.gH hg (fun b hb hA=>ho.own.aL h.own (by decide) b (af.1 hb) hA),fun r hr=>⟨(h.tn r hr).own.gH hg (fun b hb hA=>hd r hr b (af.1 hb) hA),fun t ht=>kp t ((h.tn r hr).tw t ht),(h.tn r hr).fresh⟩,h.fresh⟩
theorem PO {ord:List Int} {n l:Nat} (hl:l+2≤ord.length) (h:∀ v∈ord,0≤v∧v<n):∀ v∈swp ord l,0≤v∧v<(n:Int):=by
 intro v hv;rw[swp_get ord l (List.getElem?_eq_getElem (by omega)) (List.getElem?_eq_getElem (by omega))] at hv;rcases List.mem_or_eq_of_mem_set hv with hv | rfl
 ·rcases List.mem_or_eq_of_mem_set hv with hv | rfl
  ·exact h v hv
  ·exact h _ (List.getElem_mem _)
 ·exact h _ (List.getElem_mem _)
theorem TD (hM:MW w mp M a) (ho:eY M) (l:Nat) (hl:l+2≤M.ord.length) :
  Calls Tryz.prog 109 #[.pointer (some ⟨mp,0,none⟩),.int .i64 l] w fun e w'=>e=.returned (.int .i64 (uM M l))∧Same w w':=by
 have HM:=Lib.hid hM;have HO:=Lib.hid ho;have hlv:=j5 hM ho;have zw:=Lib.hid hlv;have hol:=hM.ol;have HUM:=Lib.hid (show uM M l=(dP ((aM M.n (kC M) M.ord).flatten++(aM M.n (kC M) (swp M.ord l)).flatten)).length from rfl);obtain⟨U,hU⟩:∃ z,uM M l=z:=⟨_,rfl⟩;rw[hU] at HUM ⊢;have hsm:∀ (ord:List Int),ord.length≤16→∀ z∈aM M.n (kC M) ord,z.length≤131072000000:=fun ord ho=>gp M.n (kC M) (by unfold kC;rw[List.length_map];have:=hM.hl;omega) ord ho
 have zQ:=Lib.hid hsm;clear hM ho hlv hsm hU;go_enter Tryz.func109,Tryz.ntmps109;go_upto_region 2 with fail
 refine aV 1 ?_;simp only[List.take_succ_cons,List.take_zero,List.drop_succ_cons,List.drop_zero];repeat (any_goals (first | go_big_quiet_step (fail) | quiet_step (fail)))
 refine wpQuiet_nil ?_;refine wpList_plain rfl fun K hK=>?_
 go_simp;refine zw.out.mono ?_;rintro e w1 ⟨A1,C1,rs,rfl,qw,hlz,hs1⟩;refine hK _ _ ?_;clear hK K;have hrl:rs.length=M.ord.length:=by
  have h1:(lz rs).length=M.ord.length:=by rw[hlz];unfold aM;rw[eu];simp
  rwa [kr] at h1
 have hrb:∀ r∈rs,r.ts.length≤131072000000:=fun r hr=>by
  have h1:r.ts.map Tb.ws∈aM M.n (kC M) M.ord:=by rw[← hlz];exact List.mem_map.2 ⟨r,hr,rfl⟩
  have h2:=zQ.out M.ord hol _ h1
  rwa [List.length_map] at h2
 have Av:=Lib.hid qw;have Jh:=Lib.hid hlz;have aX:=Lib.hid hs1;have Vh:=Lib.hid hrb;clear qw hlz hs1 hrb;have abg:rs.length≤16:=by omega
 have um:=Lib.hid hrl;clear hrl;go_wp2_with (fail)
 go_loopw [13,5] (fun i c wr=>∃ (k:Nat) (A:Option Addr) (C:Nat) (us:List Tb),k≤rs.length∧i=.int .i64 k∧c=.slice A us.length C∧TN w1.heap.size wr M.n A C us∧us.map Tb.ws=((lz rs).take k).flatten∧us.length≤k*131072000000∧Same w1 wr) (fun i _ _=>rs.length-(intOf i).toNat)
 case atStart=>exact⟨0,none,0,[],by omega,rfl,rfl,TN.nil _ _ _,by simp,by simp,ah.refl _ _⟩
 case round =>
  obtain⟨k,A',C',us,hk,rfl,rfl,hN,l6,qY,hS⟩:=hrel;by_cases hlt:k<rs.length
  ·obtain⟨r,hr⟩:∃ r,rs[k]?=some r:=⟨_,List.getElem?_eq_getElem hlt⟩;have hL:=Av.out.same hS;obtain⟨sb,hA1,hsb,hc⟩:=hL.own.get jm.ak hr;have c0:wr.cell? ⟨sb,k*1,none⟩=some (.slice r.A r.ts.length r.C):=hc 0 (by omega);rw[Nat.mul_one] at c0;have hI:(k:Int)<(rs.length:Int):=by omega
   have hrs:=Vh.out r (List.mem_of_getElem? hr);have hTr:=hL.tn r (List.mem_of_getElem? hr);have hstep:((lz rs).take (k+1)).flatten=us.map Tb.ws++r.ts.map Tb.ws:=by
    have:(lz rs)[k]?=some (r.ts.map Tb.ws):=by unfold lz;rw[List.getElem?_map,hr];rfl
    rw[List.take_add_one,this,l6];simp
   have HST:=Lib.hid hstep;have HN:=Lib.hid hN;have HS:=Lib.hid hS;have Dv:=Lib.hid hTr;clear hr hL hc hstep hN hS hTr l6;subst hA1;go_upto_region 5 with fail
   refine aV 2 ?_;simp only[List.take_succ_cons,List.take_zero,List.drop_succ_cons,List.drop_zero];repeat (any_goals (first | go_big_quiet_step (fail) | quiet_step (fail)))
   refine wpQuiet_nil ?_;refine wpList_plain rfl fun K hK=>?_
   refine Own.bT (.tmp 17) (.tmp 18) _ rfl Tryz.underlying55 fq rfl (by omega) rfl HN.out.own Tb.ak r.ts r.A r.C rfl (fun hne=>Sl.source Tb.ak (by omega) Dv.out.tl.sl hne) (fun y _=>Tb.one y) (by simp[maxLen] <;> omega) (by omega) ?_;intro A3 C3 w3 hO3 hg3 zT;refine hK _ _ ?_;clear hK K;have hp3:=TN.app HN.out Dv.out.tw hO3 hg3 zT HS.out.size;have Ls:=Lib.hid hp3.1;have dY:=Lib.hid (hp3.2 w1 HS.out rfl);clear hp3 hO3 hg3 zT;go_wp2;go_roundw
   case rel=>exact⟨k+1,A3,C3,us++r.ts,by omega,by go_num,by simp,Ls.out,by rw[HST.out,List.map_append],by rw[List.length_append,Nat.add_mul];omega,dY.out⟩
   case measure=>simp[intOf] <;> omega
  ·obtain rfl:k=rs.length:=by omega
   have hI:¬ ((rs.length:Nat):Int)<(rs.length:Int):=by omega
   have HN:=Lib.hid hN;have HUS:=Lib.hid (show us.map Tb.ws=(aM M.n (kC M) M.ord).flatten by rw[l6,← Jh.out,List.take_of_length_le (by rw[kr];exact Nat.le_refl _)]);have HS:=Lib.hid hS;have aba:us.length≤16*131072000000:=Nat.le_trans qY (Nat.mul_le_mul_right _ abg);clear hN l6 hS qY;have wu:=HM.out.same (aX.out.trans HS.out (fun _ _ h=>h));have c2:=wu.c2;have hml:=wu.blk.lt;have Jn:=Lib.hid wu;have QT:=Lib.hid (fun w' (hs:Same wr w')=>o8 (wu.same hs));have HTU:=Lib.hid (fun w' (hs:Same wr w')=>sS a.oA M.ord.length a.oC M.ord l w' ((wu.ord.sl fu).same hs) (by omega) hl);clear wu;go_upto_region 7 with fail
   refine RJ (fun _=>False) [([0,2,3,4,5,6,10],1),([],7),([],8)] [9] (by kernel_rfl) (by kernel_rfl) ?_;simp only[DU,pick,List.map_cons,List.map_nil,List.getD_cons_zero,List.getD_cons_succ];have hs:Same wr wr.drew:=(ah.refl _ _).drew;repeat (any_goals (first | go_big_quiet_step (fail) | quiet_step (fail)))
   refine wpQuiet_nil ?_;refine aa rfl fun K hK=>?_
   go_simp;refine(QT.out _ hs).mono ?_;rintro e w4 ⟨A4,C4,ys,rfl,qB,hz4,hl4,hs4⟩;have Bu:=hs.trans hs4 (fun _ _ h=>h);refine hK _ _ (aZ.bu (ah.mono Bu (fun _ _ h=>h.elim))) ?_;have iB:=Lib.hid Bu;have HN4:=Lib.hid qB;have HZ4:=Lib.hid hz4;clear hK K hs hs4 Bu qB hz4 c2 hml;refine wpQuiet_nil ?_;refine aa rfl fun K hK=>?_
   go_simp;refine(HTU.out _ iB.out).mono ?_;rintro e w5 ⟨A5,C5,rfl,yM⟩;have hs5:Same wr w5:=iB.out.trans yM.2.2 (fun _ _ h=>h);refine hK _ _ (aZ.bu (ah.mono hs5 (fun _ _ h=>h.elim))) ?_;have qB:=HN4.out.same yM.2.2;have hlv:=fun w' (hw:Same w5 w')=>mQ (C:=C4) (OC:=C5) (qB.tl.same hw) HM.out.n16 (by omega) (O:=A5) (ord:=swp M.ord l) ((yM.1.sl fu).same hw) (PO hl HO.out) (by rw[je];exact hol)
   rw[HZ4.out] at hlv;have abh:=Lib.hid hlv;have pY:=Lib.hid hs5;clear hK K hs5 qB hlv yM;refine wpQuiet_nil ?_;refine aa rfl fun K hK=>?_
   go_simp;refine(abh.out _ (ah.refl _ _)).mono ?_;rintro e w6 ⟨A6,C6,qs,rfl,TE,PR,hs6⟩;have TF:Same wr w6:=pY.out.trans hs6 (fun _ _ h=>h);refine hK _ _ (aZ.bu (ah.mono TF (fun _ _ h=>h.elim))) ?_;have abj:qs.length≤16:=by
    have h1:(lz qs).length=M.ord.length:=by rw[PR];unfold aM;rw[eu,je];simp
    rw[kr] at h1;omega
   have Mm:∀ r∈qs,r.ts.length≤131072000000:=fun r hr=>by
    have h1:r.ts.map Tb.ws∈aM M.n (kC M) (swp M.ord l):=by rw[← PR];exact List.mem_map.2 ⟨r,hr,rfl⟩
    have h2:=zQ.out (swp M.ord l) (by rw[je];exact hol) _ h1
    rwa [List.length_map] at h2
   have hlow:∀ b,rowOf A' b→b<w5.heap.size∨w6.heap.size≤b:=fun b hb=>by
    obtain⟨x,hx,rfl⟩:=hb
    have:=HN.out.own.block x hx
    have:=pY.out.size
    exact .inl (by omega)
   have hhi:∀ r∈qs,∀ b,rowOf r.A b→b<w6.heap.size:=fun r hr b hb=>by
    obtain⟨x,hx,rfl⟩:=hb;exact(TE.tn r hr).own.block x hx
   have abk:=Lib.hid TE;have Yr:=Lib.hid PR;have vz:=Lib.hid TF;have HQB:=Lib.hid Mm;have abl:=Lib.hid hlow;have Dq:=Lib.hid hhi;clear hK K hs6 TF Mm hlow hhi TE PR;repeat (any_goals (first | go_big_quiet_step (fail) | quiet_step (fail)))
   refine wpQuiet_nil ?_;have kT:=HN.out.same vz.out;have WH:=Lib.hid kT;have Yt:=HS.out.trans vz.out (fun _ _ h=>h);have abm:=Lib.hid Yt;clear kT Yt;go_wp2_with (fail)
   go_loopw [31,5] (fun i c wz=>∃ (k:Nat) (A:Option Addr) (C:Nat) (vs:List Tb),k≤qs.length∧i=.int .i64 k∧c=.slice A vs.length C∧TN w1.heap.size wz M.n A C vs∧vs.map Tb.ws=(aM M.n (kC M) M.ord).flatten++((lz qs).take k).flatten∧vs.length≤2097152000000+k*131072000000∧Same w1 wz∧LN w5.heap.size wz M.n A6 C6 qs∧(∀ b,rowOf A b→b<w5.heap.size∨w6.heap.size≤b)∧w6.heap.size≤wz.heap.size) (fun i _ _=>qs.length-(intOf i).toNat)
   case atStart=>exact⟨0,A',C',us,by omega,rfl,rfl,WH.out,by simp[HUS.out],by omega,abm.out,abk.out,abl.out,Nat.le_refl _⟩
   case round =>
    obtain⟨k,A7,C7,vs,hk,rfl,rfl,hN7,hvs,hvl,hS7,hL7,TG,Yu⟩:=hrel;by_cases hlt:k<qs.length
    ·obtain⟨r,hr⟩:∃ r,qs[k]?=some r:=⟨_,List.getElem?_eq_getElem hlt⟩;obtain⟨sb,hA1,hsb,hc⟩:=hL7.own.get jm.ak hr;have c0:wr.cell? ⟨sb,k*1,none⟩=some (.slice r.A r.ts.length r.C):=hc 0 (by omega);rw[Nat.mul_one] at c0;have hI:(k:Int)<(qs.length:Int):=by omega
     have hrs:=HQB.out r (List.mem_of_getElem? hr);have hTr:=hL7.tn r (List.mem_of_getElem? hr);have hstep:(aM M.n (kC M) M.ord).flatten++((lz qs).take (k+1)).flatten=vs.map Tb.ws++r.ts.map Tb.ws:=by
      have:(lz qs)[k]?=some (r.ts.map Tb.ws):=by unfold lz;rw[List.getElem?_map,hr];rfl
      rw[List.take_add_one,this,hvs];simp
     have HST:=Lib.hid hstep;have HN7:=Lib.hid hN7;have xe:=Lib.hid hS7;have HL7:=Lib.hid hL7;have Yv:=Lib.hid TG;have Yw:=Lib.hid Yu;have Dv:=Lib.hid hTr;clear hr hc hstep hN7 hS7 hTr hvs hL7 TG Yu;subst hA1;go_upto_region 10 with fail
     refine aV 2 ?_;simp only[List.take_succ_cons,List.take_zero,List.drop_succ_cons,List.drop_zero];repeat (any_goals (first | go_big_quiet_step (fail) | quiet_step (fail)))
     refine wpQuiet_nil ?_;refine wpList_plain rfl fun K hK=>?_
     refine Own.bT (.tmp 35) (.tmp 36) _ rfl Tryz.underlying55 fq rfl (by omega) rfl HN7.out.own Tb.ak r.ts r.A r.C rfl (fun hne=>Sl.source Tb.ak (by omega) Dv.out.tl.sl hne) (fun y _=>Tb.one y) (by simp[maxLen] <;> omega) (by omega) ?_;intro A3 C3 w3 hO3 hg3 zT;refine hK _ _ ?_;clear hK K;have hp3:=TN.app HN7.out Dv.out.tw hO3 hg3 zT xe.out.size;have Ls:=Lib.hid hp3.1;have dY:=Lib.hid (hp3.2 w1 xe.out rfl)
     have HL3:=Lib.hid (HL7.out.keep HN7.out hg3 (fun q hq b hb hb2=>by
      rcases Yv.out b hb with h | h
      ·have:=(HL7.out.tn q hq).fresh b hb2
       omega
      ·have:=Dq.out q hq b hb2
       omega))
     have abn:=Lib.hid (Nat.le_trans Yw.out hg3.size)
     have abo:=Lib.hid (show ∀ b,rowOf A3 b→b<w5.heap.size∨w6.heap.size≤b from fun b hb=>by
      rcases zT b hb with h | h
      ·exact Yv.out b h
      ·have:=Yw.out
       exact .inr (by omega))
     clear hp3 hO3 hg3 zT;go_wp2;go_roundw
     case rel=>exact⟨k+1,A3,C3,vs++r.ts,by omega,by go_num,by simp,Ls.out,by rw[HST.out,List.map_append],by rw[List.length_append,Nat.add_mul];omega,dY.out,HL3.out,abo.out,abn.out⟩
     case measure=>simp[intOf] <;> omega
    ·obtain rfl:k=qs.length:=by omega
     have hI:¬ ((qs.length:Nat):Int)<(qs.length:Int):=by omega
     have abp:vs.length≤4300000000000:=by
      have:=Nat.mul_le_mul_right 131072000000 abj
      omega
     have Yx:=fun w' (hs:Same wr w')=>sP (C:=C7) (hN7.tl.same hs) abp
     have hres:(dP (vs.map Tb.ws)).length=U:=by
      rw[HUM.out,hvs,Yr.out,List.take_of_length_le (by rw[← Yr.out,kr];exact Nat.le_refl _)]
     have abq:=Lib.hid Yx;have Mt:=Lib.hid hres;have xe:=Lib.hid hS7;clear hN7 hvs hS7 hL7 TG Yx hres;go_wp2_with (fail)
     refine(abq.out _ (ah.refl _ _)).mono ?_;rintro e w8 ⟨A8,C8,ys8,rfl,TI,hu8,hl8,F5⟩;have Sb:=Lib.hid (aX.out.trans (xe.out.trans F5 (fun _ _ h=>h)) (fun _ _ h=>h));have HY:=Lib.hid (show ys8.length=U by rw[← Mt.out,← hu8,List.length_map]);clear TI hu8 F5;go_wp2;go_ret;exact⟨congrArg (fun n:Nat=>Ending.returned (Value.int .i64 n)) HY.out,Sb.out⟩
end
end Go.Proofs.YtiomgckodmecbaaGreat
