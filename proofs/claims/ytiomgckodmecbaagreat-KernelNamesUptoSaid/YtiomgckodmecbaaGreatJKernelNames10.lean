/- Contracts and plain laws, put together in one file. No condition. -/
import Derived.Test.YtiomgckodmecbaaGreatJKernelNames9

set_option maxRecDepth 100000
set_option maxHeartbeats 32000000
namespace Go.Proofs.YtiomgckodmecbaaGreat
open Go.RowKit Go.Tk
section
variable {w w':World} {n:Nat} {t:Tb} {kp:Nat} {k:KS} {a:KA}
theorem F8 (r:Int) (h0:r≠0) (h1:r≠1) (D:Nat) (hn:n≤16) (hD:D≤n) (N:Nd) (m:Nat) (hm:N.v=m) (hmn:m<n) (nl nh:Int) (zl zh:List Nat) (bl bh:Bool) (w:World) (hnq:∀ w',Same w w'→Calls Tryz.prog 20 #[.pointer (some ⟨kp,0,none⟩),.int .u32 r] w' fun e w''=>e=.returned (.tuple #[N.val,.int .i64 0])∧Same w' w'')
  (hlo:∀ w',Same w w'→Calls Tryz.prog 69 #[.pointer (some ⟨kp,0,none⟩),.int .u32 N.lo,.int .i64 n,.int .i64 ((D:Int)+1)] w' (fun e w''=>∃ A C,e=.returned (.tuple #[.agg #[.int .i64 nl,.slice A zl.length C],.bool bl])∧yM w' zl A C w''))
  (hhi:∀ w',Same w w'→Calls Tryz.prog 69 #[.pointer (some ⟨kp,0,none⟩),.int .u32 N.hi,.int .i64 n,.int .i64 ((D:Int)+1)] w' (fun e w''=>∃ A C,e=.returned (.tuple #[.agg #[.int .i64 nh,.slice A zh.length C],.bool bh])∧yM w' zh A C w''))
  (fl:bl=true→nl=n∧mF n zl∧Small zl) (fh:bh=true→nh=n∧mF n zh∧Small zh) :
  Calls Tryz.prog 69 #[.pointer (some ⟨kp,0,none⟩),.int .u32 r,.int .i64 n,.int .i64 D] w (kL w n (if bl&&bh then some (rW n m zl zh) else none)):=by
 have b0:(r == 0)=false:=by simpa using h0
 have b1:(r == 1)=false:=by simpa using h1
 have c1:¬ n<D:=by omega
 have c3:¬ n≤m:=by omega
 have hw1:IntKind.i64.wrap ((D:Int)+1)=(D:Int)+1:=IntWalk.i64_in _ (by omega);unfold Nd.val at hnq;have Rk:=Lib.hid hnq;have AJ:=Lib.hid hlo;have BQ:=Lib.hid hhi;have HFL:=Lib.hid fl;have HFH:=Lib.hid fh;clear hnq hlo hhi fl fh;cases bl <;> cases bh
 ·show Calls _ _ _ _ (kL w n none);go_enter Tryz.func69,Tryz.ntmps69;go_upto_region 1 with fail
  refine ai fun w1 hw1=>?_
  have hs1:Same w w1:=by rw[hw1];exact(ah.refl _ _).alloc _
  have hR:=av.new w 108 #[.int .i64 0,.slice none 0 0];rw[← hw1] at hR;clear hw1;go_wp2_with (fail)
  refine(Rk.out w1 hs1).mono ?_;rintro e w2 ⟨rfl,hs2⟩;go_upto_region 4 with fail
  refine ai fun w3 hw3=>?_
  have hX:av w3 w2.heap.size 37 #[.int .i64 m,.int .u32 N.lo,.int .u32 N.hi]:=by
   rw[hw3];exact av.new w2 _ _
  have hs3:Same w2 w3:=by rw[hw3];exact(ah.refl _ _).alloc _
  clear hw3;have fZ:=hR.ag (hs2.trans hs3 (fun _ _ h=>h)) id;have HS:=Lib.hid (hs1.trans (hs2.trans hs3 (fun _ _ h=>h)) (fun _ _ h=>h));have r0:=fZ.cell 0;have r1:=fZ.cell 1;have rl:=fZ.lt;have g0:=fZ.free 0;have g1:=fZ.free 1;have x0:=hX.cell 0;have x1:=hX.cell 1;have x2:=hX.cell 2;have xl:=hX.lt;simp at r0 r1 x0 x1 x2;have HR:=Lib.hid fZ;have HX:=Lib.hid hX;have BU:w.heap.size≠w2.heap.size:=by have:=hR.ag hs2 id |>.lt;omega
  clear hR fZ hs1 hs2 hs3 hX;have Vy:=Lib.hid BU;clear BU;have HN0:=Lib.hid hn;obtain⟨nd,hnd⟩:∃ z,z=w2.heap.size:=⟨_,rfl⟩;rw[← hnd] at HX Vy;rw[← hnd] at x0 x1 x2 xl ⊢;clear hnd;go_wp2_with (fail)
  refine(AJ.out _ HS.out).mono ?_;rintro e w4 ⟨A4,C4,rfl,rE⟩;replace HR:=Lib.hid (HR.out.ag rE.2.2 id);replace HX:=Lib.hid (HX.out.ag rE.2.2 id);have j6:=Lib.hid rE.1;replace HS:=Lib.hid (HS.out.trans rE.2.2 (fun _ _ h=>h));clear rE;clear r0 r1 rl g0 g1;have r0:=HR.out.cell 0;have r1:=HR.out.cell 1;have rl:=HR.out.lt;have g0:=HR.out.free 0;have g1:=HR.out.free 1;simp at r0 r1;clear x0 x1 x2 xl;have x0:=HX.out.cell 0;have x1:=HX.out.cell 1;have x2:=HX.out.cell 2;have xl:=HX.out.lt;simp at x0 x1 x2;go_upto_region 7 with fail
  refine ai fun w5 kW=>?_
  have hB4:av w5 w4.heap.size 108 #[.int .i64 nl,.slice A4 zl.length C4]:=by
   rw[kW];exact av.new w4 _ _
  have hs5:Same w4 w5:=by rw[kW];exact(ah.refl _ _).alloc _
  clear kW;replace HR:=Lib.hid (HR.out.ag hs5 id);replace HX:=Lib.hid (HX.out.ag hs5 id);replace j6:=Lib.hid (j6.out.ag hs5 (fun _ _=>id));replace HS:=Lib.hid (HS.out.trans hs5 (fun _ _ h=>h));have hrx:w.heap.size<w4.heap.size:=rl;obtain⟨T4,BS⟩:∃ z,z=w4.heap.size:=⟨_,rfl⟩;rw[← BS] at hB4 hrx ⊢;have qw:=Lib.hid hB4;clear BS hs5 hB4;clear r0 r1 rl g0 g1;have r0:=HR.out.cell 0;have r1:=HR.out.cell 1;have rl:=HR.out.lt;have g0:=HR.out.free 0;have g1:=HR.out.free 1;simp at r0 r1;clear x0 x1 x2 xl;have x0:=HX.out.cell 0;have x1:=HX.out.cell 1;have x2:=HX.out.cell 2;have xl:=HX.out.lt;simp at x0 x1 x2;go_wp2_with (fail)
  refine(BQ.out _ HS.out).mono ?_;rintro e w6 ⟨A6,C6,rfl,jW⟩;replace HR:=Lib.hid (HR.out.ag jW.2.2 id);replace HX:=Lib.hid (HX.out.ag jW.2.2 id);replace qw:=Lib.hid (qw.out.ag jW.2.2 id);replace j6:=Lib.hid (j6.out.ag jW.2.2 (fun _ _=>id));have vH:=Lib.hid jW.1;replace HS:=Lib.hid (HS.out.trans jW.2.2 (fun _ _ h=>h));clear jW;clear r0 r1 rl g0 g1;have r0:=HR.out.cell 0;have r1:=HR.out.cell 1;have rl:=HR.out.lt;have g0:=HR.out.free 0;have g1:=HR.out.free 1;simp at r0 r1;clear x0 x1 x2 xl;have x0:=HX.out.cell 0;have x1:=HX.out.cell 1;have x2:=HX.out.cell 2;have xl:=HX.out.lt;simp at x0 x1 x2;go_upto_region 8 with fail
  refine ai fun w7 hw7=>?_
  have F9:av w7 w6.heap.size 108 #[.int .i64 nh,.slice A6 zh.length C6]:=by
   rw[hw7];exact av.new w6 _ _
  have hs7:Same w6 w7:=by rw[hw7];exact(ah.refl _ _).alloc _
  clear hw7;replace HR:=Lib.hid (HR.out.ag hs7 id);replace HX:=Lib.hid (HX.out.ag hs7 id);replace qw:=Lib.hid (qw.out.ag hs7 id);replace j6:=Lib.hid (j6.out.ag hs7 (fun _ _=>id));replace vH:=Lib.hid (vH.out.ag hs7 (fun _ _=>id));replace HS:=Lib.hid (HS.out.trans hs7 (fun _ _ h=>h));obtain⟨T6,Od⟩:∃ z,z=w6.heap.size:=⟨_,rfl⟩;rw[← Od] at F9 ⊢;have PI:=Lib.hid F9;clear Od hs7 F9;clear r0 r1 rl g0 g1;have r0:=HR.out.cell 0;have r1:=HR.out.cell 1;have rl:=HR.out.lt;have g0:=HR.out.free 0;have g1:=HR.out.free 1;simp at r0 r1;clear x0 x1 x2 xl;have x0:=HX.out.cell 0;have x1:=HX.out.cell 1;have x2:=HX.out.cell 2;have xl:=HX.out.lt;simp at x0 x1 x2;go_wp2;refine bM fun we cK=>?_
  have dH:av we w.heap.size 108 #[.int .i64 0,.slice none 0 0]:=by
   rw[cK]
   have:=(HR.out.set 0 (.int .i64 0)).set 1 (.slice none 0 0)
   simpa using this
  have jy:Same w we:=by rw[cK];exact(HS.out.aj 0 _ (Nat.le_refl _)).aj 1 _ (Nat.le_refl _)
  have hr0:=dH.cell 0;have hr1:=dH.cell 1;simp at hr0 hr1;clear cK dH;refine bodyPost_ret (v:=.tuple #[.agg #[.int .i64 0,.slice none 0 0],.bool false]) (by simp[results,Tryz.results69,go_sem,hr0,hr1]) rfl ?_;exact⟨none,0,rfl,Own.nil _ _ _ _,aL _,jy⟩
 ·show Calls _ _ _ _ (kL w n none);go_enter Tryz.func69,Tryz.ntmps69;go_upto_region 1 with fail
  refine ai fun w1 hw1=>?_
  have hs1:Same w w1:=by rw[hw1];exact(ah.refl _ _).alloc _
  have hR:=av.new w 108 #[.int .i64 0,.slice none 0 0];rw[← hw1] at hR;clear hw1;go_wp2_with (fail)
  refine(Rk.out w1 hs1).mono ?_;rintro e w2 ⟨rfl,hs2⟩;go_upto_region 4 with fail
  refine ai fun w3 hw3=>?_
  have hX:av w3 w2.heap.size 37 #[.int .i64 m,.int .u32 N.lo,.int .u32 N.hi]:=by
   rw[hw3];exact av.new w2 _ _
  have hs3:Same w2 w3:=by rw[hw3];exact(ah.refl _ _).alloc _
  clear hw3;have fZ:=hR.ag (hs2.trans hs3 (fun _ _ h=>h)) id;have HS:=Lib.hid (hs1.trans (hs2.trans hs3 (fun _ _ h=>h)) (fun _ _ h=>h));have r0:=fZ.cell 0;have r1:=fZ.cell 1;have rl:=fZ.lt;have g0:=fZ.free 0;have g1:=fZ.free 1;have x0:=hX.cell 0;have x1:=hX.cell 1;have x2:=hX.cell 2;have xl:=hX.lt;simp at r0 r1 x0 x1 x2;have HR:=Lib.hid fZ;have HX:=Lib.hid hX;have BU:w.heap.size≠w2.heap.size:=by have:=hR.ag hs2 id |>.lt;omega
  clear hR fZ hs1 hs2 hs3 hX;have Vy:=Lib.hid BU;clear BU;have HN0:=Lib.hid hn;obtain⟨nd,hnd⟩:∃ z,z=w2.heap.size:=⟨_,rfl⟩;rw[← hnd] at HX Vy;rw[← hnd] at x0 x1 x2 xl ⊢;clear hnd;go_wp2_with (fail)
  refine(AJ.out _ HS.out).mono ?_;rintro e w4 ⟨A4,C4,rfl,rE⟩;replace HR:=Lib.hid (HR.out.ag rE.2.2 id);replace HX:=Lib.hid (HX.out.ag rE.2.2 id);have j6:=Lib.hid rE.1;replace HS:=Lib.hid (HS.out.trans rE.2.2 (fun _ _ h=>h));clear rE;clear r0 r1 rl g0 g1;have r0:=HR.out.cell 0;have r1:=HR.out.cell 1;have rl:=HR.out.lt;have g0:=HR.out.free 0;have g1:=HR.out.free 1;simp at r0 r1;clear x0 x1 x2 xl;have x0:=HX.out.cell 0;have x1:=HX.out.cell 1;have x2:=HX.out.cell 2;have xl:=HX.out.lt;simp at x0 x1 x2;go_upto_region 7 with fail
  refine ai fun w5 kW=>?_
  have hB4:av w5 w4.heap.size 108 #[.int .i64 nl,.slice A4 zl.length C4]:=by
   rw[kW];exact av.new w4 _ _
  have hs5:Same w4 w5:=by rw[kW];exact(ah.refl _ _).alloc _
  clear kW;replace HR:=Lib.hid (HR.out.ag hs5 id);replace HX:=Lib.hid (HX.out.ag hs5 id);replace j6:=Lib.hid (j6.out.ag hs5 (fun _ _=>id));replace HS:=Lib.hid (HS.out.trans hs5 (fun _ _ h=>h));have hrx:w.heap.size<w4.heap.size:=rl;obtain⟨T4,BS⟩:∃ z,z=w4.heap.size:=⟨_,rfl⟩;rw[← BS] at hB4 hrx ⊢;have qw:=Lib.hid hB4;clear BS hs5 hB4;clear r0 r1 rl g0 g1;have r0:=HR.out.cell 0;have r1:=HR.out.cell 1;have rl:=HR.out.lt;have g0:=HR.out.free 0;have g1:=HR.out.free 1;simp at r0 r1;clear x0 x1 x2 xl;have x0:=HX.out.cell 0;have x1:=HX.out.cell 1;have x2:=HX.out.cell 2;have xl:=HX.out.lt;simp at x0 x1 x2;go_wp2_with (fail)
  refine(BQ.out _ HS.out).mono ?_;rintro e w6 ⟨A6,C6,rfl,jW⟩;replace HR:=Lib.hid (HR.out.ag jW.2.2 id);replace HX:=Lib.hid (HX.out.ag jW.2.2 id);replace qw:=Lib.hid (qw.out.ag jW.2.2 id);replace j6:=Lib.hid (j6.out.ag jW.2.2 (fun _ _=>id));have vH:=Lib.hid jW.1;replace HS:=Lib.hid (HS.out.trans jW.2.2 (fun _ _ h=>h));clear jW;clear r0 r1 rl g0 g1;have r0:=HR.out.cell 0;have r1:=HR.out.cell 1;have rl:=HR.out.lt;have g0:=HR.out.free 0;have g1:=HR.out.free 1;simp at r0 r1;clear x0 x1 x2 xl;have x0:=HX.out.cell 0;have x1:=HX.out.cell 1;have x2:=HX.out.cell 2;have xl:=HX.out.lt;simp at x0 x1 x2;go_upto_region 8 with fail
  refine ai fun w7 hw7=>?_
  have F9:av w7 w6.heap.size 108 #[.int .i64 nh,.slice A6 zh.length C6]:=by
   rw[hw7];exact av.new w6 _ _
  have hs7:Same w6 w7:=by rw[hw7];exact(ah.refl _ _).alloc _
  clear hw7;replace HR:=Lib.hid (HR.out.ag hs7 id);replace HX:=Lib.hid (HX.out.ag hs7 id);replace qw:=Lib.hid (qw.out.ag hs7 id);replace j6:=Lib.hid (j6.out.ag hs7 (fun _ _=>id));replace vH:=Lib.hid (vH.out.ag hs7 (fun _ _=>id));replace HS:=Lib.hid (HS.out.trans hs7 (fun _ _ h=>h));obtain⟨T6,Od⟩:∃ z,z=w6.heap.size:=⟨_,rfl⟩;rw[← Od] at F9 ⊢;have PI:=Lib.hid F9;clear Od hs7 F9;clear r0 r1 rl g0 g1;have r0:=HR.out.cell 0;have r1:=HR.out.cell 1;have rl:=HR.out.lt;have g0:=HR.out.free 0;have g1:=HR.out.free 1;simp at r0 r1;clear x0 x1 x2 xl;have x0:=HX.out.cell 0;have x1:=HX.out.cell 1;have x2:=HX.out.cell 2;have xl:=HX.out.lt;simp at x0 x1 x2;go_wp2;refine bM fun we cK=>?_
  have dH:av we w.heap.size 108 #[.int .i64 0,.slice none 0 0]:=by
   rw[cK]
   have:=(HR.out.set 0 (.int .i64 0)).set 1 (.slice none 0 0)
   simpa using this
  have jy:Same w we:=by rw[cK];exact(HS.out.aj 0 _ (Nat.le_refl _)).aj 1 _ (Nat.le_refl _)
  have hr0:=dH.cell 0;have hr1:=dH.cell 1;simp at hr0 hr1;clear cK dH;refine bodyPost_ret (v:=.tuple #[.agg #[.int .i64 0,.slice none 0 0],.bool false]) (by simp[results,Tryz.results69,go_sem,hr0,hr1]) rfl ?_;exact⟨none,0,rfl,Own.nil _ _ _ _,aL _,jy⟩
 ·show Calls _ _ _ _ (kL w n none);go_enter Tryz.func69,Tryz.ntmps69;go_upto_region 1 with fail
  refine ai fun w1 hw1=>?_
  have hs1:Same w w1:=by rw[hw1];exact(ah.refl _ _).alloc _
  have hR:=av.new w 108 #[.int .i64 0,.slice none 0 0];rw[← hw1] at hR;clear hw1;go_wp2_with (fail)
  refine(Rk.out w1 hs1).mono ?_;rintro e w2 ⟨rfl,hs2⟩;go_upto_region 4 with fail
  refine ai fun w3 hw3=>?_
  have hX:av w3 w2.heap.size 37 #[.int .i64 m,.int .u32 N.lo,.int .u32 N.hi]:=by
   rw[hw3];exact av.new w2 _ _
  have hs3:Same w2 w3:=by rw[hw3];exact(ah.refl _ _).alloc _
  clear hw3;have fZ:=hR.ag (hs2.trans hs3 (fun _ _ h=>h)) id;have HS:=Lib.hid (hs1.trans (hs2.trans hs3 (fun _ _ h=>h)) (fun _ _ h=>h));have r0:=fZ.cell 0;have r1:=fZ.cell 1;have rl:=fZ.lt;have g0:=fZ.free 0;have g1:=fZ.free 1;have x0:=hX.cell 0;have x1:=hX.cell 1;have x2:=hX.cell 2;have xl:=hX.lt;simp at r0 r1 x0 x1 x2;have HR:=Lib.hid fZ;have HX:=Lib.hid hX;have BU:w.heap.size≠w2.heap.size:=by have:=hR.ag hs2 id |>.lt;omega
  clear hR fZ hs1 hs2 hs3 hX;have Vy:=Lib.hid BU;clear BU;have HN0:=Lib.hid hn;obtain⟨nd,hnd⟩:∃ z,z=w2.heap.size:=⟨_,rfl⟩;rw[← hnd] at HX Vy;rw[← hnd] at x0 x1 x2 xl ⊢;clear hnd;go_wp2_with (fail)
  refine(AJ.out _ HS.out).mono ?_;rintro e w4 ⟨A4,C4,rfl,rE⟩;replace HR:=Lib.hid (HR.out.ag rE.2.2 id);replace HX:=Lib.hid (HX.out.ag rE.2.2 id);have j6:=Lib.hid rE.1;replace HS:=Lib.hid (HS.out.trans rE.2.2 (fun _ _ h=>h));clear rE;clear r0 r1 rl g0 g1;have r0:=HR.out.cell 0;have r1:=HR.out.cell 1;have rl:=HR.out.lt;have g0:=HR.out.free 0;have g1:=HR.out.free 1;simp at r0 r1;clear x0 x1 x2 xl;have x0:=HX.out.cell 0;have x1:=HX.out.cell 1;have x2:=HX.out.cell 2;have xl:=HX.out.lt;simp at x0 x1 x2;go_upto_region 7 with fail
  refine ai fun w5 kW=>?_
  have hB4:av w5 w4.heap.size 108 #[.int .i64 nl,.slice A4 zl.length C4]:=by
   rw[kW];exact av.new w4 _ _
  have hs5:Same w4 w5:=by rw[kW];exact(ah.refl _ _).alloc _
  clear kW;replace HR:=Lib.hid (HR.out.ag hs5 id);replace HX:=Lib.hid (HX.out.ag hs5 id);replace j6:=Lib.hid (j6.out.ag hs5 (fun _ _=>id));replace HS:=Lib.hid (HS.out.trans hs5 (fun _ _ h=>h));have hrx:w.heap.size<w4.heap.size:=rl;obtain⟨T4,BS⟩:∃ z,z=w4.heap.size:=⟨_,rfl⟩;rw[← BS] at hB4 hrx ⊢;have qw:=Lib.hid hB4;clear BS hs5 hB4;clear r0 r1 rl g0 g1;have r0:=HR.out.cell 0;have r1:=HR.out.cell 1;have rl:=HR.out.lt;have g0:=HR.out.free 0;have g1:=HR.out.free 1;simp at r0 r1;clear x0 x1 x2 xl;have x0:=HX.out.cell 0;have x1:=HX.out.cell 1;have x2:=HX.out.cell 2;have xl:=HX.out.lt;simp at x0 x1 x2;go_wp2_with (fail)
  refine(BQ.out _ HS.out).mono ?_;rintro e w6 ⟨A6,C6,rfl,jW⟩;replace HR:=Lib.hid (HR.out.ag jW.2.2 id);replace HX:=Lib.hid (HX.out.ag jW.2.2 id);replace qw:=Lib.hid (qw.out.ag jW.2.2 id);replace j6:=Lib.hid (j6.out.ag jW.2.2 (fun _ _=>id));have vH:=Lib.hid jW.1;replace HS:=Lib.hid (HS.out.trans jW.2.2 (fun _ _ h=>h));clear jW;clear r0 r1 rl g0 g1;have r0:=HR.out.cell 0;have r1:=HR.out.cell 1;have rl:=HR.out.lt;have g0:=HR.out.free 0;have g1:=HR.out.free 1;simp at r0 r1;clear x0 x1 x2 xl;have x0:=HX.out.cell 0;have x1:=HX.out.cell 1;have x2:=HX.out.cell 2;have xl:=HX.out.lt;simp at x0 x1 x2;go_upto_region 8 with fail
  refine ai fun w7 hw7=>?_
  have F9:av w7 w6.heap.size 108 #[.int .i64 nh,.slice A6 zh.length C6]:=by
   rw[hw7];exact av.new w6 _ _
  have hs7:Same w6 w7:=by rw[hw7];exact(ah.refl _ _).alloc _
  clear hw7;replace HR:=Lib.hid (HR.out.ag hs7 id);replace HX:=Lib.hid (HX.out.ag hs7 id);replace qw:=Lib.hid (qw.out.ag hs7 id);replace j6:=Lib.hid (j6.out.ag hs7 (fun _ _=>id));replace vH:=Lib.hid (vH.out.ag hs7 (fun _ _=>id));replace HS:=Lib.hid (HS.out.trans hs7 (fun _ _ h=>h));obtain⟨T6,Od⟩:∃ z,z=w6.heap.size:=⟨_,rfl⟩;rw[← Od] at F9 ⊢;have PI:=Lib.hid F9;clear Od hs7 F9;clear r0 r1 rl g0 g1;have r0:=HR.out.cell 0;have r1:=HR.out.cell 1;have rl:=HR.out.lt;have g0:=HR.out.free 0;have g1:=HR.out.free 1;simp at r0 r1;clear x0 x1 x2 xl;have x0:=HX.out.cell 0;have x1:=HX.out.cell 1;have x2:=HX.out.cell 2;have xl:=HX.out.lt;simp at x0 x1 x2;go_wp2;refine bM fun we cK=>?_
  have dH:av we w.heap.size 108 #[.int .i64 0,.slice none 0 0]:=by
   rw[cK]
   have:=(HR.out.set 0 (.int .i64 0)).set 1 (.slice none 0 0)
   simpa using this
  have jy:Same w we:=by rw[cK];exact(HS.out.aj 0 _ (Nat.le_refl _)).aj 1 _ (Nat.le_refl _)
  have hr0:=dH.cell 0;have hr1:=dH.cell 1;simp at hr0 hr1;clear cK dH;refine bodyPost_ret (v:=.tuple #[.agg #[.int .i64 0,.slice none 0 0],.bool false]) (by simp[results,Tryz.results69,go_sem,hr0,hr1]) rfl ?_;exact⟨none,0,rfl,Own.nil _ _ _ _,aL _,jy⟩
 ·show Calls _ _ _ _ (kL w n (some (rW n m zl zh)));go_enter Tryz.func69,Tryz.ntmps69;go_upto_region 1 with fail
  refine ai fun w1 hw1=>?_
  have hs1:Same w w1:=by rw[hw1];exact(ah.refl _ _).alloc _
  have hR:=av.new w 108 #[.int .i64 0,.slice none 0 0];rw[← hw1] at hR;clear hw1;go_wp2_with (fail)
  refine(Rk.out w1 hs1).mono ?_;rintro e w2 ⟨rfl,hs2⟩;go_upto_region 4 with fail
  refine ai fun w3 hw3=>?_
  have hX:av w3 w2.heap.size 37 #[.int .i64 m,.int .u32 N.lo,.int .u32 N.hi]:=by
   rw[hw3];exact av.new w2 _ _
  have hs3:Same w2 w3:=by rw[hw3];exact(ah.refl _ _).alloc _
  clear hw3;have fZ:=hR.ag (hs2.trans hs3 (fun _ _ h=>h)) id;have HS:=Lib.hid (hs1.trans (hs2.trans hs3 (fun _ _ h=>h)) (fun _ _ h=>h));have r0:=fZ.cell 0;have r1:=fZ.cell 1;have rl:=fZ.lt;have g0:=fZ.free 0;have g1:=fZ.free 1;have x0:=hX.cell 0;have x1:=hX.cell 1;have x2:=hX.cell 2;have xl:=hX.lt;simp at r0 r1 x0 x1 x2;have HR:=Lib.hid fZ;have HX:=Lib.hid hX;have BU:w.heap.size≠w2.heap.size:=by have:=hR.ag hs2 id |>.lt;omega
  clear hR fZ hs1 hs2 hs3 hX;have Vy:=Lib.hid BU;clear BU;have HN0:=Lib.hid hn;obtain⟨nd,hnd⟩:∃ z,z=w2.heap.size:=⟨_,rfl⟩;rw[← hnd] at HX Vy;rw[← hnd] at x0 x1 x2 xl ⊢;clear hnd;go_wp2_with (fail)
  refine(AJ.out _ HS.out).mono ?_;rintro e w4 ⟨A4,C4,rfl,rE⟩;replace HR:=Lib.hid (HR.out.ag rE.2.2 id);replace HX:=Lib.hid (HX.out.ag rE.2.2 id);have j6:=Lib.hid rE.1;replace HS:=Lib.hid (HS.out.trans rE.2.2 (fun _ _ h=>h));clear rE;clear r0 r1 rl g0 g1;have r0:=HR.out.cell 0;have r1:=HR.out.cell 1;have rl:=HR.out.lt;have g0:=HR.out.free 0;have g1:=HR.out.free 1;simp at r0 r1;clear x0 x1 x2 xl;have x0:=HX.out.cell 0;have x1:=HX.out.cell 1;have x2:=HX.out.cell 2;have xl:=HX.out.lt;simp at x0 x1 x2;go_upto_region 7 with fail
  refine ai fun w5 kW=>?_
  have hB4:av w5 w4.heap.size 108 #[.int .i64 nl,.slice A4 zl.length C4]:=by
   rw[kW];exact av.new w4 _ _
  have hs5:Same w4 w5:=by rw[kW];exact(ah.refl _ _).alloc _
  clear kW;replace HR:=Lib.hid (HR.out.ag hs5 id);replace HX:=Lib.hid (HX.out.ag hs5 id);replace j6:=Lib.hid (j6.out.ag hs5 (fun _ _=>id));replace HS:=Lib.hid (HS.out.trans hs5 (fun _ _ h=>h));have hrx:w.heap.size<w4.heap.size:=rl;obtain⟨T4,BS⟩:∃ z,z=w4.heap.size:=⟨_,rfl⟩;rw[← BS] at hB4 hrx ⊢;have qw:=Lib.hid hB4;clear BS hs5 hB4;clear r0 r1 rl g0 g1;have r0:=HR.out.cell 0;have r1:=HR.out.cell 1;have rl:=HR.out.lt;have g0:=HR.out.free 0;have g1:=HR.out.free 1;simp at r0 r1;clear x0 x1 x2 xl;have x0:=HX.out.cell 0;have x1:=HX.out.cell 1;have x2:=HX.out.cell 2;have xl:=HX.out.lt;simp at x0 x1 x2;go_wp2_with (fail)
  refine(BQ.out _ HS.out).mono ?_;rintro e w6 ⟨A6,C6,rfl,jW⟩;replace HR:=Lib.hid (HR.out.ag jW.2.2 id);replace HX:=Lib.hid (HX.out.ag jW.2.2 id);replace qw:=Lib.hid (qw.out.ag jW.2.2 id);replace j6:=Lib.hid (j6.out.ag jW.2.2 (fun _ _=>id));have vH:=Lib.hid jW.1;replace HS:=Lib.hid (HS.out.trans jW.2.2 (fun _ _ h=>h));clear jW;clear r0 r1 rl g0 g1;have r0:=HR.out.cell 0;have r1:=HR.out.cell 1;have rl:=HR.out.lt;have g0:=HR.out.free 0;have g1:=HR.out.free 1;simp at r0 r1;clear x0 x1 x2 xl;have x0:=HX.out.cell 0;have x1:=HX.out.cell 1;have x2:=HX.out.cell 2;have xl:=HX.out.lt;simp at x0 x1 x2;go_upto_region 8 with fail
  refine ai fun w7 hw7=>?_
  have F9:av w7 w6.heap.size 108 #[.int .i64 nh,.slice A6 zh.length C6]:=by
   rw[hw7];exact av.new w6 _ _
  have hs7:Same w6 w7:=by rw[hw7];exact(ah.refl _ _).alloc _
  clear hw7;replace HR:=Lib.hid (HR.out.ag hs7 id);replace HX:=Lib.hid (HX.out.ag hs7 id);replace qw:=Lib.hid (qw.out.ag hs7 id);replace j6:=Lib.hid (j6.out.ag hs7 (fun _ _=>id));replace vH:=Lib.hid (vH.out.ag hs7 (fun _ _=>id));replace HS:=Lib.hid (HS.out.trans hs7 (fun _ _ h=>h));obtain⟨T6,Od⟩:∃ z,z=w6.heap.size:=⟨_,rfl⟩;rw[← Od] at F9 ⊢;have PI:=Lib.hid F9;clear Od hs7 F9;clear r0 r1 rl g0 g1;have r0:=HR.out.cell 0;have r1:=HR.out.cell 1;have rl:=HR.out.lt;have g0:=HR.out.free 0;have g1:=HR.out.free 1;simp at r0 r1;clear x0 x1 x2 xl;have x0:=HX.out.cell 0;have x1:=HX.out.cell 1;have x2:=HX.out.cell 2;have xl:=HX.out.lt;simp at x0 x1 x2;obtain⟨e1,hx⟩:=HFL.out (by first | trivial | rfl);obtain⟨e2,hy⟩:=HFH.out (by first | trivial | rfl);rw[e1] at qw;rw[e2] at PI;rw[e1,e2];have hif:=fun w' (hs:Same w7 w')=>Ip (w:=w') (lo:=⟨n,A4,C4,zl⟩) (hi:=⟨n,A6,C6,zh⟩) m hmn ⟨rfl,j6.out.ag hs (fun _ _=>id),hx.1,hx.2⟩ ⟨rfl,vH.out.ag hs (fun _ _=>id),hy.1,hy.2⟩
  unfold Tb.val at hif;simp only at hif;have HIF:=Lib.hid hif;have y0:=qw.out.cell 0;have y1:=qw.out.cell 1;have yl:=qw.out.lt;have z0:=PI.out.cell 0;have z1:=PI.out.cell 1;have zl:=PI.out.lt;simp at y0 y1 z0 z1;clear hx hy hif e1 e2;go_wp2_with (fail)
  refine(HIF.out _ (ah.refl _ _)).mono ?_;rintro e w8 ⟨A8,C8,rfl,Vd⟩;replace HR:=Lib.hid (HR.out.ag Vd.2.2 id);have Tp:=Lib.hid Vd.1;have HF8:=Lib.hid (show bG w.heap.size A8 from fun b hb=>Nat.le_trans HS.out.size (Vd.2.1 b hb));replace HS:=Lib.hid (HS.out.trans Vd.2.2 (fun _ _ h=>h));clear Vd x0 x1 x2 xl y0 y1 yl z0 z1 zl;clear r0 r1 rl g0 g1;have r0:=HR.out.cell 0;have r1:=HR.out.cell 1;have rl:=HR.out.lt;have g0:=HR.out.free 0;have g1:=HR.out.free 1;simp at r0 r1;obtain⟨z,hz⟩:∃ z,rW n m zl zh=z:=⟨_,rfl⟩;rw[hz] at Tp ⊢;have HZ:=Lib.hid hz;clear hz;go_wp2;refine bM fun we cK=>?_
  have dH:av we w.heap.size 108 #[.int .i64 n,.slice A8 z.length C8]:=by
   rw[cK]
   have:=(HR.out.set 0 (.int .i64 n)).set 1 (.slice A8 z.length C8)
   simpa using this
  have D8:∀ x,A8=some x→x.block≠w.heap.size:=fun x hx h=>Tp.out.au HR.out (by decide) x hx h
  have yO:dU we A8 z.length C8 z:=by
   rw[cK];exact(Own.far (p:=⟨w.heap.size,0,none⟩) Tp.out D8 _).far (p:=⟨w.heap.size,1,none⟩) D8 _
  have jy:Same w we:=by rw[cK];exact(HS.out.aj 0 _ (Nat.le_refl _)).aj 1 _ (Nat.le_refl _)
  have hr0:=dH.cell 0;have hr1:=dH.cell 1;simp at hr0 hr1;clear cK dH;refine bodyPost_ret (v:=.tuple #[.agg #[.int .i64 n,.slice A8 z.length C8],.bool true]) (by simp[results,Tryz.results69,go_sem,hr0,hr1]) rfl ?_;have hz:=HZ.out;subst hz;exact⟨A8,C8,rfl,yO,HF8.out,jy⟩
end
section
variable {w w':World} {n:Nat} {kp:Nat} {k:KS} {a:KA}
theorem xN (ls:List Pl) (r:Int):fO ls r=0∨fO ls r=3:=by
 unfold fO;split
 ·exact .inl rfl
 ·exact .inr rfl
theorem Kk (hk:KW w kp k a) (hg:Vx k) (hn:n≤16):∀ (f:Nat) (r:Int),0≤r→r<4294967296→f≤n+1→∀ w',Same w w'→
  Calls Tryz.prog 69 #[.pointer (some ⟨kp,0,none⟩),.int .u32 r,.int .i64 n,.int .i64 ((n+1-f:Nat):Int)] w' (kL w' n (je k n f r)):=by
 intro f
 induction f with
 | zero =>
  intro r h0 h1 hf w' hs;unfold je;by_cases hr:r=0∨r=1
  ·rw[if_pos hr];exact uB r hr hn _ w'
  ·rw[if_neg hr];exact zQ r (fun h=>hr (.inl h)) (fun h=>hr (.inr h)) (n+1-0) (aH k.ls r) (fO k.ls r) w' (fun w2 hs2=>l9 ((hk.same hs).same hs2) r h0 h1) (xN _ _) (.inr (.inl (by omega)))
 | succ f ih =>
  intro r h0 h1 hf w' hs;unfold je;by_cases hr:r=0∨r=1
  ·rw[if_pos hr];exact uB r hr hn _ w'
  ·rw[if_neg hr];by_cases hb:fO k.ls r≠0∨(aH k.ls r).v<0∨(n:Int)≤(aH k.ls r).v
   ·rw[if_pos hb];exact zQ r (fun h=>hr (.inl h)) (fun h=>hr (.inr h)) (n+1-(f+1)) (aH k.ls r) (fO k.ls r) w' (fun w2 hs2=>l9 ((hk.same hs).same hs2) r h0 h1) (xN _ _) (hb.imp id .inr)
   ·rw[if_neg hb];have he:fO k.ls r=0:=by
     rcases xN k.ls r with h | h
     ·exact h
     ·exact absurd (.inl (by rw[h] <;> decide)) hb
    obtain⟨l0,l1,g0,g1⟩:=hg r h0 h1 he;obtain⟨m,hm⟩:=Int.eq_ofNat_of_zero_le (show 0≤(aH k.ls r).v by omega);have hD:((n+1-(f+1):Nat):Int)+1=((n+1-f:Nat):Int):=by omega
    have key:∀ c:Int,0≤c→c<4294967296→∀ w2,Same w' w2→Calls Tryz.prog 69 #[.pointer (some ⟨kp,0,none⟩),.int .u32 c,.int .i64 n,.int .i64 (((n+1-(f+1):Nat):Int)+1)] w2 (fun e w''=>∃ A C,e=.returned (.tuple #[.agg #[.int .i64 (if (je k n f c).isSome then (n:Int) else 0),.slice A ((je k n f c).getD []).length C],.bool (je k n f c).isSome])∧yM w2 ((je k n f c).getD []) A C w''):=by
     intro c c0 c1 w2 hs2;rw[hD];exact ih c c0 c1 (by omega) w2 (hs.trans hs2 (fun _ _ h=>h))
    have ag:∀ c:Int,(je k n f c).isSome=true→(if (je k n f c).isSome then (n:Int) else 0)=n∧mF n ((je k n f c).getD [])∧Small ((je k n f c).getD []):=by
     intro c hc;cases ht:je k n f c with
     | none=>rw[ht] at hc;cases hc
     | some z=>exact⟨rfl,zP hn f c z ht⟩
    have:=F8 (kp:=kp) r (fun h=>hr (.inl h)) (fun h=>hr (.inr h)) (n+1-(f+1)) hn (by omega) (aH k.ls r) m hm (by omega) _ _ _ _ _ _ w' (fun w2 hs2=>by
      have:=l9 ((hk.same hs).same hs2) r h0 h1
      rwa [he] at this) (key _ l0 l1) (key _ g0 g1) (ag _) (ag _)
    rw[hm,Int.toNat_natCast];cases h1:je k n f (aH k.ls r).lo <;> cases h2:je k n f (aH k.ls r).hi <;> rw[h1,h2] at this <;> exact this
end
def fU (p:PS):PS:={ countP p with dead:=(List.range p.ts.length).map fun i:Nat=>!cz (countP p) i }
def Oe (p:PS):Bool :=
 decide (p.k.ord=p.m.ord)&&decide (p.k.tr.length=p.m.tr.length)&&decide ((p.k.ac:Int)-2=((rG p.m).length:Nat))&&
 ((List.range p.m.n).all fun v:Nat=>decide (Py p.k v=nN p.m v)&&decide (Bc p.k v=dY p.m.ord v)&&decide (uI p.k v=0))&&
 decide ((aU p.k).length=p.m.held.length)&&
 ((List.range (aU p.k).length).all fun i:Nat =>
  match je p.k p.m.n (p.m.n+1) ((aU p.k).getD i 0) with
  | none=>false
  | some t=>!decide (iJ p.m.held t=0)&&decide (p.k.hs.getD ((aU p.k).getD i 0).toNat 0=iJ p.m.held t)&&(decide (i=0)||decide ((aU p.k).getD (i-1) 0<(aU p.k).getD i 0)))&&
 ((List.range p.ts.length).all fun i:Nat=>!cz (fU p) i||(decide (je p.k p.m.n (p.m.n+1) (p.refs.getD i 0)=some (p.ts.getD i []))&&
  ((List.range i).all fun j:Nat=>!cz (fU p) j||(decide (p.ts.getD i []=p.ts.getD j []) == decide (p.refs.getD i 0=p.refs.getD j 0)))))
structure Og (p:PS):Prop where
 ord:p.k.ord=p.m.ord
 tr:p.k.tr.length=p.m.tr.length
 live:(p.k.ac:Int)-2=((rG p.m).length:Nat)
 wd:∀ v:Nat,v<p.m.n→Py p.k v=nN p.m v∧Bc p.k v=dY p.m.ord v∧uI p.k v=0
 rl:(aU p.k).length=p.m.held.length
 rt:∀ i:Nat,i<(aU p.k).length→∃ t,je p.k p.m.n (p.m.n+1) ((aU p.k).getD i 0)=some t∧¬ iJ p.m.held t=0∧p.k.hs.getD ((aU p.k).getD i 0).toNat 0=iJ p.m.held t∧(i=0∨(aU p.k).getD (i-1) 0<(aU p.k).getD i 0)
 fn:∀ i:Nat,i<p.ts.length→cz (fU p) i=true→je p.k p.m.n (p.m.n+1) (p.refs.getD i 0)=some (p.ts.getD i [])∧
  ∀ j:Nat,j<i→cz (fU p) j=true→decide (p.ts.getD i []=p.ts.getD j [])=decide (p.refs.getD i 0=p.refs.getD j 0)
theorem Ga {p:PS} (h:Oe p=true):Og p:=by
 unfold Oe at h;simp only[Bool.and_eq_true,Bool.or_eq_true,decide_eq_true_eq,List.all_eq_true,List.mem_range,beq_iff_eq,Bool.not_eq_true'] at h;obtain⟨⟨⟨⟨⟨⟨h1,h2⟩,h3⟩,h4⟩,h5⟩,h6⟩,h7⟩:=h;refine⟨h1,h2,h3,fun v hv=>⟨(h4 v hv).1.1,(h4 v hv).1.2,(h4 v hv).2⟩,h5,?_,?_⟩
 ·intro i hi;have h:=h6 i hi;split at h
  ·cases h
  ·rename_i t ht;simp only[Bool.and_eq_true,Bool.or_eq_true,decide_eq_true_eq,Bool.not_eq_true',decide_eq_false_iff_not] at h;exact⟨t,ht,h.1.1,h.1.2,h.2⟩
 ·intro i hi hl;rcases h7 i hi with h | h
  ·rw[h] at hl;cases hl
  ·refine⟨h.1,fun j hj hlj=>?_⟩;rcases h.2 j hj with g | g
   ·rw[g] at hlj;cases hlj
   ·exact g
theorem Gb {w:World} {n:Nat} {A:Option Addr} {C:Nat} {ts:List Tb} (ho:Go.Tk.Own w 108 2 Tb.cells A ts.length C ts) (ht:∀ t∈ts,TW w n t) {i:Nat} {t:Tb} (hi:ts[i]?=some t):∃ b,A=some ⟨b,0,none⟩∧b<w.heap.size∧w.cell? ⟨b,i*2,none⟩=some (.int .i64 n)∧w.cell? ⟨b,i*2+1,none⟩=some (.slice t.A t.ws.length t.C):=by
 obtain⟨b,h1,h2,h3⟩:=ho.get Tb.ak hi;have h4:=h3 0 (by omega);simp only[Tb.cells,(ht t (List.mem_of_getElem? hi)).N] at h4;exact⟨b,h1,h2,by simpa using h4,h3 1 (by omega)⟩
theorem rJ {ls:List Pl} {r:Int} (h:tk ls r=true) (h0:0≤r):r<ls.length:=by
 unfold tk at h;split at h
 ·rename_i p hp
  have:=(List.getElem?_eq_some_iff.1 hp).1
  omega
 ·cases h
theorem Vz {k:KS} (K:KI k):Vx k:=by
 intro r h0 h1 hE;have ht:tk k.ls r=true:=by
  unfold fO at hE;split at hE
  ·assumption
  ·cases hE
 have hll:k.ls.length≤1048576:=Nat.le_trans K.bk.lim K.bk.cM;rcases(K.live h0).1 ht with rfl | rfl | ⟨n,hn⟩
 ·unfold aH;rw[show((0:Int).toNat)=0 from rfl,K.bk.l0];decide
 ·unfold aH;rw[show((1:Int).toNat)=1 from rfl,K.bk.l1];decide
 ·obtain⟨_,hg,_⟩:=K.mem' hn;rw[hg];obtain⟨_,_,c1,c2,c3,c4,_⟩:=K.bk.eZ n r hn
  have:=rJ c3 c1
  have:=rJ c4 c2
  omega
theorem uD {k:KS} (K:KI k):∀ x∈aU k,0≤x∧x<4294967296:=by
 intro x hx;unfold aU dL at hx;rw[List.mem_map] at hx;obtain⟨i,hi,rfl⟩:=hx;have h1:=List.mem_range.1 (List.mem_filter.1 hi).1;have h2:k.ls.length≤1048576:=Nat.le_trans K.bk.lim K.bk.cM;have h3:=K.bk.E8;have h4:=K.bk.ul;omega
theorem tL {k:KS} (K:KI k):(aU k).length≤1048576:=by
 have h1:=uq k.hs k.hs.length;have h2:k.ls.length≤1048576:=Nat.le_trans K.bk.lim K.bk.cM;have h3:=K.bk.E8;have h4:=K.bk.ul;unfold aU;omega
theorem Oh (k:KS) (r:Int):(jh k r).n=k.n∧(jh k r).c=k.c:=by
 unfold jh;split
 ·exact⟨Fu k r,congrArg (fun t=>t.2.1) (kY k r)⟩
 ·exact⟨rfl,rfl⟩
theorem lK (k:KS) (r:Int):(bE k r).2.n=k.n∧(bE k r).2.c=k.c:=by
 unfold bE;split
 ·exact⟨rfl,rfl⟩
 ·split
  ·split
   ·exact⟨rfl,rfl⟩
   ·exact Oh k r
  ·exact⟨rfl,rfl⟩
theorem Rl (k:KS) (r:Int):(jY k r).n=k.n∧(jY k r).c=k.c:=⟨nG _ k _,congrArg (fun t=>t.2.1) (jQ _ k _)⟩
theorem Gc (k:KS) (r:Int):(ig k r).n=k.n∧(ig k r).c=k.c:=by
 unfold ig;split
 ·exact Rl _ r
 ·exact⟨rfl,rfl⟩
theorem xO (k:KS) (r:Int):(dF k r).2.n=k.n∧(dF k r).2.c=k.c:=by
 unfold dF;split
 ·split
  ·exact⟨rfl,rfl⟩
  ·exact Gc k r
 ·exact⟨rfl,rfl⟩
theorem Eb (k:KS) (r:Int):(bU k r).2.2.n=k.n∧(bU k r).2.2.c=k.c:=by
 unfold bU;split
 ·exact lK k r
 ·exact lK k r
theorem Oi (k:KS) (n:Nd) (o:Option Int):(pI k n o).2.2.n=k.n∧(pI k n o).2.2.c=k.c:=by
 cases o with
 | some r=>exact Eb k r
 | none =>
  show(if k.ac+1≤k.c then bU (aT k n) (aC k) else (0,9,k)).2.2.n=k.n∧(if k.ac+1≤k.c then bU (aT k n) (aC k) else (0,9,k)).2.2.c=k.c;by_cases hc:k.ac+1≤k.c
  ·rw[if_pos hc];have h:=Eb (aT k n) (aC k);exact⟨h.1.trans (Ay k n),h.2.trans (congrArg (fun t=>t.2.1) (oF k n))⟩
  ·rw[if_neg hc];exact⟨rfl,rfl⟩
theorem rM (k:KS) (n:Nd):(aV k n).2.2.n=k.n∧(aV k n).2.2.c=k.c:=by
 unfold aV;split
 ·exact Oi k n _
 ·exact⟨rfl,rfl⟩
theorem rO (k:KS) (l:Nat):(dR k l).2.n=k.n∧(dR k l).2.c=k.c:=by
 refine⟨AY k l,?_⟩;unfold dR;split
 ·show(fA (bW (aZ k _) _ _ _) _).c=k.c;have h:=fun x y=>((iI (bW (aZ k (az k x y)) x y (az k x y)) (az k x y)).trans (lg _ x y _)).trans (kZ k (az k x y))
  exact congrArg (fun t=>t.2.1) (h _ _)
 ·rfl
theorem xP (k:KS) (l:Int):(bL k l).2.n=k.n∧(bL k l).2.c=k.c:=by
 unfold bL;split
 ·exact⟨rfl,rfl⟩
 ·split
  ·exact rO k _
  ·exact rO k _
theorem xQ (k:KS):(bO k).2.2.n=k.n∧(bO k).2.2.c=k.c:=by
 unfold bO;split
 ·exact⟨rfl,rfl⟩
 ·exact rO k _
structure KR (B:Nat→Prop) (w:World) (kp:Nat) (k:KS):Prop where
 ex:∃ a,KW w kp k a∧∀ b,iF k.n kp a b→¬ B b
 ki:KI k
def yS (k:KS):Prop:=∀ l∈k.tr,0≤l∧l+1<k.n
section
variable {w w':World} {B B':Nat→Prop} {kp:Nat} {k:KS}
theorem Up.kept {g:Nat} {ty:TypeId} {cs:Array Value} (h:Up B w w') (hb:av w g ty cs) (hg:B g):av w' g ty cs:=hb.ag h (fun hn=>hn hg)
theorem KR.same (h:KR B w kp k) (hs:Same w w'):KR B w' kp k:=by
 obtain⟨a,h1,h2⟩:=h.ex;exact⟨⟨a,h1.same hs,h2⟩,h.ki⟩
theorem KR.sub (h:KR B w kp k) (hs:∀ b,B' b→B b):KR B' w kp k:=by
 obtain⟨a,h1,h2⟩:=h.ex;exact⟨⟨a,h1,fun b hb hn=>h2 b hb (hs b hn)⟩,h.ki⟩
theorem KR.also (h:KR B w kp k) (hs:Same w w') {C:Nat→Prop} (hC:∀ b,C b→w.heap.size≤b):KR (fun b=>B b∨C b) w' kp k:=by
 obtain⟨a,h1,h2⟩:=h.ex;refine⟨⟨a,h1.same hs,fun b hb hn=>?_⟩,h.ki⟩;rcases hn with hn | hn
 ·exact h2 b hb hn
 ·have:=hC b hn
  have:=h1.lt hb
  omega
theorem KR.ag (h:KR B w kp k) {S:Nat→Prop} (hf:ah S w w') (hS:∀ b,S b→B b):KR B w' kp k:=by
 obtain⟨a,h1,h2⟩:=h.ex;exact⟨⟨a,h1.ag hf (fun b hb hn=>h2 b hb (hS b hn)),h2⟩,h.ki⟩
theorem KR.go {a a':KA} {k':KS} (h2:∀ b,iF k.n kp a b→¬ B b) (hk:KW w' kp k' a') (hg:dB k.n kp w a w' a') (hn:k'.n=k.n) (K:KI k') (hB:∀ b,B b→b<w.heap.size):KR B w' kp k'∧Up B w w':=by
 refine⟨⟨⟨a',hk,fun b hb hn'=>?_⟩,K⟩,hg.ag.mono (fun b _ hb=>h2 b hb)⟩;rw[hn] at hb;rcases hg.fp b hb with h1 | h1
 ·exact h2 b h1 hn'
 ·have:=hB b hn'
  omega
theorem Rn (h:KR B w kp k) (hB:∀ b,B b→b<w.heap.size) (n:Nd) (l0:0≤n.lo) (l1:n.lo<4294967296) (h0:0≤n.hi) (h1:n.hi<4294967296) :
  Calls Tryz.prog 14 #[.pointer (some ⟨kp,0,none⟩),.int .i64 n.v,.int .u32 n.lo,.int .u32 n.hi] w fun e w'=>e=.returned (.tuple #[.int .u32 (aV k n).1,.int .i64 (aV k n).2.1])∧KR B w' kp (aV k n).2.2∧Up B w w':=by
 obtain⟨a,k1,k2⟩:=h.ex;refine(zA k1 h.ki.bk h.ki.lv n l0 l1 h0 h1).mono ?_;rintro e w' ⟨he,a',hk,hg⟩;exact⟨he,KR.go k2 hk hg (rM k n).1 (Bd h.ki l0 h0) hB⟩
theorem Ro (h:KR B w kp k) (hB:∀ b,B b→b<w.heap.size) (r:Int) (h0:0≤r) (h1:r<4294967296) :
  Calls Tryz.prog 15 #[.pointer (some ⟨kp,0,none⟩),.int .u32 r] w fun e w'=>e=.returned (.int .i64 (bE k r).1)∧KR B w' kp (bE k r).2∧Up B w w':=by
 obtain⟨a,k1,k2⟩:=h.ex;refine(sP k1 h.ki.bk r h0 h1).mono ?_;rintro e w' ⟨he,a',hk,hg⟩;exact⟨he,KR.go k2 hk hg (lK k r).1 (Hz h.ki h0) hB⟩
theorem Rp (h:KR B w kp k) (hB:∀ b,B b→b<w.heap.size) (r:Int) (h0:0≤r) (h1:r<4294967296) :
  Calls Tryz.prog 19 #[.pointer (some ⟨kp,0,none⟩),.int .u32 r] w fun e w'=>e=.returned (.int .i64 (dF k r).1)∧KR B w' kp (dF k r).2∧Up B w w':=by
 obtain⟨a,k1,k2⟩:=h.ex;refine(zx k1 h.ki.bk r h0 h1).mono ?_;rintro e w' ⟨he,a',hk,hg⟩;exact⟨he,KR.go k2 hk hg (xO k r).1 (H6 h.ki h0) hB⟩
theorem Iu (h:KR B w kp k) (hB:∀ b,B b→b<w.heap.size) (l:Int) (htr:(k.tr.length+1)*8≤140737488355328) :
  Calls Tryz.prog 24 #[.pointer (some ⟨kp,0,none⟩),.int .i64 l] w fun e w'=>e=.returned (.int .i64 (bL k l).1)∧KR B w' kp (bL k l).2∧Up B w w':=by
 obtain⟨a,k1,k2⟩:=h.ex;refine(zB k1 h.ki.bk.n64 l (fun a0 a1=>?_) htr).mono ?_
 ·obtain⟨x,y,hxy⟩:=zF (l:=l.toNat) h.ki (by omega);exact⟨x,y,AV hxy h.ki⟩
 ·rintro e w' ⟨he,a',hk,hg⟩;exact⟨he,KR.go k2 hk hg (xP k l).1 (Hw h.ki l) hB⟩
theorem Iw (h:KR B w kp k) (hB:∀ b,B b→b<w.heap.size) (ht:yS k) (htr:k.tr.length≤1000000000000000000) :
  Calls Tryz.prog 26 #[.pointer (some ⟨kp,0,none⟩)] w fun e w'=>e=.returned (.tuple #[.int .i64 (bO k).1,.int .i64 (bO k).2.1])∧KR B w' kp (bO k).2.2∧Up B w w':=by
 obtain⟨a,k1,k2⟩:=h.ex;have hl:∀ l,k.tr.getLast?=some l→0≤l∧l+1<k.n:=fun l hl=>ht l (List.mem_of_getLast? hl)
 refine(JF k1 (fun l h1=>?_) htr).mono ?_
 ·obtain⟨g0,g1⟩:=hl l h1;have h64:=h.ki.bk.n64;obtain⟨x,y,hxy⟩:=zF (l:=l.toNat) h.ki (by omega);exact⟨g0,by omega,x,y,AV hxy h.ki⟩
 ·rintro e w' ⟨he,a',hk,hg⟩;exact⟨he,KR.go k2 hk hg (xQ k).1 (QE h.ki hl) hB⟩
theorem vI (h:KR B w kp k) (r:Int) (h0:0≤r) (h1:r<4294967296) :
  Calls Tryz.prog 20 #[.pointer (some ⟨kp,0,none⟩),.int .u32 r] w fun e w'=>e=.returned (.tuple #[(aH k.ls r).val,.int .i64 (fO k.ls r)])∧Same w w':=by
 obtain⟨a,k1,k2⟩:=h.ex;exact l9 k1 r h0 h1
theorem Rq (h:KR B w kp k) (r:Int) (h0:0≤r) (h1:r<4294967296) :
  Calls Tryz.prog 17 #[.pointer (some ⟨kp,0,none⟩),.int .u32 r] w fun e w'=>e=.returned (.int .i64 (k.hs.getD r.toNat 0))∧w=w':=by
 obtain⟨a,k1,k2⟩:=h.ex;exact sN k1 r h0 h1 (fun x hx=>⟨(h.ki.bk.hol _ x hx).1,(h.ki.bk.hol _ x hx).2.1⟩)
theorem KI.acl (K:KI k):k.ac≤1048576:=by
 have h1:=K.bk.iG;have h2:=K.bk.lim;have h3:=K.bk.cM;omega
theorem jC (h:KR B w kp k):Calls Tryz.prog 18 #[.pointer (some ⟨kp,0,none⟩)] w fun e w'=>e=.returned (.int .i64 ((k.ac:Int)-2))∧w=w':=by
 obtain⟨a,k1,k2⟩:=h.ex;exact qa k1 (by have:=h.ki.acl;omega)
theorem gu (h:KR B w kp k):Calls Tryz.prog 35 #[.pointer (some ⟨kp,0,none⟩)] w fun e w'=>e=.returned (.int .i64 k.tr.length)∧w=w':=by
 obtain⟨a,k1,k2⟩:=h.ex;exact qb k1
theorem Rs (h:KR B w kp k):Calls Tryz.prog 29 #[.pointer (some ⟨kp,0,none⟩)] w fun e w'=>e=.returned (.int .i64 k.n)∧w=w':=by
 obtain⟨a,k1,k2⟩:=h.ex;exact JH k1
theorem Oj (h:KR B w kp k):Calls Tryz.prog 30 #[.pointer (some ⟨kp,0,none⟩)] w fun e w'=>e=.returned (.int .i64 k.c)∧w=w':=by
 obtain⟨a,k1,k2⟩:=h.ex;exact FD k1
theorem KI.Ol (K:KI k):k.ord.length=k.n:=K.lv.ol
theorem gD (h:KR B w kp k):Calls Tryz.prog 25 #[.pointer (some ⟨kp,0,none⟩)] w (Fz w k.ord):=by
 obtain⟨a,k1,k2⟩:=h.ex;exact xk k1 (by rw[h.ki.Ol];exact h.ki.bk.n64)
theorem Om (h:KR B w kp k):Calls Tryz.prog 22 #[.pointer (some ⟨kp,0,none⟩)] w fun e w'=>∃ A C,e=.returned (.slice A (aU k).length C)∧Row1 w' 28 rc A (aU k).length C (aU k)∧bG w.heap.size A∧Same w w':=by
 obtain⟨a,k1,k2⟩:=h.ex;exact xh k1 h.ki.bk
theorem Oo (h:KR B w kp k) (v:Int):Calls Tryz.prog 32 #[.pointer (some ⟨kp,0,none⟩),.int .i64 v] w fun e w'=>e=.returned (.tuple #[.int .i64 (Py k v),.int .i64 (uI k v)])∧w=w':=by
 obtain⟨a,k1,k2⟩:=h.ex;exact xq k1 v
theorem Oq (h:KR B w kp k) (v:Int):Calls Tryz.prog 33 #[.pointer (some ⟨kp,0,none⟩),.int .i64 v] w fun e w'=>e=.returned (.tuple #[.int .i64 (Bc k v),.int .i64 (uI k v)])∧w=w':=by
 obtain⟨a,k1,k2⟩:=h.ex;exact xm k1 h.ki.lv v
theorem VA (n c:Nat) (h1:1≤n) (h2:n≤64) (h3:2≤c) (h4:c≤1048576) (w:World):Calls Tryz.prog 13 #[.int .i64 n,.int .i64 c] w fun e w'=>∃ kp,e=.returned (.tuple #[.pointer (some ⟨kp,0,none⟩),.int .i64 0])∧KR (fun b=>b<w.heap.size) w' kp (xu n c)∧Same w w':=by
 refine(Dj n c h1 h2 h3 h4).mono ?_;rintro e w' ⟨kp,a,he,hk,hs,hf⟩;exact⟨kp,he,⟨⟨a,hk,fun b hb hn=>by have:=hf b hb;omega⟩,M4 h1 h2 h3 h4⟩,hs⟩
end
section
variable {w w':World} {B:Nat→Prop} {kp:Nat} {k k':KS} {r E:Int}
theorem Ot (h:KR B w kp k) (r:Int) (h0:0≤r) (h1:r<4294967296) {n:Nd} (e:aH k.ls r=n) (e2:fO k.ls r=E) :
  Calls Tryz.prog 20 #[.pointer (some ⟨kp,0,none⟩),.int .u32 r] w fun e w'=>e=.returned (.tuple #[.agg #[.int .i64 n.v,.int .u32 n.lo,.int .u32 n.hi],.int .i64 E])∧Same w w':=by
 have h:=vI h r h0 h1;rw[e,e2] at h;exact h
end
def Kl (l:List Int) (r:Int):Int:=if r∈l then (l.idxOf r:Nat) else -1
theorem Iy {l:List Int} {r:Int}:0≤Kl l r↔r∈l:=by
 unfold Kl;by_cases h:r∈l
 ·rw[if_pos h];exact⟨fun _=>h,fun _=>Int.natCast_nonneg _⟩
 ·rw[if_neg h];exact⟨fun h1=>by omega,fun h1=>absurd h1 h⟩
theorem Ec {l:List Int} {r:Int} {i:Nat} (hi:l[i]?=some r) (h:r∉l.take i):l.idxOf r=i:=by
 induction l generalizing i with
 | nil=>simp at hi
 | cons x l ih =>
  cases i with
  | zero =>
   simp at hi;subst hi;simp
  | succ i =>
   simp only[List.getElem?_cons_succ] at hi;simp only[List.take_succ_cons,List.mem_cons,not_or] at h;have hne:¬ x=r:=fun e=>h.1 e.symm
   have hne':(x == r)=false:=by simpa using hne
   rw[List.idxOf_cons,hne',ih hi h.2];rfl
section
variable {w w':World}
theorem Iz (A:Option Addr) (n C:Nat) (xs:List Int) (r:Int) (w:World) (h:Sl w 1 (fun x=>[rc x]) A n xs) (hb:n≤1000000000000000) :
  Calls Tryz.prog 23 #[.slice A n C,.int .u32 r] w fun e w'=>e=.returned (.int .i64 (Kl xs r))∧w=w':=by
 obtain rfl:=h.len;have H:=Lib.hid h;obtain⟨R,hR⟩:∃ z,Kl xs r=z:=⟨_,rfl⟩;rw[hR];have HR:=Lib.hid hR;clear h hR;go_enter Tryz.func23,Tryz.ntmps23;go_wp2_with (fail)
 go_loopw [5] (fun s wr=>∃ i:Nat,i≤xs.length∧s=.int .i64 i∧r∉xs.take i∧w=wr) (fun s _=>xs.length-(intOf s).toNat)
 case atStart=>exact⟨0,by omega,rfl,by simp,rfl⟩
 case round =>
  obtain⟨i,hi,rfl,hn,rfl⟩:=hrel;have HN:=Lib.hid hn;clear hn;by_cases hlt:i<xs.length
  ·have hI:(i:Int)<(xs.length:Int):=by omega
   obtain⟨x,hx⟩:∃ x,xs[i]?=some x:=⟨_,List.getElem?_eq_getElem hlt⟩;obtain⟨b,off,hA,hbl,hc⟩:=H.out.get i x hx;have c0:w.cell? ⟨b,off+i,none⟩=some (.int .u32 x):=by
    have:=hc 0 (by omega)
    simpa [rc] using this
   have HX:=Lib.hid hx
   have HM:Hid (r∈xs.take (i+1)↔r∈xs.take i∨r=x):=Lib.hid (by
    rw[List.take_add_one,hx]
    simp)
   clear hx hc;subst hA;by_cases he:x=r
   ·subst he;have hres:Kl xs x=i:=by
     unfold Kl;rw[if_pos (List.mem_of_getElem? HX.out),Ec HX.out HN.out]
    have hR:R=i:=HR.out.symm.trans hres;subst hR;clear hres;go_wp2;go_ret;exact⟨rfl,rfl⟩
   ·go_wp2;go_roundw
    case rel=>exact⟨i+1,by omega,by go_num,fun h=>(HM.out.1 h).elim HN.out (fun h=>he h.symm),trivial⟩
    case measure=>simp[intOf] <;> omega
  ·obtain rfl:i=xs.length:=by omega
   have hI:¬ ((xs.length:Nat):Int)<(xs.length:Int):=by omega
   have hres:Kl xs r = -1:=by
    unfold Kl
    have:=HN.out
    rw[List.take_length] at this;rw[if_neg this]
   have hR:R = -1:=HR.out.symm.trans hres;subst hR;clear hres;go_wp2;go_ret;exact⟨rfl,rfl⟩
end
def iY (k:KS) (r:Int):Prop:=0≤r∧tk k.ls r=true
structure qm (k:KS) (list st l:List Int):Prop where
 nd:l.Nodup
 ll:∀ r∈l,iY k r
 la:∀ r∈st,iY k r
 top:∀ r,(r=0∨r=1∨r∈list)→r∈l∨r∈st
 eZ:∀ r∈l,0≤(aH k.ls r).v→((aH k.ls r).lo∈l∨(aH k.ls r).lo∈st)∧((aH k.ls r).hi∈l∨(aH k.ls r).hi∈st)
 len:st.length≤list.length+2+2*l.length
structure Gd (k:KS) (list l:List Int):Prop where
 nd:l.Nodup
 ll:∀ r∈l,iY k r
 top:∀ r,(r=0∨r=1∨r∈list)→r∈l
 eZ:∀ r∈l,0≤(aH k.ls r).v→(aH k.ls r).lo∈l∧(aH k.ls r).hi∈l
section
variable {k:KS} {list st l:List Int} {r:Int}
theorem qm.out (h:qm k list [] l):Gd k list l :=
 ⟨h.nd,h.ll,fun r hr=>(h.top r hr).elim id (fun h=>by cases h),fun r hr hv=>⟨(h.eZ r hr hv).1.elim id (fun h=>by cases h),(h.eZ r hr hv).2.elim id (fun h=>by cases h)⟩⟩
theorem qm.skip (h:qm k list (r::st) l) (hr:r∈l):qm k list st l:=by
 have e:∀ x,(x∈l∨x∈r::st)→x∈l∨x∈st:=fun x hx=>by
  rcases hx with hx | hx
  ·exact .inl hx
  ·rcases List.mem_cons.1 hx with rfl | hx
   ·exact .inl hr
   ·exact .inr hx
 exact⟨h.nd,h.ll,fun x hx=>h.la x (List.mem_cons_of_mem _ hx),fun x hx=>e x (h.top x hx),fun x hx hv=>⟨e _ (h.eZ x hx hv).1,e _ (h.eZ x hx hv).2⟩,by have:=h.len;simp only[List.length_cons] at this;omega⟩
theorem qm.leaf (h:qm k list (r::st) l) (hr:r∉l) (hv:¬ 0≤(aH k.ls r).v):qm k list st (l++[r]):=by
 have e:∀ x,(x∈l∨x∈r::st)→x∈l++[r]∨x∈st:=fun x hx=>by
  rcases hx with hx | hx
  ·exact .inl (List.mem_append_left _ hx)
  ·rcases List.mem_cons.1 hx with rfl | hx
   ·exact .inl (by simp)
   ·exact .inr hx
 refine⟨?_,fun x hx=>?_,fun x hx=>h.la x (List.mem_cons_of_mem _ hx),fun x hx=>e x (h.top x hx),fun x hx hv'=>?_,?_⟩
 ·rw[List.nodup_append];exact⟨h.nd,by simp,fun a ha b hb=>by simp at hb;subst hb;exact fun e=>hr (e ▸ ha)⟩
 ·rcases List.mem_append.1 hx with hx | hx
  ·exact h.ll x hx
  ·simp at hx;subst hx;exact h.la x (List.mem_cons_self ..)
 ·rcases List.mem_append.1 hx with hx | hx
  ·exact⟨e _ (h.eZ x hx hv').1,e _ (h.eZ x hx hv').2⟩
  ·simp at hx;subst hx;exact absurd hv' hv
 ·have:=h.len
  simp at this ⊢;omega
theorem qm.node (h:qm k list (r::st) l) (hr:r∉l) (h1:iY k (aH k.ls r).lo) (h2:iY k (aH k.ls r).hi):qm k list ((aH k.ls r).hi::(aH k.ls r).lo::st) (l++[r]):=by
 have e:∀ x,(x∈l∨x∈r::st)→x∈l++[r]∨x∈(aH k.ls r).hi::(aH k.ls r).lo::st:=fun x hx=>by
  rcases hx with hx | hx
  ·exact .inl (List.mem_append_left _ hx)
  ·rcases List.mem_cons.1 hx with rfl | hx
   ·exact .inl (by simp)
   ·exact .inr (by simp[hx])
 refine⟨?_,fun x hx=>?_,fun x hx=>?_,fun x hx=>e x (h.top x hx),fun x hx hv'=>?_,?_⟩
 ·rw[List.nodup_append];exact⟨h.nd,by simp,fun a ha b hb=>by simp at hb;subst hb;exact fun e=>hr (e ▸ ha)⟩
 ·rcases List.mem_append.1 hx with hx | hx
  ·exact h.ll x hx
  ·simp at hx;subst hx;exact h.la x (List.mem_cons_self ..)
 ·simp only[List.mem_cons] at hx;rcases hx with rfl | rfl | hx
  ·exact h2
  ·exact h1
  ·exact h.la x (List.mem_cons_of_mem _ hx)
 ·rcases List.mem_append.1 hx with hx | hx
  ·exact⟨e _ (h.eZ x hx hv').1,e _ (h.eZ x hx hv').2⟩
  ·simp at hx;subst hx;exact⟨.inr (by simp),.inr (by simp)⟩
 ·have:=h.len
  simp at this ⊢;omega
theorem Gf (K:KI k) (hl:∀ r∈list,iY k r):qm k list (list.reverse++[1,0]) []:=by
 refine⟨List.nodup_nil,fun r hr=>(by cases hr),fun r hr=>?_,fun r hr=>.inr ?_,fun r hr=>(by cases hr),by simp⟩
 ·rcases List.mem_append.1 hr with h | h
  ·exact hl r (List.mem_reverse.1 h)
  ·simp only[List.mem_cons,List.not_mem_nil,or_false] at h;rcases h with rfl | rfl
   ·exact⟨by omega,(K.live (by omega)).2 (.inr (.inl rfl))⟩
   ·exact⟨by omega,(K.live (by omega)).2 (.inl rfl)⟩
 ·rcases hr with rfl | rfl | hr
  ·simp
  ·simp
  ·exact List.mem_append_left _ (List.mem_reverse.2 hr)
theorem tN (h:l.Nodup) (hl:∀ r∈l,iY k r):l.length≤k.ls.length:=by
 have h1:=gK (m:=(List.range k.ls.length).map fun (i:Nat)=>(i:Int)) h (fun r hr=>by
  obtain⟨h0,h1⟩:=hl r hr;have h2:=rJ h1 h0;rw[List.mem_map]
  exact⟨r.toNat,List.mem_range.2 (by omega),by omega⟩)
 simpa using h1
theorem KI.lsl (K:KI k):k.ls.length≤1048576:=Nat.le_trans K.bk.lim K.bk.cM
theorem xR (K:KI k) (hr:iY k r) (hv:0≤(aH k.ls r).v):iY k (aH k.ls r).lo∧iY k (aH k.ls r).hi:=by
 rcases(K.live hr.1).1 hr.2 with h | h | ⟨n,hn⟩
 ·rw[K.const (.inl h)] at hv;omega
 ·rw[K.const (.inr h)] at hv;omega
 ·obtain⟨_,hg,_⟩:=K.mem' hn;rw[hg];obtain⟨_,_,c1,c2,c3,c4,_⟩:=K.bk.eZ n r hn;exact⟨⟨c1,c3⟩,c2,c4⟩
end
section
variable {w w':World} {B:Nat→Prop} {kp:Nat} {k:KS}
theorem Km (hK:KR B w kp k) (A:Option Addr) (n C:Nat) (list:List Int) (hA:Sl w 1 (fun x=>[rc x]) A n list) (hl:∀ r∈list,iY k r) (hb:n≤2000000) :
  Calls Tryz.prog 21 #[.pointer (some ⟨kp,0,none⟩),.slice A n C] w fun e w'=>∃ A' C' l,e=.returned (.tuple #[.slice A' l.length C',.bool true])∧Gd k list l∧Row1 w' 28 rc A' l.length C' l∧bG w.heap.size A'∧Same w w':=by
 obtain rfl:=hA.len;have HK:=Lib.hid hK;have HA:=Lib.hid hA;have HL:=Lib.hid hl;have hls:=hK.ki.lsl;clear hK hA hl;go_enter Tryz.func21,Tryz.ntmps21;go_upto_region 2 with fail
 refine ai fun w1 hw1=>?_
 have hs1:Same w w1:=by rw[hw1];exact(ah.refl _ _).alloc _
 have hT:=Go.Tk.Own.lit w 28 (fun x=>[rc x]) (fun _=>rfl) [0,1] (by simp[maxLen]) (cs:=#[.int .u32 0,.int .u32 1]) (by simp[rc]);have hT1:Row1 w1 28 rc (some ⟨w.heap.size,0,none⟩) 2 2 [0,1]:=by rw[hw1];exact hT
 clear hw1 hT;refine aR 2 ?_;simp only[List.take_succ_cons,List.take_zero,List.drop_succ_cons,List.drop_zero];repeat (any_goals (first | go_big_quiet_step (fail) | quiet_step (fail)))
 refine wpQuiet_nil ?_;refine wpList_plain rfl fun K hK=>?_
 refine Own.bS (.tmp 12) (.tmp 13) _ rfl Tryz.underlying40 iP rfl (by omega) rfl hT1 (fun _=>rfl) list A C rfl (fun hne=>Sl.source (m:=1) (f:=fun x=>[rc x]) (fun _=>rfl) Nat.one_pos (HA.out.same hs1) hne) (fun y _=>by simp[rc,Value.oneCell']) (by simp[maxLen] <;> omega) (by simp <;> omega) ?_;intro A4 C4 w4 hO4 hg4 Ka;refine hK _ _ ?_;clear hK K
 have hs4:Same w w4:=hs1.grown hg4 (fun g hg=>.inr (by
  obtain⟨x,hx,hxb⟩:=af.1 hg;injection hx with hx
  subst hx
  exact Nat.le_of_eq hxb))
 have hf4:bG w.heap.size A4:=fun b hb=>(Ka b hb).elim (fun h=>by
  obtain⟨x,hx,hxb⟩:=h;injection hx with hx
  subst hx;exact Nat.le_of_eq hxb) (fun h=>by
  have:=hs1.size
  omega)
 obtain⟨st,hst⟩:∃ z,list.reverse++[1,0]=z:=⟨_,rfl⟩;have hI:=Gf HK.out.ki HL.out;rw[hst] at hI;have e:[0,1]++list=st.reverse:=by rw[← hst];simp
 have e2:([0,1]++list).length=st.length:=by rw[e,List.length_reverse]
 rw[e2];rw[e,List.length_reverse] at hO4;have gH:=Lib.hid hs4;have V6:=Lib.hid hf4;have HI:=Lib.hid hI;have nU:=Lib.hid hO4;clear hs4 hf4 hI hO4 hg4 Ka e e2 hT1 hs1 hst;go_wp2_with (fail)
 go_loopw [6,7] (fun s6 s7 wr=>∃ (A:Option Addr) (C:Nat) (st:List Int) (A':Option Addr) (C':Nat) (l:List Int),s6=.slice A st.length C∧s7=.slice A' l.length C'∧qm k list st l∧Row1 wr 28 rc A st.length C st.reverse∧Row1 wr 28 rc A' l.length C' l∧bG w.heap.size A∧bG w.heap.size A'∧(∀ b,rowOf A b→¬ rowOf A' b)∧Same w wr) (fun s6 s7 _=>3*(k.ls.length-lenOf s7)+lenOf s6)
 case atStart=>exact⟨A4,C4,st,none,0,[],rfl,rfl,HI.out,nU.out,Own.nil _ _ _ _,V6.out,aL _,(fun b _ h=>by obtain⟨x,hx,_⟩:=h;cases hx),gH.out⟩
 case round =>
  clear HI nU V6 gH;obtain⟨A5,C5,st,A6,C6,l,rfl,rfl,hI,hT,hO,XZ,Mm,hdj,hs⟩:=hrel;have hll:=tN hI.nd hI.ll;have hsl:=hI.len;have HI:=Lib.hid hI;have HT:=Lib.hid hT;have HO:=Lib.hid hO;have GZ:=Lib.hid XZ;have Lj:=Lib.hid Mm;have HDJ:=Lib.hid hdj;have HS:=Lib.hid hs;clear hI hT hO XZ Mm hdj hs;cases st with
  | nil =>
   go_wp2;go_ret2;exact⟨A6,C6,l,rfl,HI.out.out,HO.out,Lj.out,HS.out⟩
  | cons r st =>
   obtain⟨tb,ZU,tbl,XC⟩:=HT.out.dV (i:=st.length) (x:=r) (by simp);subst ZU;have CP:Row1 wr 28 rc (some ⟨tb,0,none⟩) st.length C5 st.reverse:=by
    have:=HT.out
    rw[List.reverse_cons] at this
    have:=Go.Tk.Own.pop (f:=fun x=>[rc x]) (fun _=>rfl) this
    rwa [List.length_reverse] at this
   have hcp:st.length+1≤C5∧C5<9223372036854775808:=by
    have:=HT.out
    simp only[List.length_cons] at this;rcases this.own.2 with⟨h0,_⟩ | ⟨_,cap,_,h1,_,_,h3,h4,_⟩
    ·cases h0
    ·injection h1 with _ _ h1
     subst h1;unfold maxLen at h4;omega
   obtain⟨hs1,hs2⟩:=hcp;replace XC:wr.cell? ⟨tb,st.length,none⟩=some (.int .u32 r):=XC;have hc1:((st.length:Int)+1)>0:=by omega
   have hlr:=HI.out.la r (List.mem_cons_self ..);have hr0:=hlr.1;have hr1:r<4294967296:=by have:=rJ hlr.2 hr0;omega
   have yG:=Lib.hid CP;have Vf:=Lib.hid hlr;simp only[List.length_cons] at hsl ⊢;clear CP hlr;have hat:=Iz A6 l.length C6 l r wr (HO.out.sl (fun _=>rfl)) (by omega);by_cases hm:r∈l
   ·have hz:=Iy.2 hm;obtain⟨z,hze⟩:∃ z,Kl l r=z:=⟨_,rfl⟩;rw[hze] at hat hz;have HAT:=Lib.hid hat;have HM:=Lib.hid hm;clear hat hm hze;go_wp2_with (fail)
    refine HAT.out.mono ?_;rintro e wx ⟨rfl,rfl⟩;go_wp2;go_roundw
    case rel=>exact⟨some ⟨tb,0,none⟩,C5,st,A6,C6,l,rfl,rfl,HI.out.skip HM.out,yG.out,HO.out,GZ.out,Lj.out,HDJ.out,HS.out⟩
    case measure=>simp[lenOf,nC]
   ·have hz:Kl l r = -1:=by unfold Kl;rw[if_neg hm]
    rw[hz] at hat;have hnd:=fun w' (hs:Same wr w')=>vI ((HK.out.same HS.out).same hs) r hr0 hr1
    have hE:fO k.ls r=0:=by unfold fO;rw[if_pos Vf.out.2]
    rw[hE] at hnd;have HAT:=Lib.hid hat;have HM:=Lib.hid hm;have Jo:=Lib.hid hnd;clear hat hm hz hnd hE;go_wp2_with (fail)
    refine HAT.out.mono ?_;rintro e wx ⟨rfl,rfl⟩;go_wp2_with (fail)
    refine(Jo.out _ (ah.refl _ _)).mono ?_;rintro e wy ⟨rfl,hsy⟩;have VB:Hid (0≤(aH k.ls r).v→qm k list ((aH k.ls r).hi::(aH k.ls r).lo::st) (l++[r])):=Lib.hid (fun hv=>HI.out.node HM.out (xR HK.out.ki Vf.out hv).1 (xR HK.out.ki Vf.out hv).2);have Ey:Hid (¬ 0≤(aH k.ls r).v→qm k list st (l++[r])):=Lib.hid (fun hv=>HI.out.leaf HM.out hv);obtain⟨⟨v,lo,hi⟩,hn⟩:∃ z,aH k.ls r=z:=⟨_,rfl⟩;rw[hn] at VB Ey ⊢;simp only at VB Ey;unfold Nd.val;have PK:=Lib.hid (HS.out.trans hsy (fun _ _ h=>h));have VC:=Lib.hid hsy;replace yG:=Lib.hid (yG.out.ag hsy (fun _ _=>id));replace HO:=Lib.hid (HO.out.ag hsy (fun _ _=>id));clear hsy hn Jo HAT;go_upto_region 11 with fail
    refine ai fun w9 Mx=>?_
    have hN:=av.new wy 37 #[.int .i64 v,.int .u32 lo,.int .u32 hi];have mP:Same wy w9:=by rw[Mx];exact(ah.refl _ _).alloc _
    rw[← Mx] at hN;clear Mx;refine aR 2 ?_;simp only[List.take_succ_cons,List.take_zero,List.drop_succ_cons,List.drop_zero];repeat (any_goals (first | go_big_quiet_step (fail) | quiet_step (fail)))
    refine wpQuiet_nil ?_;refine wpList_plain rfl fun K hK=>?_
    go_simp;refine hK _ _ ?_;clear hK K;refine aK fun wa dJ=>?_
    have hL:=av.new w9 28 #[.int .u32 r];have hsa:Same w9 wa:=by rw[dJ];exact(ah.refl _ _).alloc _
    rw[← dJ] at hL;clear dJ;have Kn:=mP.trans hsa (fun _ _ h=>h);have hrow:=HO.out.ag Kn (fun _ _=>id);refine Own.aI (f:=fun x=>[rc x]) rfl (.tmp 41) (.tmp 43) _ rfl Tryz.underlying40 iP rfl (by omega) rfl hrow (fun _=>rfl) r w9.heap.size 1 rfl (by simpa [rc] using hL) (by simp[Value.oneCell',rc]) (by unfold maxLen;omega) (by omega) ?_;intro gg cap wb hOb hgb hat;have hsb:Same w wb:=(HS.out.trans (VC.out.trans Kn (fun _ _ h=>h)) (fun _ _ h=>h)).grown hgb (fun g hg=>.inr (Lj.out g (af.1 hg)))
    have hNb:=(hN.ag hsa id).grown hgb (fun hx=>by
     obtain⟨x,hx,hxb⟩:=af.1 hx.symm
     exact hrow.au (hN.ag hsa id) (by decide) x hx hxb)
    have hPb:=(yG.out.ag Kn (fun _ _=>id)).gW hgb (fun b hb hA=>HDJ.out b hA (af.1 hb));have rT:bG w.heap.size (some ⟨gg,0,none⟩):=fun b hb=>by
     obtain⟨x,hx,rfl⟩:=hb;injection hx with hx
     subst hx;rcases hat with h | h
     ·exact Lj.out gg (af.1 h)
     ·have h1:=PK.out.size;have h2:=Kn.size;show w.heap.size≤gg;omega
    have hdb:∀ b,rowOf (some ⟨tb,0,none⟩) b→¬ rowOf (some ⟨gg,0,none⟩) b:=fun b hb hb2=>by
     obtain⟨x,hx,rfl⟩:=hb2;injection hx with hx
     subst hx;rcases hat with h | h
     ·exact HDJ.out gg hb (af.1 h)
     ·have h1:=cu yG.out hb;have h2:=Kn.size;simp only at h1;omega
    have n0:=hNb.cell 0;have n1:=hNb.cell 1;have n2:=hNb.cell 2;have nl:=hNb.lt;simp at n0 n1 n2;have ab5:(l++[r]).length≤k.ls.length:=by
     by_cases hv:0≤v
     ·exact tN (VB.out hv).nd (VB.out hv).ll
     ·exact tN (Ey.out (by omega)).nd (Ey.out (by omega)).ll
    rw[List.length_append,List.length_singleton] at ab5;have l7:=Lib.hid hsb;have HPB:=Lib.hid hPb;have GY:=Lib.hid rT;have ZV:=Lib.hid hdb;have Av:=Lib.hid hOb;clear hsb hPb rT hdb hOb hgb hat hrow mP hsa Kn hN hL hNb HO yG;by_cases hv:0≤v
    ·have HW:=Lib.hid (VB.out hv);have hc3:¬ (l.length:Int)+1>2097152:=by omega
     clear VB Ey;go_upto_region 13 with fail
     refine aR 5 ?_;simp only[List.take_succ_cons,List.take_zero,List.drop_succ_cons,List.drop_zero];repeat (any_goals (first | go_big_quiet_step (fail) | quiet_step (fail)))
     refine wpQuiet_nil ?_;refine wpList_plain rfl fun K hK=>?_
     go_simp;refine hK _ _ ?_;clear hK K;refine aK fun wc hwc=>?_
     have hsc:Same wb wc:=by rw[hwc];exact(ah.refl _ _).alloc _
     have hL2:=Go.Tk.Own.lit wb 28 (fun x=>[rc x]) (fun _=>rfl) [lo,hi] (by simp[maxLen]) (cs:=#[.int .u32 lo,.int .u32 hi]) (by simp[rc]);have hL3:Row1 wc 28 rc (some ⟨wb.heap.size,0,none⟩) 2 2 [lo,hi]:=by rw[hwc];exact hL2
     clear hwc hL2;have hrow:=HPB.out.ag hsc (fun _ _=>id);refine wpList_plain rfl fun K hK=>?_
     refine Own.bS (.tmp 48) (.tmp 53) _ rfl Tryz.underlying40 iP rfl (by omega) rfl hrow (fun _=>rfl) [lo,hi] (some ⟨wb.heap.size,0,none⟩) 2 rfl (fun hne=>Sl.source (m:=1) (f:=fun x=>[rc x]) (fun _=>rfl) Nat.one_pos (hL3.sl (fun _=>rfl)) hne) (fun y _=>by simp[rc,Value.oneCell']) (by simp[maxLen] <;> omega) (by simp <;> omega) ?_;intro A7 C7 w7 Kc wH VD;refine hK _ _ ?_;clear hK K;have hs7:Same w w7:=(l7.out.trans hsc (fun _ _ h=>h)).grown wH (fun g hg=>.inr (GZ.out g (af.1 hg)))
     have Aq:bG w.heap.size A7:=fun b hb=>(VD b hb).elim (GZ.out b) (fun h=>by
      have:=l7.out.size
      have:=hsc.size
      omega)
     have hO8:=(Av.out.ag hsc (fun _ _=>id)).gW wH (fun b hb hA=>ZV.out b (af.1 hb) hA);have hd7:∀ b,rowOf A7 b→¬ rowOf (some ⟨gg,0,none⟩) b:=fun b hb hb2=>by
      rcases VD b hb with h | h
      ·exact ZV.out b h hb2
      ·have h1:=cu Av.out hb2
       have:=hsc.size
       omega
     have e7:(st.reverse++[lo,hi]).length=(hi::lo::st).length:=by simp
     rw[e7];have hO9:Row1 w7 28 rc A7 (hi::lo::st).length C7 (hi::lo::st).reverse:=by
      have e8:(hi::lo::st).reverse=st.reverse++[lo,hi]:=by simp
      rw[e8,← e7];exact Kc
     have jZ:=Lib.hid hs7;have HF7:=Lib.hid Aq;have Tp:=Lib.hid hO8;have HD7:=Lib.hid hd7;have HO9:=Lib.hid hO9;obtain⟨st2,VE⟩:∃ z,hi::lo::st=z:=⟨_,rfl⟩;have hl2:st2.length=st.length+2:=by rw[← VE];rfl
     rw[VE] at HW HO9 ⊢;have HL2:=Lib.hid hl2;clear hs7 Aq hO8 hd7 hO9 e7 Kc wH VD hrow hL3 hsc VE hl2 n0 n1 n2 nl;go_wp2;go_roundw
     case rel=>exact⟨A7,C7,st2,some ⟨gg,0,none⟩,cap,l++[r],rfl,by rw[List.length_append];rfl,HW.out,HO9.out,by rw[List.length_append];exact Tp.out,HF7.out,GY.out,HD7.out,jZ.out⟩
     case measure =>
      have:=HL2.out
      simp[lenOf,nC];omega
    ·have HW:=Lib.hid (Ey.out (by omega));have hv':v<0:=by omega
     have hc3:¬ (l.length:Int)+1>2097152:=by omega
     clear VB Ey hv;go_wp2;go_roundw
     case rel=>exact⟨some ⟨tb,0,none⟩,C5,st,some ⟨gg,0,none⟩,cap,l++[r],rfl,by rw[List.length_append];rfl,HW.out,HPB.out,by rw[List.length_append];exact Av.out,GZ.out,GY.out,ZV.out,l7.out⟩
     case measure=>simp[lenOf,nC] <;> omega
end
structure RS where
 k:KS
 refs:List Int
 held:List Int
structure RA where
 kp:Nat
 rA:Option Addr
 rC:Nat
 hA:Option Addr
 hC:Nat
def mE (x:RS) (q:RA):Array Value:=#[.pointer (some ⟨q.kp,0,none⟩),.slice q.rA x.refs.length q.rC,.slice q.hA x.held.length q.hC]
def VF (xb:Nat) (q:RA) (b:Nat):Prop:=b=xb∨rowOf q.rA b∨rowOf q.hA b
structure RW (B:Nat→Prop) (w:World) (xb:Nat) (x:RS) (q:RA):Prop where
 blk:av w xb 78 (mE x q)
 k:KR (fun b=>B b∨VF xb q b) w q.kp x.k
 refs:Row1 w 28 rc q.rA x.refs.length q.rC x.refs
 held:gm w 3 q.hA x.held.length q.hC x.held
 base:∀ b,VF xb q b→¬ B b
section
variable {w w':World} {B B':Nat→Prop} {xb:Nat} {x:RS} {q:RA}
theorem RW.c0 (h:RW B w xb x q):w.cell? ⟨xb,0,none⟩=some (.pointer (some ⟨q.kp,0,none⟩)):=h.blk.cell 0
theorem RW.c1 (h:RW B w xb x q):w.cell? ⟨xb,1,none⟩=some (.slice q.rA x.refs.length q.rC):=h.blk.cell 1
theorem RW.c2 (h:RW B w xb x q):w.cell? ⟨xb,2,none⟩=some (.slice q.hA x.held.length q.hC):=h.blk.cell 2
theorem RW.same (h:RW B w xb x q) (hs:Same w w'):RW B w' xb x q :=
 ⟨h.blk.ag hs id,h.k.same hs,h.refs.ag hs (fun _ _=>id),h.held.ag hs (fun _ _=>id),h.base⟩
theorem RW.WC (h:RW B w xb x q):∀ b,VF xb q b→b<w.heap.size:=by
 rintro b (rfl | hb | hb)
 ·exact h.blk.lt
 ·exact cu h.refs hb
 ·exact cu h.held hb
theorem RW.sub (h:RW B w xb x q) (hs:∀ b,B' b→B b):RW B' w xb x q :=
 ⟨h.blk,h.k.sub (fun b hb=>hb.imp (hs b) id),h.refs,h.held,fun b hb hn=>h.base b hb (hs b hn)⟩
theorem RW.also (h:RW B w xb x q) (hs:Same w w') {C:Nat→Prop} (hC:∀ b,C b→w.heap.size≤b):RW (fun b=>B b∨C b) w' xb x q:=by
 refine⟨h.blk.ag hs id,(h.k.also hs hC).sub (fun b hb=>?_),h.refs.ag hs (fun _ _=>id),h.held.ag hs (fun _ _=>id),fun b hb hn=>?_⟩
 ·rcases hb with(hb | hb) | hb
  ·exact .inl (.inl hb)
  ·exact .inr hb
  ·exact .inl (.inr hb)
 ·rcases hn with hn | hn
  ·exact h.base b hb hn
  ·have:=hC b hn
   have:=h.WC b hb
   omega
theorem RW.kernel {k':KS} (h:RW B w xb x q) (hk:KR (fun b=>B b∨VF xb q b) w' q.kp k') (hu:Up (fun b=>B b∨VF xb q b) w w'):RW B w' xb { x with k:=k' } q∧Up B w w' :=
 ⟨⟨h.blk.ag hu (fun hn=>hn (.inr (.inl rfl))),hk,h.refs.ag hu (fun y hy hn=>hn (.inr (.inr (.inl ⟨y,hy,rfl⟩)))),h.held.ag hu (fun y hy hn=>hn (.inr (.inr (.inr ⟨y,hy,rfl⟩)))),h.base⟩,ah.mono hu (fun _ _ hn hb=>hn (.inl hb))⟩
theorem RW.Bv {A2:Option Addr} {C2:Nat} {rs:List Int} (h:RW B w xb x q) (hf:ah (fun b=>b=xb∨rowOf q.rA b) w w') (hb:av w' xb 78 (mE { x with refs:=rs } { q with rA:=A2,rC:=C2 }))
  (ho:Row1 w' 28 rc A2 rs.length C2 rs) (hn:∀ b,rowOf A2 b→rowOf q.rA b∨w.heap.size≤b) (hB:∀ b,B b→b<w.heap.size) :
  RW B w' xb { x with refs:=rs } { q with rA:=A2,rC:=C2 }∧Up B w w':=by
 obtain⟨a,k1,k2⟩:=h.k.ex;refine⟨⟨hb,⟨⟨a,k1.ag hf (fun b hk hs=>k2 b hk (.inr (hs.elim .inl (fun h=>.inr (.inl h))))),fun b hk hn'=>?_⟩,h.k.ki⟩,ho,h.held.ag hf ?_,?_⟩,hf.mono (fun b _ hs=>h.base b (hs.elim .inl (fun h=>.inr (.inl h))))⟩
 ·rcases hn' with hn' | hn' | hn' | hn'
  ·exact k2 b hk (.inl hn')
  ·exact k2 b hk (.inr (.inl hn'))
  ·rcases hn b hn' with h1 | h1
   ·exact k2 b hk (.inr (.inr (.inl h1)))
   ·have:=k1.lt hk
    omega
  ·exact k2 b hk (.inr (.inr (.inr hn')))
 ·rintro y hy (hs | hs)
  ·exact h.held.au h.blk (by decide) y hy hs
  ·exact h.held.aM h.refs (by decide) _ ⟨y,hy,rfl⟩ hs
 ·rintro b (hb | hb | hb)
  ·exact h.base b (.inl hb)
  ·rcases hn b hb with h1 | h1
   ·exact h.base b (.inr (.inl h1))
   ·exact fun hx=>by have:=hB b hx;omega
  ·exact h.base b (.inr (.inr hb))
theorem RW.BB {A2:Option Addr} {C2:Nat} {hs:List Int} (h:RW B w xb x q) (hf:ah (fun b=>b=xb∨rowOf q.hA b) w w') (hb:av w' xb 78 (mE { x with held:=hs } { q with hA:=A2,hC:=C2 }))
  (ho:gm w' 3 A2 hs.length C2 hs) (hn:∀ b,rowOf A2 b→rowOf q.hA b∨w.heap.size≤b) (hB:∀ b,B b→b<w.heap.size) :
  RW B w' xb { x with held:=hs } { q with hA:=A2,hC:=C2 }∧Up B w w':=by
 obtain⟨a,k1,k2⟩:=h.k.ex;refine⟨⟨hb,⟨⟨a,k1.ag hf (fun b hk hs=>k2 b hk (.inr (hs.elim .inl (fun h=>.inr (.inr h))))),fun b hk hn'=>?_⟩,h.k.ki⟩,h.refs.ag hf ?_,ho,?_⟩,hf.mono (fun b _ hs=>h.base b (hs.elim .inl (fun h=>.inr (.inr h))))⟩
 ·rcases hn' with hn' | hn' | hn' | hn'
  ·exact k2 b hk (.inl hn')
  ·exact k2 b hk (.inr (.inl hn'))
  ·exact k2 b hk (.inr (.inr (.inl hn')))
  ·rcases hn b hn' with h1 | h1
   ·exact k2 b hk (.inr (.inr (.inr h1)))
   ·have:=k1.lt hk
    omega
 ·rintro y hy (hs | hs)
  ·exact h.refs.au h.blk (by decide) y hy hs
  ·exact h.refs.aM h.held (by decide) _ ⟨y,hy,rfl⟩ hs
 ·rintro b (hb | hb | hb)
  ·exact h.base b (.inl hb)
  ·exact h.base b (.inr (.inl hb))
  ·rcases hn b hb with h1 | h1
   ·exact h.base b (.inr (.inr h1))
   ·exact fun hx=>by have:=hB b hx;omega
def hasB (x:RS) (i:Int):Bool:=decide (0≤i)&&decide (i<x.refs.length)&&(decide (0<x.held.getD i.toNat 0)||decide (x.refs.getD i.toNat 0<2))
theorem iL {i:Int} (h:hasB x i=true):∃ m:Nat,i=m∧m<x.refs.length:=by
 unfold hasB at h;simp only[Bool.and_eq_true,decide_eq_true_eq] at h;exact⟨i.toNat,by omega,by omega⟩
theorem vJ (h:RW B w xb x q) (hl0:x.held.length=x.refs.length) (i:Int) :
  Calls Tryz.prog 46 #[.pointer (some ⟨xb,0,none⟩),.int .i64 i] w fun e w'=>e=.returned (.bool (hasB x i))∧w=w':=by
 have hxl:=h.blk.lt;have c1:=h.c1;have c2:=h.c2;rw[hl0] at c2;obtain⟨R,hR⟩:∃ z,hasB x i=z:=⟨_,rfl⟩;rw[hR];by_cases h0:0≤i
 ·by_cases h1:i<x.refs.length
  ·obtain⟨m,rfl⟩:=Int.eq_ofNat_of_zero_le h0;have hm:m<x.refs.length:=by omega
   obtain⟨r,hr⟩:∃ r,x.refs[m]?=some r:=⟨_,List.getElem?_eq_getElem hm⟩;obtain⟨c,hc⟩:∃ c,x.held[m]?=some c:=⟨_,List.getElem?_eq_getElem (by rw[hl0];exact hm)⟩;obtain⟨rb,hA,rl,d0⟩:=h.refs.dV (c:=rc) hr;obtain⟨hb2,hA2,hl,d1⟩:=h.held.dV (c:=fun x:Int=>.int .i64 x) hc;clear hl0;rw[hA] at c1;rw[hA2] at c2;unfold rc at d0;have hres:R=(decide (0<c)||decide (r<2)):=by
    rw[← hR];unfold hasB;rw[Int.toNat_natCast,List.getD_eq_getElem?_getD,List.getD_eq_getElem?_getD,hr,hc];simp[hm]
   clear h hR hr hc hA hA2;by_cases hc0:0<c
   ·have hR:R=true:=by rw[hres];simp[hc0]
    clear hres;subst hR;go_enter Tryz.func46,Tryz.ntmps46;go_wp2;go_ret;exact⟨rfl,rfl⟩
   ·by_cases hr2:r<2
    ·have hR:R=true:=by rw[hres];simp[hr2]
     clear hres;subst hR;go_enter Tryz.func46,Tryz.ntmps46;go_wp2;go_ret;exact⟨rfl,rfl⟩
    ·have hR:R=false:=by rw[hres];simp[hr2,hc0]
     clear hres;subst hR;go_enter Tryz.func46,Tryz.ntmps46;go_wp2;go_ret;exact⟨rfl,rfl⟩
  ·have hres:R=false:=by rw[← hR];unfold hasB;simp[h1]
   clear h hR hl0;subst hres;go_enter Tryz.func46,Tryz.ntmps46;go_wp2;go_ret;exact⟨rfl,rfl⟩
 ·have hres:R=false:=by rw[← hR];unfold hasB;simp[h0]
  clear h hR hl0;subst hres;go_enter Tryz.func46,Tryz.ntmps46;go_wp2;go_ret;exact⟨rfl,rfl⟩
end
def jf (x:RS) (v b c:Int):RS×Int :=
 if hasB x b=true∧hasB x c=true∧x.refs.length<60 then
  (if (aV x.k ⟨v,x.refs.getD b.toNat 0,x.refs.getD c.toNat 0⟩).2.1=0 then
   (⟨(aV x.k ⟨v,x.refs.getD b.toNat 0,x.refs.getD c.toNat 0⟩).2.2,x.refs++[(aV x.k ⟨v,x.refs.getD b.toNat 0,x.refs.getD c.toNat 0⟩).1],x.held++[1]⟩,0)
  else ({ x with k:=(aV x.k ⟨v,x.refs.getD b.toNat 0,x.refs.getD c.toNat 0⟩).2.2 },(aV x.k ⟨v,x.refs.getD b.toNat 0,x.refs.getD c.toNat 0⟩).2.1))
 else (x,0)
def kM (x:RS) (i:Int):RS×Int :=
 if hasB x i=true then
  (if (bE x.k (x.refs.getD i.toNat 0)).1=0 then ({ x with k:=(bE x.k (x.refs.getD i.toNat 0)).2,held:=x.held.set i.toNat (x.held.getD i.toNat 0+1) },0)
  else ({ x with k:=(bE x.k (x.refs.getD i.toNat 0)).2 },(bE x.k (x.refs.getD i.toNat 0)).1))
 else (x,0)
def kN (x:RS) (i:Int):RS×Int :=
 if hasB x i=true∧0<x.held.getD i.toNat 0 then
  ({ x with k:=(dF x.k (x.refs.getD i.toNat 0)).2,held:=x.held.set i.toNat (x.held.getD i.toNat 0-1) },(dF x.k (x.refs.getD i.toNat 0)).1)
 else (x,0)
def xS (x:RS) (l:Int):RS×Int:=({ x with k:=(bL x.k l).2 },(bL x.k l).1)
def xU (x:RS):RS×Int:=({ x with k:=(bO x.k).2.2 },(bO x.k).2.1)
section
variable {w w':World} {B B':Nat→Prop} {xb:Nat} {x:RS} {q:RA}
abbrev nW (B:Nat→Prop) (w:World) (xb:Nat) (p:RS×Int) (e:Ending) (w':World):Prop:=e=.returned (.int .i64 p.2)∧(∃ q',RW B w' xb p.1 q')∧Up B w w'
def iA (B:Nat→Prop) (xb:Nat) (q:RA) (b:Nat):Prop:=¬ (B b∨VF xb q b)
theorem RW.all (h:RW B w xb x q) (hB:∀ b,B b→b<w.heap.size):∀ b,(B b∨VF xb q b)→b<w.heap.size:=fun b hb=>hb.elim (hB b) (h.WC b)
theorem Ko (hX:RW B w xb x q) (hB:∀ b,B b→b<w.heap.size) (hl:x.held.length=x.refs.length) (htr:(x.k.tr.length+1)*8≤140737488355328) (l y z:Int) :
  Calls Tryz.prog 41 #[.pointer (some ⟨xb,0,none⟩),.agg #[.int .i64 4,.int .i64 l,.int .i64 y,.int .i64 z]] w (nW B w xb (xS x l)):=by
 have HX:=Lib.hid hX;have HB:=Lib.hid hB;have mJ:=Lib.hid htr;have HL:=Lib.hid hl;clear hX htr hB hl;go_enter Tryz.func41,Tryz.ntmps41;go_upto_region 1 with fail
 refine ai fun w1 hw1=>?_
 have hO:=av.new w 60 #[.int .i64 4,.int .i64 l,.int .i64 y,.int .i64 z];have hs1:Same w w1:=by rw[hw1];exact(ah.refl _ _).alloc _
 rw[← hw1] at hO;clear hw1;have hX:=HX.out.also hs1 (C:=fun b=>b=w.heap.size) (fun b hb=>Nat.le_of_eq hb.symm);have hB1:∀ b,(B b∨b=w.heap.size)→b<w1.heap.size:=fun b hb=>hb.elim (fun h=>Nat.lt_of_lt_of_le (HB.out b h) hs1.size) (fun h=>by have:=hO.lt;omega)
 have hxl:=hX.blk.lt;have c0:=hX.c0;have c1:=hX.c1;have c2:=hX.c2;rw[HL.out] at c2;have o0:=hO.cell 0;have o1:=hO.cell 1;have o2:=hO.cell 2;have o3:=hO.cell 3;have ol:=hO.lt;simp at o0 o1 o2 o3;have n1:¬ iA (fun b=>B b∨b=w.heap.size) xb q xb:=fun h=>h (.inr (.inl rfl))
 have n2:¬ iA (fun b=>B b∨b=w.heap.size) xb q w.heap.size:=fun h=>h (.inl (.inr rfl))
 have HO:=Lib.hid hO;have aW:=Lib.hid hs1;have mI:=Lib.hid hX;have HB1:=Lib.hid hB1;have pO:=Lib.hid (Up.bg hs1:Up B w w1);clear hO hs1 hX hB1;have Pv:=Lib.hid (fun w' (hs:Same w1 w')=>Iu (mI.out.k.same hs) (fun b hb=>Nat.lt_of_lt_of_le (mI.out.all HB1.out b hb) hs.size) l mJ.out);go_upto_region 21 with fail
 refine aG (iA (fun b=>B b∨b=w.heap.size) xb q) [([0,1,2,3,4,5],6),([],7)] (by kernel_rfl) (by kernel_rfl) ?_;simp only[di,pick,List.map_cons,List.map_nil,List.getD_cons_zero,List.getD_cons_succ];have hs:Same w1 w1.drew:=(ah.refl _ _).drew;repeat (any_goals (first | go_big_quiet_step (fail) | quiet_step (fail)))
 refine wpQuiet_nil ?_;refine aa rfl fun K hK=>?_
 go_simp;refine(Pv.out _ hs).mono ?_;rintro e w2 ⟨rfl,hk,hu⟩;refine hK _ _ (aY.bz ((hs.mono (fun _ _ h=>h.elim)).trans hu (fun _ _ h=>h))) ?_;clear hK K;have hX2:=(mI.out.same hs).kernel hk hu;have uk:=Lib.hid hX2;have HS:=Lib.hid hs;clear hX2 hk hu hs;repeat (any_goals (first | go_big_quiet_step (fail) | quiet_step (fail)))
 refine wpQuiet_nil ?_;go_wp2;go_ret;exact⟨rfl,⟨q,uk.out.1.sub (fun _ hb=>.inl hb)⟩,(pO.out.trans (Up.bg HS.out)).trans (ah.mono uk.out.2 (fun _ _ hn hb=>hn (.inl hb)))⟩
theorem Kq (hX:RW B w xb x q) (hB:∀ b,B b→b<w.heap.size) (hl:x.held.length=x.refs.length) (ht:yS x.k) (htr:x.k.tr.length≤1000000000000000000) (l y z:Int) :
  Calls Tryz.prog 41 #[.pointer (some ⟨xb,0,none⟩),.agg #[.int .i64 5,.int .i64 l,.int .i64 y,.int .i64 z]] w (nW B w xb (xU x)):=by
 have HX:=Lib.hid hX;have HB:=Lib.hid hB;have mJ:=Lib.hid htr;have HT:=Lib.hid ht;have HL:=Lib.hid hl;clear hX htr hB hl ht;go_enter Tryz.func41,Tryz.ntmps41;go_upto_region 1 with fail
 refine ai fun w1 hw1=>?_
 have hO:=av.new w 60 #[.int .i64 5,.int .i64 l,.int .i64 y,.int .i64 z];have hs1:Same w w1:=by rw[hw1];exact(ah.refl _ _).alloc _
 rw[← hw1] at hO;clear hw1;have hX:=HX.out.also hs1 (C:=fun b=>b=w.heap.size) (fun b hb=>Nat.le_of_eq hb.symm);have hB1:∀ b,(B b∨b=w.heap.size)→b<w1.heap.size:=fun b hb=>hb.elim (fun h=>Nat.lt_of_lt_of_le (HB.out b h) hs1.size) (fun h=>by have:=hO.lt;omega)
 have hxl:=hX.blk.lt;have c0:=hX.c0;have c1:=hX.c1;have c2:=hX.c2;rw[HL.out] at c2;have o0:=hO.cell 0;have o1:=hO.cell 1;have o2:=hO.cell 2;have o3:=hO.cell 3;have ol:=hO.lt;simp at o0 o1 o2 o3;have n1:¬ iA (fun b=>B b∨b=w.heap.size) xb q xb:=fun h=>h (.inr (.inl rfl))
 have n2:¬ iA (fun b=>B b∨b=w.heap.size) xb q w.heap.size:=fun h=>h (.inl (.inr rfl))
 have HO:=Lib.hid hO;have aW:=Lib.hid hs1;have mI:=Lib.hid hX;have HB1:=Lib.hid hB1;have pO:=Lib.hid (Up.bg hs1:Up B w w1);clear hO hs1 hX hB1;have Xr:=Iw mI.out.k (mI.out.all HB1.out) HT.out mJ.out;have HKU:=Lib.hid Xr;clear Xr;go_wp2_with (fail)
 refine HKU.out.mono ?_;rintro e w2 ⟨rfl,hk,hu⟩;have uk:=Lib.hid (mI.out.kernel hk hu);clear hk hu;go_wp2;go_ret;exact⟨rfl,⟨q,uk.out.1.sub (fun _ hb=>.inl hb)⟩,pO.out.trans (ah.mono uk.out.2 (fun _ _ hn hb=>hn (.inl hb)))⟩
theorem Kr (hX:RW B w xb x q) (hB:∀ b,B b→b<w.heap.size) (hl:x.held.length=x.refs.length) (l y z:Int) :
  Calls Tryz.prog 41 #[.pointer (some ⟨xb,0,none⟩),.agg #[.int .i64 6,.int .i64 l,.int .i64 y,.int .i64 z]] w (nW B w xb (x,0)):=by
 have HX:=Lib.hid hX;have HB:=Lib.hid hB;have HL:=Lib.hid hl;clear hX hB hl;go_enter Tryz.func41,Tryz.ntmps41;go_upto_region 1 with fail
 refine ai fun w1 hw1=>?_
 have hO:=av.new w 60 #[.int .i64 6,.int .i64 l,.int .i64 y,.int .i64 z];have hs1:Same w w1:=by rw[hw1];exact(ah.refl _ _).alloc _
 rw[← hw1] at hO;clear hw1;have hX:=HX.out.also hs1 (C:=fun b=>b=w.heap.size) (fun b hb=>Nat.le_of_eq hb.symm);have hB1:∀ b,(B b∨b=w.heap.size)→b<w1.heap.size:=fun b hb=>hb.elim (fun h=>Nat.lt_of_lt_of_le (HB.out b h) hs1.size) (fun h=>by have:=hO.lt;omega)
 have hxl:=hX.blk.lt;have c0:=hX.c0;have c1:=hX.c1;have c2:=hX.c2;rw[HL.out] at c2;have o0:=hO.cell 0;have o1:=hO.cell 1;have o2:=hO.cell 2;have o3:=hO.cell 3;have ol:=hO.lt;simp at o0 o1 o2 o3;have n1:¬ iA (fun b=>B b∨b=w.heap.size) xb q xb:=fun h=>h (.inr (.inl rfl))
 have n2:¬ iA (fun b=>B b∨b=w.heap.size) xb q w.heap.size:=fun h=>h (.inl (.inr rfl))
 have HO:=Lib.hid hO;have aW:=Lib.hid hs1;have mI:=Lib.hid hX;have HB1:=Lib.hid hB1;have pO:=Lib.hid (Up.bg hs1:Up B w w1);clear hO hs1 hX hB1;go_wp2_with (fail)
 refine(Bb _).mono ?_;rintro e w2 ⟨rfl,rfl⟩;go_wp2;go_ret;exact⟨rfl,⟨q,mI.out.sub (fun _ hb=>.inl hb)⟩,pO.out⟩
theorem Kt (hX:RW B w xb x q) (hB:∀ b,B b→b<w.heap.size) (hl:x.held.length=x.refs.length) (kd l y z:Int) (h1:¬ kd=1) (h2:¬ kd=2) (h3:¬ kd=3) (h4:¬ kd=4) (h5:¬ kd=5) (h6:¬ kd=6) :
  Calls Tryz.prog 41 #[.pointer (some ⟨xb,0,none⟩),.agg #[.int .i64 kd,.int .i64 l,.int .i64 y,.int .i64 z]] w (nW B w xb (x,0)):=by
 have HX:=Lib.hid hX;have HB:=Lib.hid hB;have HL:=Lib.hid hl;clear hX hB hl;go_enter Tryz.func41,Tryz.ntmps41;go_upto_region 1 with fail
 refine ai fun w1 hw1=>?_
 have hO:=av.new w 60 #[.int .i64 kd,.int .i64 l,.int .i64 y,.int .i64 z];have hs1:Same w w1:=by rw[hw1];exact(ah.refl _ _).alloc _
 rw[← hw1] at hO;clear hw1;have hX:=HX.out.also hs1 (C:=fun b=>b=w.heap.size) (fun b hb=>Nat.le_of_eq hb.symm);have hB1:∀ b,(B b∨b=w.heap.size)→b<w1.heap.size:=fun b hb=>hb.elim (fun h=>Nat.lt_of_lt_of_le (HB.out b h) hs1.size) (fun h=>by have:=hO.lt;omega)
 have hxl:=hX.blk.lt;have c0:=hX.c0;have c1:=hX.c1;have c2:=hX.c2;rw[HL.out] at c2;have o0:=hO.cell 0;have o1:=hO.cell 1;have o2:=hO.cell 2;have o3:=hO.cell 3;have ol:=hO.lt;simp at o0 o1 o2 o3;have n1:¬ iA (fun b=>B b∨b=w.heap.size) xb q xb:=fun h=>h (.inr (.inl rfl))
 have n2:¬ iA (fun b=>B b∨b=w.heap.size) xb q w.heap.size:=fun h=>h (.inl (.inr rfl))
 have HO:=Lib.hid hO;have aW:=Lib.hid hs1;have mI:=Lib.hid hX;have HB1:=Lib.hid hB1;have pO:=Lib.hid (Up.bg hs1:Up B w w1);clear hO hs1 hX hB1;go_wp2;go_ret;exact⟨rfl,⟨q,mI.out.sub (fun _ hb=>.inl hb)⟩,pO.out⟩
theorem Ku (hX:RW B w xb x q) (hB:∀ b,B b→b<w.heap.size) (hl:x.held.length=x.refs.length) (hrg:∀ r∈x.refs,0≤r∧r<4294967296) (hcb:∀ c∈x.held,0≤c∧c≤1000000000000000) (i y z:Int) :
  Calls Tryz.prog 41 #[.pointer (some ⟨xb,0,none⟩),.agg #[.int .i64 2,.int .i64 i,.int .i64 y,.int .i64 z]] w (nW B w xb (kM x i)):=by
 have HX:=Lib.hid hX;have HB:=Lib.hid hB;have HL:=Lib.hid hl;have Ou:=Lib.hid hrg;have NG:=Lib.hid hcb;obtain⟨P,hP⟩:∃ z,kM x i=z:=⟨_,rfl⟩;rw[hP];have HP:=Lib.hid hP;clear hX hB hl hrg hcb hP;go_enter Tryz.func41,Tryz.ntmps41;go_upto_region 1 with fail
 refine ai fun w1 hw1=>?_
 have hO:=av.new w 60 #[.int .i64 2,.int .i64 i,.int .i64 y,.int .i64 z];have hs1:Same w w1:=by rw[hw1];exact(ah.refl _ _).alloc _
 rw[← hw1] at hO;clear hw1;have hX:=HX.out.also hs1 (C:=fun b=>b=w.heap.size) (fun b hb=>Nat.le_of_eq hb.symm);have hB1:∀ b,(B b∨b=w.heap.size)→b<w1.heap.size:=fun b hb=>hb.elim (fun h=>Nat.lt_of_lt_of_le (HB.out b h) hs1.size) (fun h=>by have:=hO.lt;omega)
 have hxl:=hX.blk.lt;have c0:=hX.c0;have c1:=hX.c1;have c2:=hX.c2;rw[HL.out] at c2;have o0:=hO.cell 0;have o1:=hO.cell 1;have o2:=hO.cell 2;have o3:=hO.cell 3;have ol:=hO.lt;simp at o0 o1 o2 o3;have n1:¬ iA (fun b=>B b∨b=w.heap.size) xb q xb:=fun h=>h (.inr (.inl rfl))
 have n2:¬ iA (fun b=>B b∨b=w.heap.size) xb q w.heap.size:=fun h=>h (.inl (.inr rfl))
 have HO:=Lib.hid hO;have aW:=Lib.hid hs1;have mI:=Lib.hid hX;have HB1:=Lib.hid hB1;have pO:=Lib.hid (Up.bg hs1:Up B w w1);clear hO hs1 hX hB1;have yD:=vJ mI.out HL.out i;obtain⟨hbv,hh⟩:∃ z,hasB x i=z:=⟨_,rfl⟩;rw[hh] at yD;have Ll:=Lib.hid yD;clear yD;cases hbv with
 | false =>
  have hP:P=(x,0):=by rw[← HP.out];unfold kM;rw[if_neg (by rw[hh] <;> decide)]
  subst hP;clear hh;go_wp2_with (fail)
  refine Ll.out.mono ?_;rintro e w2 ⟨rfl,rfl⟩;go_wp2;go_ret;exact⟨rfl,⟨q,mI.out.sub (fun _ hb=>.inl hb)⟩,pO.out⟩
 | true =>
  obtain⟨m,rfl,hm⟩:=iL hh;obtain⟨r,hr⟩:∃ r,x.refs[m]?=some r:=⟨_,List.getElem?_eq_getElem hm⟩;obtain⟨c,hc⟩:∃ c,x.held[m]?=some c:=⟨_,List.getElem?_eq_getElem (by rw[HL.out];exact hm)⟩;have gr:=Ou.out r (List.mem_of_getElem? hr);have gc:=NG.out c (List.mem_of_getElem? hc);have hI:(m:Int)<(x.refs.length:Int):=by omega
  have hrd:x.refs.getD (m:Int).toNat 0=r:=by rw[Int.toNat_natCast,List.getD_eq_getElem?_getD,hr];rfl
  have hcd:x.held.getD (m:Int).toNat 0=c:=by rw[Int.toNat_natCast,List.getD_eq_getElem?_getD,hc];rfl
  obtain⟨rb,hA,rl,d0⟩:=mI.out.refs.dV (c:=rc) hr;obtain⟨hb,hA2,hbl,d1⟩:=mI.out.held.dV (c:=fun x:Int=>.int .i64 x) hc;rw[hA] at c1;rw[hA2] at c2;unfold rc at d0;have n3:¬ iA (fun b=>B b∨b=w.heap.size) xb q rb:=fun h=>h (.inr (.inr (.inl ⟨_,hA,rfl⟩)))
  have n4:¬ iA (fun b=>B b∨b=w.heap.size) xb q hb:=fun h=>h (.inr (.inr (.inr ⟨_,hA2,rfl⟩)))
  have LA:=Lib.hid hA2;have HHR:=Lib.hid hr;have ZW:=Lib.hid hA;have VG:=Lib.hid hc;have HHM:=Lib.hid hm;clear hA hA2 hr hc hm;have hP:=HP.out;unfold kM at hP;rw[if_pos hh,hrd,hcd] at hP;have hkk:=fun w' (hs:Same w1 w')=>Ro (mI.out.k.same hs) (fun b hb=>Nat.lt_of_lt_of_le (mI.out.all HB1.out b hb) hs.size) r gr.1 gr.2
  obtain⟨⟨E,k'⟩,Tq⟩:∃ z,bE x.k r=z:=⟨_,rfl⟩;rw[Tq] at hkk hP;simp only at hkk hP;have HKK:=Lib.hid hkk;replace HP:=Lib.hid hP;clear hkk hP Tq hh hrd hcd;go_wp2_with (fail)
  refine Ll.out.mono ?_;rintro e w2 ⟨rfl,rfl⟩;go_upto_region 12 with fail
  refine aG (iA (fun b=>B b∨b=w.heap.size) xb q) [([0,1,2,3,4,5,6,7,8,9,10,11],12),([],13)] (by kernel_rfl) (by kernel_rfl) ?_;simp only[di,pick,List.map_cons,List.map_nil,List.getD_cons_zero,List.getD_cons_succ];have hs:Same w1 w1.drew:=(ah.refl _ _).drew;repeat (any_goals (first | go_big_quiet_step (fail) | quiet_step (fail)))
  refine wpQuiet_nil ?_;refine aa rfl fun K hK=>?_
  go_simp;refine(HKK.out _ hs).mono ?_;rintro e w2 ⟨rfl,hk,hu⟩;refine hK _ _ (aY.bz ((hs.mono (fun _ _ h=>h.elim)).trans hu (fun _ _ h=>h))) ?_;clear hK K;have uk:=Lib.hid ((mI.out.same hs).kernel hk hu);have Ed:=Lib.hid (pO.out.trans (ah.mono ((Up.bg hs).trans uk.out.2) (fun _ _ hn hb=>hn (.inl hb))));have hB2:∀ b,(B b∨b=w.heap.size)→b<w2.heap.size:=fun b hb=>Nat.lt_of_lt_of_le (HB1.out b hb) (Nat.le_trans hs.size hu.size)
  have HB2:=Lib.hid hB2;replace HO:=Lib.hid (uk.out.2.kept (HO.out.ag hs id) (.inr rfl));clear hk hu hs hB2 hxl c0 c1 c2 o0 o1 o2 o3 ol d0 d1 rl hbl;repeat (any_goals (first | go_big_quiet_step (fail) | quiet_step (fail)))
  refine wpQuiet_nil ?_;by_cases hE:E=0
  ·subst hE;have hP:=HP.out;rw[if_pos rfl] at hP;replace HP:=Lib.hid hP;clear hP;have hX2:=uk.out.1;have hxl:=hX2.blk.lt;have c2:=hX2.c2;simp only at c2;rw[HL.out,LA.out] at c2;have o1:=HO.out.cell 1;have ol:=HO.out.lt;simp at o1;have hds:=hX2.held;rw[LA.out] at hds;have fk:=Own.free hds m;obtain⟨hb',hA',hbl,d1⟩:=hds.dV (c:=fun x:Int=>.int .i64 x) VG.out;injection hA' with hA'
   injection hA' with hA'
   subst hA';have hpt:=Own.kS (c:=fun x:Int=>.int .i64 x) hds (i:=m) (by rw[HL.out];exact HHM.out) (c+1);have hne:xb≠hb:=fun h=>hX2.held.au hX2.blk (by decide) _ LA.out h.symm
   have hll:(x.held.set m (c+1)).length=x.held.length:=List.length_set ..;rw[← hll,← LA.out] at hpt
   have hto:=hX2.BB (w':=w2.setCell ⟨hb,m,none⟩ (.int .i64 (c+1))) (hs:=x.held.set m (c+1)) (A2:=q.hA) (C2:=q.hC) ((ah.refl _ _).set m _ (.inr ⟨_,LA.out,rfl⟩)) (by
    have hb:=hX2.blk.far (p:=⟨hb,m,none⟩) hne (.int .i64 (c+1))
    simpa [mE] using hb) hpt (fun b hb=>.inl hb) HB2.out
   have pJ:=Lib.hid hto;clear hto hpt hds hX2 hne hll;go_upto_region 14 with fail
   refine aG (iA (fun b=>B b∨b=w.heap.size) xb q) [([0,1,2,3,4,5,6,7,8,9],10)] (by kernel_rfl) (by kernel_rfl) ?_;simp only[di,pick,List.map_cons,List.map_nil,List.getD_cons_zero,List.getD_cons_succ];repeat (any_goals (first | go_big_quiet_step (fail) | quiet_step (fail)))
   refine wpQuiet_nil ?_;go_wp2;go_ret;have hP:=HP.out;subst hP;exact⟨rfl,⟨q,(pJ.out.1.same ((ah.refl _ _).drew)).sub (fun _ hb=>.inl hb)⟩,(Ed.out.trans (ah.mono pJ.out.2 (fun _ _ hn hb=>hn (.inl hb)))).trans (Up.bg ((ah.refl _ _).drew))⟩
  ·have hP:=HP.out;rw[if_neg hE] at hP;subst hP;clear HP;go_wp2;go_ret;exact⟨rfl,⟨q,uk.out.1.sub (fun _ hb=>.inl hb)⟩,Ed.out⟩
theorem step_drop (hX:RW B w xb x q) (hB:∀ b,B b→b<w.heap.size) (hl:x.held.length=x.refs.length) (hrg:∀ r∈x.refs,0≤r∧r<4294967296) (hcb:∀ c∈x.held,0≤c∧c≤1000000000000000) (i y z:Int) :
  Calls Tryz.prog 41 #[.pointer (some ⟨xb,0,none⟩),.agg #[.int .i64 3,.int .i64 i,.int .i64 y,.int .i64 z]] w (nW B w xb (kN x i)):=by
 have HX:=Lib.hid hX;have HB:=Lib.hid hB;have HL:=Lib.hid hl;have Ou:=Lib.hid hrg;have NG:=Lib.hid hcb;obtain⟨P,hP⟩:∃ z,kN x i=z:=⟨_,rfl⟩;rw[hP];have HP:=Lib.hid hP;clear hX hB hl hrg hcb hP;go_enter Tryz.func41,Tryz.ntmps41;go_upto_region 1 with fail
 refine ai fun w1 hw1=>?_
 have hO:=av.new w 60 #[.int .i64 3,.int .i64 i,.int .i64 y,.int .i64 z];have hs1:Same w w1:=by rw[hw1];exact(ah.refl _ _).alloc _
 rw[← hw1] at hO;clear hw1;have hX:=HX.out.also hs1 (C:=fun b=>b=w.heap.size) (fun b hb=>Nat.le_of_eq hb.symm);have hB1:∀ b,(B b∨b=w.heap.size)→b<w1.heap.size:=fun b hb=>hb.elim (fun h=>Nat.lt_of_lt_of_le (HB.out b h) hs1.size) (fun h=>by have:=hO.lt;omega)
 have hxl:=hX.blk.lt;have c0:=hX.c0;have c1:=hX.c1;have c2:=hX.c2;rw[HL.out] at c2;have o0:=hO.cell 0;have o1:=hO.cell 1;have o2:=hO.cell 2;have o3:=hO.cell 3;have ol:=hO.lt;simp at o0 o1 o2 o3;have n1:¬ iA (fun b=>B b∨b=w.heap.size) xb q xb:=fun h=>h (.inr (.inl rfl))
 have n2:¬ iA (fun b=>B b∨b=w.heap.size) xb q w.heap.size:=fun h=>h (.inl (.inr rfl))
 have HO:=Lib.hid hO;have aW:=Lib.hid hs1;have mI:=Lib.hid hX;have HB1:=Lib.hid hB1;have pO:=Lib.hid (Up.bg hs1:Up B w w1);clear hO hs1 hX hB1;have yD:=fun w' (hs:Same w1 w')=>vJ (mI.out.same hs) HL.out i
 obtain⟨hbv,hh⟩:∃ z,hasB x i=z:=⟨_,rfl⟩;rw[hh] at yD;have Ll:=Lib.hid yD;clear yD;have hs:Same w1 w1.drew:=(ah.refl _ _).drew;cases hbv with
 | false =>
  have hP:P=(x,0):=by rw[← HP.out];unfold kN;rw[if_neg (fun h=>by rw[hh] at h;exact absurd h.1 (by decide))]
  subst hP;clear hh;go_upto_region 17 with fail
  refine aG (fun _=>False) [([0,1,2],3),([4,5,6,7,8,9,10,11,12,13],14)] (by kernel_rfl) (by kernel_rfl) ?_;rw[aB];simp only[pick,List.map_cons,List.map_nil,List.getD_cons_zero,List.getD_cons_succ];repeat go_big_quiet_step (fail)
  refine wpQuiet_nil ?_;refine aa rfl fun K hK=>?_
  go_simp;refine(Ll.out _ hs).mono ?_;rintro e w2 ⟨rfl,rfl⟩;refine hK _ _ (aY.bz hs) ?_;clear hK K;rw[aN];simp only[pick,List.map_cons,List.map_nil,List.getD_cons_zero,List.getD_cons_succ];repeat go_big_quiet_step (fail)
  rw[ax];go_wp2;go_ret;exact⟨rfl,⟨q,(mI.out.same hs).sub (fun _ hb=>.inl hb)⟩,pO.out.trans (Up.bg hs)⟩
 | true =>
  obtain⟨m,rfl,hm⟩:=iL hh;obtain⟨r,hr⟩:∃ r,x.refs[m]?=some r:=⟨_,List.getElem?_eq_getElem hm⟩;obtain⟨c,hc⟩:∃ c,x.held[m]?=some c:=⟨_,List.getElem?_eq_getElem (by rw[HL.out];exact hm)⟩;have gr:=Ou.out r (List.mem_of_getElem? hr);have gc:=NG.out c (List.mem_of_getElem? hc);have hI:(m:Int)<(x.refs.length:Int):=by omega
  have hrd:x.refs.getD (m:Int).toNat 0=r:=by rw[Int.toNat_natCast,List.getD_eq_getElem?_getD,hr];rfl
  have hcd:x.held.getD (m:Int).toNat 0=c:=by rw[Int.toNat_natCast,List.getD_eq_getElem?_getD,hc];rfl
  obtain⟨rb,hA,rl,d0⟩:=mI.out.refs.dV (c:=rc) hr;obtain⟨hb,hA2,hbl,d1⟩:=mI.out.held.dV (c:=fun x:Int=>.int .i64 x) hc;rw[hA] at c1;rw[hA2] at c2;unfold rc at d0;have n3:¬ iA (fun b=>B b∨b=w.heap.size) xb q rb:=fun h=>h (.inr (.inr (.inl ⟨_,hA,rfl⟩)))
  have n4:¬ iA (fun b=>B b∨b=w.heap.size) xb q hb:=fun h=>h (.inr (.inr (.inr ⟨_,hA2,rfl⟩)))
  have LA:=Lib.hid hA2;have HHR:=Lib.hid hr;have ZW:=Lib.hid hA;have VG:=Lib.hid hc;have HHM:=Lib.hid hm;clear hA hA2 hr hc hm;have hP:=HP.out;unfold kN at hP;rw[hrd,hcd] at hP;by_cases hc0:0<c
  ·rw[if_pos ⟨hh,hc0⟩] at hP;replace HP:=Lib.hid hP;clear hP hh hrd hcd;go_upto_region 17 with fail
   refine aG (fun _=>False) [([0,1,2],3),([4,5,6,7,8,9,10,11,12,13],14)] (by kernel_rfl) (by kernel_rfl) ?_;rw[aB];simp only[pick,List.map_cons,List.map_nil,List.getD_cons_zero,List.getD_cons_succ];repeat go_big_quiet_step (fail)
   refine wpQuiet_nil ?_;refine aa rfl fun K hK=>?_
   go_simp;refine(Ll.out _ hs).mono ?_;rintro e w2 ⟨rfl,rfl⟩;refine hK _ _ (aY.bz hs) ?_;clear hK K;rw[aN];simp only[pick,List.map_cons,List.map_nil,List.getD_cons_zero,List.getD_cons_succ];repeat go_big_quiet_step (fail)
   rw[ax];have hX2:=mI.out.same hs;have Ed:=Lib.hid (pO.out.trans (Up.bg hs));have HB2:Hid (∀ b,(B b∨b=w.heap.size)→b<w1.drew.heap.size):=Lib.hid (fun b hb=>Nat.lt_of_lt_of_le (HB1.out b hb) hs.size);replace HO:=Lib.hid (HO.out.ag hs id);clear hxl c0 c1 c2 o0 o1 o2 o3 ol d0 d1 hbl rl;generalize w1.drew=w2 at hX2 Ed HB2 HO ⊢;have hxl:=hX2.blk.lt;have c2:=hX2.c2;rw[HL.out,LA.out] at c2;have o1:=HO.out.cell 1;have ol:=HO.out.lt;simp at o1;have hds:=hX2.held;rw[LA.out] at hds;have fk:=Own.free hds m;obtain⟨hb',hA',hbl,d1⟩:=hds.dV (c:=fun x:Int=>.int .i64 x) VG.out;injection hA' with hA'
   injection hA' with hA'
   subst hA';have hpt:=Own.kS (c:=fun x:Int=>.int .i64 x) hds (i:=m) (by rw[HL.out];exact HHM.out) (c-1);have hne:xb≠hb:=fun h=>hX2.held.au hX2.blk (by decide) _ LA.out h.symm
   have hll:(x.held.set m (c-1)).length=x.held.length:=List.length_set ..;rw[← hll,← LA.out] at hpt
   have hto:=hX2.BB (w':=w2.setCell ⟨hb,m,none⟩ (.int .i64 (c-1))) (hs:=x.held.set m (c-1)) (A2:=q.hA) (C2:=q.hC) ((ah.refl _ _).set m _ (.inr ⟨_,LA.out,rfl⟩)) (by
    have hb:=hX2.blk.far (p:=⟨hb,m,none⟩) hne (.int .i64 (c-1))
    simpa [mE] using hb) hpt (fun b hb=>.inl hb) HB2.out
   have pJ:=Lib.hid hto;clear hto hpt hds hX2 hne hll;go_upto_region 18 with fail
   refine aG (iA (fun b=>B b∨b=w.heap.size) xb q) [([0,1,2,3,4,5,6,7,8,9],10)] (by kernel_rfl) (by kernel_rfl) ?_;simp only[di,pick,List.map_cons,List.map_nil,List.getD_cons_zero,List.getD_cons_succ];repeat (any_goals (first | go_big_quiet_step (fail) | quiet_step (fail)))
   refine wpQuiet_nil ?_;go_upto_region 19 with fail
   have rU:=pJ.out.1.same (w':=(w2.setCell ⟨hb,m,none⟩ (.int .i64 (c-1))).drew) ((ah.refl _ _).drew);have sS:Hid (Up (fun b=>B b∨b=w.heap.size) w2 (w2.setCell ⟨hb,m,none⟩ (.int .i64 (c-1))).drew):=Lib.hid (pJ.out.2.trans (Up.bg ((ah.refl _ _).drew)));clear hs hxl c2 o1 ol d1 hbl fk;generalize (w2.setCell ⟨hb,m,none⟩ (.int .i64 (c-1))).drew=w3 at rU sS ⊢;replace HO:=Lib.hid (sS.out.kept HO.out (.inr rfl));have hxl:=rU.blk.lt;have c0:=rU.c0;have c1:=rU.c1;have o1:=HO.out.cell 1;have ol:=HO.out.lt;simp at o1;simp only at c0 c1;obtain⟨rb',hA',rl,d0⟩:=rU.refs.dV (c:=rc) HHR.out;simp only at hA';rw[hA'] at c1;have hrb:rb'=rb:=by
    have h1:=ZW.out;rw[hA'] at h1;injection h1 with h1
    injection h1
   subst hrb;unfold rc at d0;have yh:=Lib.hid rU;have hB3:∀ b,(B b∨b=w.heap.size)→b<w3.heap.size:=fun b hb=>Nat.lt_of_lt_of_le (HB2.out b hb) sS.out.size
   have hkk:=fun w' (hs:Same w3 w')=>Rp (yh.out.k.same hs) (fun b hb=>Nat.lt_of_lt_of_le (yh.out.all hB3 b hb) hs.size) r gr.1 gr.2
   simp only at hkk;obtain⟨⟨E,k'⟩,Tq⟩:∃ z,dF x.k r=z:=⟨_,rfl⟩;have hP:=HP.out;rw[Tq] at hkk hP;simp only at hkk hP;have HKK:=Lib.hid hkk;replace HP:=Lib.hid hP;clear hkk hP Tq hA' rU hB3;refine aG (iA (fun b=>B b∨b=w.heap.size) xb q) [([0,1,2,3,4,5,6,7,8,9,10,11],12),([],13)] (by kernel_rfl) (by kernel_rfl) ?_;simp only[di,pick,List.map_cons,List.map_nil,List.getD_cons_zero,List.getD_cons_succ];have hs:Same w3 w3.drew:=(ah.refl _ _).drew;repeat (any_goals (first | go_big_quiet_step (fail) | quiet_step (fail)))
   refine wpQuiet_nil ?_;refine aa rfl fun K hK=>?_
   go_simp;refine(HKK.out _ hs).mono ?_;rintro e w4 ⟨rfl,hk,hu⟩;refine hK _ _ (aY.bz ((hs.mono (fun _ _ h=>h.elim)).trans hu (fun _ _ h=>h))) ?_;clear hK K;have uY:=Lib.hid ((yh.out.same hs).kernel hk hu);have ab6:=Lib.hid (Ed.out.trans (ah.mono ((sS.out.trans (Up.bg hs)).trans uY.out.2) (fun _ _ hn hb=>hn (.inl hb))));clear hk hu hs;repeat (any_goals (first | go_big_quiet_step (fail) | quiet_step (fail)))
   refine wpQuiet_nil ?_;go_wp2;go_ret;have hP:=HP.out;subst hP;exact⟨rfl,⟨q,uY.out.1.sub (fun _ hb=>.inl hb)⟩,ab6.out⟩
  ·rw[if_neg (fun h=>hc0 h.2)] at hP;subst hP;clear HP hh hrd hcd;go_upto_region 17 with fail
   refine aG (fun _=>False) [([0,1,2],3),([4,5,6,7,8,9,10,11,12,13],14)] (by kernel_rfl) (by kernel_rfl) ?_;rw[aB];simp only[pick,List.map_cons,List.map_nil,List.getD_cons_zero,List.getD_cons_succ];repeat go_big_quiet_step (fail)
   refine wpQuiet_nil ?_;refine aa rfl fun K hK=>?_
   go_simp;refine(Ll.out _ hs).mono ?_;rintro e w2 ⟨rfl,rfl⟩;refine hK _ _ (aY.bz hs) ?_;clear hK K;rw[aN];simp only[pick,List.map_cons,List.map_nil,List.getD_cons_zero,List.getD_cons_succ];repeat go_big_quiet_step (fail)
   rw[ax];go_wp2;go_ret;exact⟨rfl,⟨q,(mI.out.same hs).sub (fun _ hb=>.inl hb)⟩,pO.out.trans (Up.bg hs)⟩
theorem Kv (hX:RW B w xb x q) (hB:∀ b,B b→b<w.heap.size) (hl:x.held.length=x.refs.length) (hrg:∀ r∈x.refs,0≤r∧r<4294967296) (v b c:Int) (hrl:x.refs.length≤1000000) :
  Calls Tryz.prog 41 #[.pointer (some ⟨xb,0,none⟩),.agg #[.int .i64 1,.int .i64 v,.int .i64 b,.int .i64 c]] w (nW B w xb (jf x v b c)):=by
 have HX:=Lib.hid hX;have HB:=Lib.hid hB;have HL:=Lib.hid hl;have Ou:=Lib.hid hrg;obtain⟨P,hP⟩:∃ z,jf x v b c=z:=⟨_,rfl⟩;rw[hP];have HP:=Lib.hid hP;clear hX hB hl hrg hP;go_enter Tryz.func41,Tryz.ntmps41;go_upto_region 1 with fail
 refine ai fun w1 hw1=>?_
 have hO:=av.new w 60 #[.int .i64 1,.int .i64 v,.int .i64 b,.int .i64 c];have hs1:Same w w1:=by rw[hw1];exact(ah.refl _ _).alloc _
 rw[← hw1] at hO;clear hw1;have hX:=HX.out.also hs1 (C:=fun b=>b=w.heap.size) (fun b hb=>Nat.le_of_eq hb.symm);have hB1:∀ b,(B b∨b=w.heap.size)→b<w1.heap.size:=fun b hb=>hb.elim (fun h=>Nat.lt_of_lt_of_le (HB.out b h) hs1.size) (fun h=>by have:=hO.lt;omega)
 have hxl:=hX.blk.lt;have c0:=hX.c0;have c1:=hX.c1;have c2:=hX.c2;rw[HL.out] at c2;have o0:=hO.cell 0;have o1:=hO.cell 1;have o2:=hO.cell 2;have o3:=hO.cell 3;have ol:=hO.lt;simp at o0 o1 o2 o3;have n1:¬ iA (fun b=>B b∨b=w.heap.size) xb q xb:=fun h=>h (.inr (.inl rfl))
 have n2:¬ iA (fun b=>B b∨b=w.heap.size) xb q w.heap.size:=fun h=>h (.inl (.inr rfl))
 have HO:=Lib.hid hO;have aW:=Lib.hid hs1;have mI:=Lib.hid hX;have HB1:=Lib.hid hB1;have pO:=Lib.hid (Up.bg hs1:Up B w w1);clear hO hs1 hX hB1;have yD:=fun i=>vJ mI.out HL.out i
 have Ll:=Lib.hid yD;clear yD;obtain⟨hbv,hh⟩:∃ z,hasB x b=z:=⟨_,rfl⟩;obtain⟨hcv,Mi⟩:∃ z,hasB x c=z:=⟨_,rfl⟩;have hhb:=Ll.out b;have WM:=Ll.out c;rw[hh] at hhb;rw[Mi] at WM;have HHB:=Lib.hid hhb;have VG:=Lib.hid WM;clear hhb WM;cases hbv with
 | false =>
  have hP:P=(x,0):=by rw[← HP.out];unfold jf;rw[if_neg (fun h=>by rw[hh] at h;exact absurd h.1 (by decide))]
  subst hP;clear hh Mi;go_wp2_with (fail)
  refine HHB.out.mono ?_;rintro e w2 ⟨rfl,rfl⟩;go_wp2;go_ret;exact⟨rfl,⟨q,mI.out.sub (fun _ hb=>.inl hb)⟩,pO.out⟩
 | true =>
  cases hcv with
  | false =>
   have hP:P=(x,0):=by rw[← HP.out];unfold jf;rw[if_neg (fun h=>by rw[Mi] at h;exact absurd h.2.1 (by decide))]
   subst hP;clear hh Mi;go_wp2_with (fail)
   refine HHB.out.mono ?_;rintro e w2 ⟨rfl,rfl⟩;go_wp2_with (fail)
   refine VG.out.mono ?_;rintro e w2 ⟨rfl,rfl⟩;go_wp2;go_ret;exact⟨rfl,⟨q,mI.out.sub (fun _ hb=>.inl hb)⟩,pO.out⟩
  | true =>
   by_cases h60:x.refs.length<60
   ·have hP:=HP.out;unfold jf at hP;rw[if_pos ⟨hh,Mi,h60⟩] at hP;obtain⟨m,rfl,hm⟩:=iL hh;obtain⟨m2,rfl,hm2⟩:=iL Mi;have hI:(m:Int)<(x.refs.length:Int):=by omega
    have hI2:(m2:Int)<(x.refs.length:Int):=by omega
    have hJ:(x.refs.length:Int)<60:=by omega
    obtain⟨r,hr⟩:∃ r,x.refs[m]?=some r:=⟨_,List.getElem?_eq_getElem hm⟩;obtain⟨r2,hr2⟩:∃ r,x.refs[m2]?=some r:=⟨_,List.getElem?_eq_getElem hm2⟩;have gr:=Ou.out r (List.mem_of_getElem? hr);have gr2:=Ou.out r2 (List.mem_of_getElem? hr2);have hrd:x.refs.getD (m:Int).toNat 0=r:=by rw[Int.toNat_natCast,List.getD_eq_getElem?_getD,hr];rfl
    have ZX:x.refs.getD (m2:Int).toNat 0=r2:=by rw[Int.toNat_natCast,List.getD_eq_getElem?_getD,hr2];rfl
    rw[hrd,ZX] at hP;obtain⟨rb,hA,rl,d0⟩:=mI.out.refs.dV (c:=rc) hr;obtain⟨rb2,hA2,_,d1⟩:=mI.out.refs.dV (c:=rc) hr2;rw[hA] at hA2 c1;injection hA2 with hA2
    injection hA2 with hA2
    subst hA2;unfold rc at d0 d1;have n3:¬ iA (fun b=>B b∨b=w.heap.size) xb q rb:=fun h=>h (.inr (.inr (.inl ⟨_,hA,rfl⟩)))
    have hkk:=fun w' (hs:Same w1 w')=>Rn (mI.out.k.same hs) (fun b hb=>Nat.lt_of_lt_of_le (mI.out.all HB1.out b hb) hs.size) ⟨v,r,r2⟩ gr.1 gr.2 gr2.1 gr2.2
    obtain⟨⟨z,E,k'⟩,Tq⟩:∃ y,aV x.k ⟨v,r,r2⟩=y:=⟨_,rfl⟩;rw[Tq] at hkk hP;simp only at hkk hP;have HKK:=Lib.hid hkk;replace HP:=Lib.hid hP;have LA:=Lib.hid hA;clear hkk hP Tq hh Mi hrd ZX hr hr2 hA gr gr2 Ll;go_wp2_with (fail)
    refine HHB.out.mono ?_;rintro e w2 ⟨rfl,rfl⟩;go_wp2_with (fail)
    refine VG.out.mono ?_;rintro e w2 ⟨rfl,rfl⟩;go_upto_region 5 with fail
    refine aG (iA (fun b=>B b∨b=w.heap.size) xb q) [([0,1,2,3,4,5,6,7,8,9,10,11,12,13,14,15,16,17,18,19,20,21],22),([23,24,25,26],27)] (by kernel_rfl) (by kernel_rfl) ?_;simp only[di,pick,List.map_cons,List.map_nil,List.getD_cons_zero,List.getD_cons_succ];have hs:Same w1 w1.drew:=(ah.refl _ _).drew;repeat (any_goals (first | go_big_quiet_step (fail) | quiet_step (fail)))
    refine wpQuiet_nil ?_;refine aa rfl fun K hK=>?_
    go_simp;refine(HKK.out _ hs).mono ?_;rintro e w2 ⟨rfl,hk,hu⟩;refine hK _ _ (aY.bz ((hs.mono (fun _ _ h=>h.elim)).trans hu (fun _ _ h=>h))) ?_;clear hK K;have uk:=Lib.hid ((mI.out.same hs).kernel hk hu);have Ed:=Lib.hid (pO.out.trans (ah.mono ((Up.bg hs).trans uk.out.2) (fun _ _ hn hb=>hn (.inl hb))));have HB2:Hid (∀ b,B b→b<w2.heap.size):=Lib.hid (fun b hb=>Nat.lt_of_lt_of_le (HB1.out b (.inl hb)) (Nat.le_trans hs.size hu.size));clear hk hu hs hxl c0 c1 c2 o0 o1 o2 o3 ol d0 d1 rl n1 n2 n3;repeat (any_goals (first | go_big_quiet_step (fail) | quiet_step (fail)))
    refine wpQuiet_nil ?_;by_cases hE:E=0
    ·subst hE;have hP:=HP.out;rw[if_pos rfl] at hP;replace HP:=Lib.hid hP;have hX2:=uk.out.1.sub (B':=B) (fun _ hb=>.inl hb);clear hP uk;have hxl:=hX2.blk.lt;have c1:=hX2.c1;simp only at c1;have uk:=Lib.hid hX2;clear hX2;go_upto_region 7 with fail
     refine aR 6 ?_;simp only[List.take_succ_cons,List.take_zero,List.drop_succ_cons,List.drop_zero];repeat (any_goals (first | go_big_quiet_step (fail) | quiet_step (fail)))
     refine wpQuiet_nil ?_;refine wpList_plain rfl fun K hK=>?_
     go_simp;refine hK _ _ ?_;clear hK K;refine aK fun wa dJ=>?_
     have VH:=av.new w2 28 #[.int .u32 z];have hsa:Same w2 wa:=by rw[dJ];exact(ah.refl _ _).alloc _
     rw[← dJ] at VH;clear dJ;have LC:=uk.out.same hsa;have hrow:Row1 wa 28 rc q.rA x.refs.length q.rC x.refs:=LC.refs;refine Own.aI (f:=fun x=>[rc x]) rfl (.tmp 66) (.tmp 68) _ rfl Tryz.underlying40 iP rfl (by omega) rfl hrow (fun _=>rfl) z w2.heap.size 1 rfl (by simpa [rc] using VH) (by simp[Value.oneCell',rc]) (by unfold maxLen;omega) (by omega) ?_;intro gg cap wb hOb hgb hat
     have hbb:=LC.blk.grown hgb (fun hx=>by
      obtain⟨y,hy,hyb⟩:=af.1 hx.symm
      exact hrow.au LC.blk (by decide) y hy hyb)
     have f1:=hbb.free 1;have d1:=hbb.cell 1;have hpb:=hbb.lt;simp[mE] at d1;have hfr:ah (fun b=>b=xb∨rowOf q.rA b) w2 wb:=(ah.mono hsa (fun _ _ h=>h.elim)).grown hgb (fun g hg=>.inl (.inr (af.1 hg)))
     have hto:=uk.out.Bv (w':=wb.setCell ⟨xb,1,none⟩ (.slice (some ⟨gg,0,none⟩) (x.refs.length+1) cap)) (rs:=x.refs++[z]) (A2:=some ⟨gg,0,none⟩) (C2:=cap) (hfr.set 1 _ (.inl rfl)) (by
       have:=hbb.set 1 (.slice (some ⟨gg,0,none⟩) (x.refs.length+1) cap)
       simpa [mE] using this)
      (by
       have:=Own.far (p:=⟨xb,1,none⟩) hOb (fun y hy h=>Own.au hOb hbb (by decide) y hy h) (.slice (some ⟨gg,0,none⟩) (x.refs.length+1) cap)
       rw[List.length_append]
       exact this)
      (fun b hb=>by
       obtain⟨y,hy,rfl⟩:=hb;injection hy with hy
       subst hy;rcases hat with h | h
       ·exact .inl (af.1 h)
       ·have:=hsa.size
        exact .inr (by simp only;omega)) HB2.out
     have pJ:=Lib.hid hto;have HB3:Hid (∀ b,B b→b<(wb.setCell ⟨xb,1,none⟩ (.slice (some ⟨gg,0,none⟩) (x.refs.length+1) cap)).heap.size):=Lib.hid (fun b hb=>by rw[size_setCell];have:=HB2.out b hb;have:=hfr.size;omega);clear hbb hfr hto hOb hgb hat hrow LC VH hsa c1 hxl;go_upto_region 8 with fail
     generalize wb.setCell ⟨xb,1,none⟩ (.slice (some ⟨gg,0,none⟩) (x.refs.length+1) cap)=w3 at pJ HB3 ⊢;clear f1 d1 hpb;have rU:=pJ.out.1;have hxl:=rU.blk.lt;have c2:=rU.c2;simp only at c2;rw[HL.out] at c2;clear rU;refine aR 5 ?_;simp only[List.take_succ_cons,List.take_zero,List.drop_succ_cons,List.drop_zero];repeat (any_goals (first | go_big_quiet_step (fail) | quiet_step (fail)))
     refine wpQuiet_nil ?_;refine wpList_plain rfl fun K hK=>?_
     go_simp;refine hK _ _ ?_;clear hK K;refine aK fun wc hwc=>?_
     have VH:=av.new w3 3 #[.int .i64 1];have hsa:Same w3 wc:=by rw[hwc];exact(ah.refl _ _).alloc _
     rw[← hwc] at VH;clear hwc;have LC:=pJ.out.1.same hsa;have hrow:gm wc 3 q.hA x.refs.length q.hC x.held:=by have:=LC.held;simp only at this;rw[HL.out] at this;exact this
     refine Own.aI (f:=dM) rfl (.tmp 76) (.tmp 77) _ rfl Tryz.underlying46 iV rfl (by omega) rfl hrow fo 1 w3.heap.size 1 rfl (by simpa [dM] using VH) (by simp[Value.oneCell',dM]) (by rw[HL.out];unfold maxLen;omega) (by rw[HL.out];omega) ?_;intro gh cah wd hOb hgb hat
     have hbb:=LC.blk.grown hgb (fun hx=>by
      obtain⟨y,hy,hyb⟩:=af.1 hx.symm
      exact hrow.au LC.blk (by decide) y hy hyb)
     have f2:=hbb.free 2;have d2:=hbb.cell 2;have hpb:=hbb.lt;simp[mE] at d2;have hfr:ah (fun b=>b=xb∨rowOf q.hA b) w3 wd:=(ah.mono hsa (fun _ _ h=>h.elim)).grown hgb (fun g hg=>.inl (.inr (af.1 hg)))
     have hto:=pJ.out.1.BB (w':=wd.setCell ⟨xb,2,none⟩ (.slice (some ⟨gh,0,none⟩) (x.refs.length+1) cah)) (hs:=x.held++[1]) (A2:=some ⟨gh,0,none⟩) (C2:=cah) (hfr.set 2 _ (.inl rfl)) (by
       have:=hbb.set 2 (.slice (some ⟨gh,0,none⟩) (x.refs.length+1) cah)
       simpa [mE,HL.out] using this)
      (by
       have:=Own.far (p:=⟨xb,2,none⟩) hOb (fun y hy h=>Own.au hOb hbb (by decide) y hy h) (.slice (some ⟨gh,0,none⟩) (x.refs.length+1) cah)
       rw[List.length_append,HL.out]
       exact this)
      (fun b hb=>by
       obtain⟨y,hy,rfl⟩:=hb;injection hy with hy
       subst hy;rcases hat with h | h
       ·exact .inl (af.1 h)
       ·have:=hsa.size
        exact .inr (by simp only;omega)) HB3.out
     have ZY:=Lib.hid hto;clear hbb hfr hto hOb hgb hat hrow LC VH hsa c2 hxl;go_wp2;go_ret;have hP:=HP.out;subst hP;exact⟨rfl,⟨_,ZY.out.1⟩,(Ed.out.trans pJ.out.2).trans ZY.out.2⟩
    ·have hP:=HP.out;rw[if_neg hE] at hP;subst hP;clear HP;go_wp2;go_ret;exact⟨rfl,⟨q,uk.out.1.sub (fun _ hb=>.inl hb)⟩,Ed.out⟩
   ·have hJ:¬ (x.refs.length:Int)<60:=by omega
    have hP:P=(x,0):=by rw[← HP.out];unfold jf;rw[if_neg (fun h=>by exact h60 h.2.2)]
    subst hP;clear hh Mi;go_wp2_with (fail)
    refine HHB.out.mono ?_;rintro e w2 ⟨rfl,rfl⟩;go_wp2_with (fail)
    refine VG.out.mono ?_;rintro e w2 ⟨rfl,rfl⟩;go_wp2;go_ret;exact⟨rfl,⟨q,mI.out.sub (fun _ hb=>.inl hb)⟩,pO.out⟩
end
def hsum (refs held:List Int) (r:Int):Nat→Int
 | 0=>0
 | j+1=>if refs.getD j 0=r∧0<held.getD j 0 then hsum refs held r j+held.getD j 0 else hsum refs held r j
theorem oQ (refs held:List Int) (r:Int):∀ (n j:Nat),j≤n→hsum refs held r j≤hsum refs held r n
 | 0,j,h=>by
  obtain rfl:j=0:=by omega
  exact Int.le_refl _
 | n+1,j,h=>by
  by_cases hj:j=n+1
  ·subst hj;exact Int.le_refl _
  ·have:=oQ refs held r n j (by omega)
   show _≤(if refs.getD n 0=r∧0<held.getD n 0 then hsum refs held r n+held.getD n 0 else hsum refs held r n);split
   ·rename_i h1;omega
   ·exact this
theorem IA (refs held:List Int) (r:Int) (j:Nat):0≤hsum refs held r j:=oQ refs held r j 0 (Nat.zero_le _)
theorem rP {refs held:List Int} {r:Int} {j n:Nat} (hj:j<n) (h1:refs.getD j 0=r) (h2:0<held.getD j 0):held.getD j 0≤hsum refs held r n:=by
 have h3:=oQ refs held r n (j+1) hj;have h4:=IA refs held r j;have h5:hsum refs held r (j+1)=hsum refs held r j+held.getD j 0:=if_pos ⟨h1,h2⟩;omega
theorem nX {l:List Int} {n:Nat} {r:Int}:r∈dL l n↔∃ i:Nat,r=i∧i<n∧0<l.getD i 0:=by
 unfold dL;rw[List.mem_map];constructor
 ·rintro⟨i,hi,rfl⟩;rw[List.mem_filter,List.mem_range] at hi;exact⟨i,rfl,hi.1,by simpa using hi.2⟩
 ·rintro⟨i,rfl,h1,h2⟩;exact⟨i,List.mem_filter.2 ⟨List.mem_range.2 h1,by simpa using h2⟩,rfl⟩
theorem BC (l:List Int) (n:Nat):(dL l n).Pairwise (· < ·):=by
 unfold dL;rw[List.pairwise_map];refine List.Pairwise.imp (R:=(· < ·)) (fun h=>by omega) ?_;exact List.Pairwise.sublist List.filter_sublist List.pairwise_lt_range
theorem zR {k:KS} (K:KI k):∀ r∈aU k,2≤r∧0<k.hs.getD r.toNat 0:=by
 intro r hr;obtain⟨i,rfl,h1,h2⟩:=nX.1 hr;refine⟨?_,by simpa using h2⟩;rw[List.getD_eq_getElem?_getD,List.getElem?_eq_getElem h1] at h2;obtain⟨n,hn⟩:=(K.bk.hol i _ (List.getElem?_eq_getElem h1)).2.2 (by simp at h2;omega);rw[List.append_nil] at hn;exact(K.mem' hn).1
def Held (x:RS):Prop:=∀ r:Int,2≤r→hsum x.refs x.held r x.refs.length=x.k.hs.getD r.toNat 0
section
variable {w w':World} {B:Nat→Prop} {xb:Nat} {x:RS} {q:RA}
theorem Gg (hX:RW B w xb x q) (hl:x.held.length=x.refs.length) (hrg:∀ r∈x.refs,0≤r∧r<4294967296) (hcb:∀ c∈x.held,0≤c∧c≤1000000000000000) (hrl:x.refs.length≤1000000) (hh:Held x)
  (A:Option Addr) (C:Nat) (hA:Row1 w 28 rc A (aU x.k).length C (aU x.k)) :
  Calls Tryz.prog 84 #[.pointer (some ⟨xb,0,none⟩),.slice A (aU x.k).length C] w fun e w'=>e=.returned (.bool true)∧w=w':=by
 have hxl:=hX.blk.lt;have c0:=hX.c0;have c1:=hX.c1;have c2:=hX.c2;rw[hl] at c2;have hrr:=uD hX.k.ki;have hr2:=zR hX.k.ki;have WY:(aU x.k).Pairwise (· < ·):=BC _ _;have ab7:=tL hX.k.ki;have hmem:∀ r:Int,2≤r→0<x.k.hs.getD r.toNat 0→r∈aU x.k:=fun r h2 h0=>by
  refine nX.2 ⟨r.toNat,by omega,?_,h0⟩;rw[List.getD_eq_getElem?_getD] at h0;cases hx:x.k.hs[r.toNat]? with
  | none=>rw[hx] at h0;exact absurd h0 (by decide)
  | some y=>exact(List.getElem?_eq_some_iff.1 hx).1
 have Su:∀ r:Int,x.k.hs.getD r.toNat 0≤65535:=fun r=>by
  rw[List.getD_eq_getElem?_getD];cases hx:x.k.hs[r.toNat]? with
  | none=>simp
  | some y=>exact(hX.k.ki.bk.hol _ y hx).2.1
 have hkh:=fun (r:Int) (h0:0≤r) (h1:r<4294967296)=>Rq hX.k r h0 h1
 obtain⟨RL,ZZ⟩:∃ z,aU x.k=z:=⟨_,rfl⟩;rw[ZZ] at hA hrr hr2 WY ab7 hmem ⊢;have HX:=Lib.hid hX;have HL:=Lib.hid hl;have Ou:=Lib.hid hrg;have NG:=Lib.hid hcb;have HH:=Lib.hid hh;have HA:=Lib.hid hA;have HRR:=Lib.hid hrr;have HR2:=Lib.hid hr2;have HRI:=Lib.hid WY;have ZT:=Lib.hid hmem;have HHL:=Lib.hid Su;have Yl:=Lib.hid hkh;clear hX hl hrg hcb hh hA hrr hr2 WY hmem Su hkh ZZ;go_enter Tryz.func84,Tryz.ntmps84;go_wp2_with (fail)
 go_loopw [12] (fun s wr=>∃ i:Nat,i≤RL.length∧s=.int .i64 i∧w=wr) (fun s _=>RL.length-(intOf s).toNat)
 case atStart=>exact⟨0,by omega,rfl,rfl⟩
 case round =>
  obtain⟨i,hi,rfl,rfl⟩:=hrel;by_cases hlt:i<RL.length
  ·have hI:(i:Int)<(RL.length:Int):=by omega
   obtain⟨r,hr⟩:∃ r,RL[i]?=some r:=⟨_,List.getElem?_eq_getElem hlt⟩;obtain⟨sb,hA1,hsb,d0⟩:=HA.out.dV (c:=rc) hr;unfold rc at d0;obtain⟨r2,rh⟩:=HR2.out r (List.mem_of_getElem? hr);obtain⟨r0,r1⟩:=HRR.out r (List.mem_of_getElem? hr);have Ov:=HH.out r r2;have hle:=HHL.out r;have hkh:=Yl.out r r0 r1;obtain⟨c,hc⟩:∃ z,x.k.hs.getD r.toNat 0=z:=⟨_,rfl⟩;rw[hc] at rh Ov hle hkh;have Ee:i=0∨∃ i' r',i=i'+1∧RL[i']?=some r'∧¬ r≤r':=by
    by_cases h0:i=0
    ·exact .inl h0
    ·refine .inr ⟨i-1,RL[i-1],by omega,List.getElem?_eq_getElem (by omega),?_⟩;have h1:=List.pairwise_iff_getElem.1 HRI.out (i-1) i (by omega) hlt (by omega);rw[List.getElem?_eq_getElem hlt] at hr;injection hr with hr
     rw[hr] at h1;omega
   have FP:=Lib.hid Ov;have Z0:=Lib.hid hkh;have Rt:=Lib.hid Ee;clear Ov hkh Ee hr hc;subst hA1;go_wp2_with (fail)
   go_loopw [7,22] (fun s7 s22 wr=>∃ j:Nat,j≤x.refs.length∧s22=.int .i64 j∧s7=.int .i64 (hsum x.refs x.held r j)∧w=wr) (fun s7 s22 _=>x.refs.length-(intOf s22).toNat)
   case atStart=>exact⟨0,by omega,rfl,rfl,rfl⟩
   case round =>
    obtain⟨j,hj,rfl,rfl,rfl⟩:=hrel;by_cases hjl:j<x.refs.length
    ·have hJ:(j:Int)<(x.refs.length:Int):=by omega
     obtain⟨y,hy⟩:∃ y,x.refs[j]?=some y:=⟨_,List.getElem?_eq_getElem hjl⟩;obtain⟨z,hz⟩:∃ z,x.held[j]?=some z:=⟨_,List.getElem?_eq_getElem (by rw[HL.out];exact hjl)⟩;obtain⟨rb,hA,rl,d1⟩:=HX.out.refs.dV (c:=rc) hy;obtain⟨hb,hA2,hbl,d2⟩:=HX.out.held.dV (c:=fun x:Int=>.int .i64 x) hz;have hstep:hsum x.refs x.held r (j+1)=if y=r∧0<z then hsum x.refs x.held r j+z else hsum x.refs x.held r j:=by
      show(if x.refs.getD j 0=r∧0<x.held.getD j 0 then hsum x.refs x.held r j+x.held.getD j 0 else hsum x.refs x.held r j)=_;rw[List.getD_eq_getElem?_getD,List.getD_eq_getElem?_getD,hy,hz];rfl
     have hm:=oQ x.refs x.held r x.refs.length (j+1) hjl;rw[FP.out] at hm;have hn:=IA x.refs x.held r j;rw[hA] at c1;rw[hA2] at c2;unfold rc at d1;obtain⟨t,ht⟩:∃ t,hsum x.refs x.held r j=t:=⟨_,rfl⟩;rw[ht] at hstep hn ⊢;clear hy hz hA hA2 ht;by_cases hyr:y=r
     ·by_cases hz0:0<z
      ·rw[if_pos ⟨hyr,hz0⟩] at hstep;rw[hstep] at hm;have HST:=Lib.hid hstep;clear hstep;go_wp2;go_roundw
       case rel=>exact⟨j+1,by omega,by go_num,by rw[HST.out],trivial⟩
       case measure=>simp[intOf] <;> omega
      ·rw[if_neg (fun h=>hz0 h.2)] at hstep;have HST:=Lib.hid hstep;clear hstep hm;go_wp2;go_roundw
       case rel=>exact⟨j+1,by omega,by go_num,by rw[HST.out],trivial⟩
       case measure=>simp[intOf] <;> omega
     ·rw[if_neg (fun h=>hyr h.1)] at hstep;have HST:=Lib.hid hstep;clear hstep hm;go_wp2;go_roundw
      case rel=>exact⟨j+1,by omega,by go_num,by rw[HST.out],trivial⟩
      case measure=>simp[intOf] <;> omega
    ·obtain rfl:j=x.refs.length:=by omega
     have hJ:¬ ((x.refs.length:Nat):Int)<(x.refs.length:Int):=by omega
     rw[FP.out];have e0:(c == 0)=false:=by
      have:c≠0:=by omega
      simpa using this
     have e1:(c != c)=false:=by simp
     have hr2':¬ r<2:=by omega
     rcases Rt.out with rfl | ⟨i',r',rfl,hr',hrr⟩
     ·go_wp2_with (fail)
      refine Z0.out.mono ?_;rintro e wy ⟨rfl,rfl⟩;go_wp2;go_roundw
      case rel=>exact⟨1,by omega,by go_num,trivial⟩
      case measure=>simp[intOf] <;> omega
     ·obtain⟨sb',hA',mM,d1⟩:=HA.out.dV (c:=rc) hr';injection hA' with hA'
      injection hA' with hA'
      subst hA';unfold rc at d1;have hk1:(0:Int)<(i':Int)+1:=by omega
      have hk2:(i':Int)<RL.length:=by omega
      go_wp2_with (fail)
      refine Z0.out.mono ?_;rintro e wy ⟨rfl,rfl⟩;go_wp2;go_roundw
      case rel=>exact⟨i'+2,by omega,by go_num,trivial⟩
      case measure=>simp[intOf] <;> omega
  ·obtain rfl:i=RL.length:=by omega
   have hI:¬ ((RL.length:Nat):Int)<(RL.length:Int):=by omega
   go_wp2_with (fail)
   go_loopw [89] (fun s wr=>∃ j:Nat,j≤x.refs.length∧s=.int .i64 j∧w=wr) (fun s _=>x.refs.length-(intOf s).toNat)
   case atStart=>exact⟨0,by omega,rfl,rfl⟩
   case round =>
    obtain⟨j,hj,rfl,rfl⟩:=hrel;by_cases hjl:j<x.refs.length
    ·have hJ:(j:Int)<(x.refs.length:Int):=by omega
     obtain⟨y,hy⟩:∃ y,x.refs[j]?=some y:=⟨_,List.getElem?_eq_getElem hjl⟩;obtain⟨z,hz⟩:∃ z,x.held[j]?=some z:=⟨_,List.getElem?_eq_getElem (by rw[HL.out];exact hjl)⟩;obtain⟨rb,hA,rl,d1⟩:=HX.out.refs.dV (c:=rc) hy;obtain⟨hb,hA2,hbl,d2⟩:=HX.out.held.dV (c:=fun x:Int=>.int .i64 x) hz;have hin:2≤y→0<z→0≤Kl RL y:=fun h2 h0=>by
      have e1:x.refs.getD j 0=y:=by rw[List.getD_eq_getElem?_getD,hy];rfl
      have e2:x.held.getD j 0=z:=by rw[List.getD_eq_getElem?_getD,hz];rfl
      have h3:=rP (refs:=x.refs) (held:=x.held) hjl e1 (by rw[e2];exact h0);rw[HH.out y h2,e2] at h3;exact Iy.2 (ZT.out y h2 (by omega))
     rw[hA] at c1;rw[hA2] at c2;unfold rc at d1;have hat:=Iz A RL.length C RL y w (HA.out.sl (fun _=>rfl)) (by omega);obtain⟨t,ht⟩:∃ t,Kl RL y=t:=⟨_,rfl⟩;rw[ht] at hin hat;have HAT:=Lib.hid hat;clear hat ht hy hz hA hA2;by_cases hy2:2≤y
     ·by_cases hz0:0<z
      ·have ht0:¬ t<0:=by have:=hin hy2 hz0;omega
       clear hin;go_wp2_with (fail)
       refine HAT.out.mono ?_;rintro e wy ⟨rfl,rfl⟩;go_wp2;go_roundw
       case rel=>exact⟨j+1,by omega,by go_num,trivial⟩
       case measure=>simp[intOf] <;> omega
      ·clear hin;go_wp2;go_roundw
       case rel=>exact⟨j+1,by omega,by go_num,trivial⟩
       case measure=>simp[intOf] <;> omega
     ·clear hin;go_wp2;go_roundw
      case rel=>exact⟨j+1,by omega,by go_num,trivial⟩
      case measure=>simp[intOf] <;> omega
    ·obtain rfl:j=x.refs.length:=by omega
     have hJ:¬ ((x.refs.length:Nat):Int)<(x.refs.length:Int):=by omega
     go_wp2;go_ret;exact⟨rfl,rfl⟩
end
theorem vK:∀ (f:Nat) (k:KS) (st:List Int),(iR f k st).hs=k.hs
 | 0,_,_=>rfl
 | _+1,_,[]=>rfl
 | f+1,k,r::st=>by
  unfold iR;split
  ·exact vK f k st
  ·split
   ·exact vK f _ st
   ·exact vK f _ _
theorem Ru (k:KS) (r:Int):(jY k r).hs=k.hs:=vK _ _ _
section
variable {k:KS} {r s:Int} {l:Nat}
theorem oU {L:List Int} {i:Nat} {v:Int} (hi:i<L.length) (j:Nat):(L.set i v).getD j 0=if j=i then v else L.getD j 0:=by
 rw[List.getD_eq_getElem?_getD,List.getD_eq_getElem?_getD];by_cases h:j=i
 ·subst h;rw[if_pos rfl,List.getElem?_set_self hi];rfl
 ·rw[if_neg h,List.getElem?_set_ne (fun e=>h e.symm)]
theorem Ef (hl:1<r→tk k.ls r=true→r.toNat<k.hs.length) (h0:0≤r) (hs:2≤s) :
  (bE k r).2.hs.getD s.toNat 0=k.hs.getD s.toNat 0+(if (bE k r).1=0∧s=r then 1 else 0):=by
 unfold bE;by_cases ht:tk k.ls r=false
 ·rw[if_pos ht,if_neg (fun h=>absurd (show(3:Int)=0 from h.1) (by decide))];simp
 ·rw[if_neg ht];by_cases h1:1<r
  ·rw[if_pos h1];by_cases h5:k.hs.getD r.toNat 0=65535
   ·rw[if_pos h5,if_neg (fun h=>absurd (show(8:Int)=0 from h.1) (by decide))];simp
   ·rw[if_neg h5];show(k.hs.set r.toNat (k.hs.getD r.toNat 0+1)).getD s.toNat 0=_;rw[oU (hl h1 (by simpa using ht))];by_cases yj:s=r
    ·subst yj;rw[if_pos rfl,if_pos ⟨rfl,rfl⟩]
    ·rw[if_neg (by omega),if_neg (fun h=>yj h.2)];omega
  ·rw[if_neg h1,if_neg (fun h=>by omega)];show k.hs.getD s.toNat 0=_;omega
theorem Ow (h0:0≤r) (hs:2≤s) :
  (dF k r).2.hs.getD s.toNat 0=k.hs.getD s.toNat 0-(if (dF k r).1=0∧s=r then 1 else 0):=by
 unfold dF;by_cases h1:1<r
 ·rw[if_pos h1];by_cases hh:k.hs.getD r.toNat 0=0
  ·rw[if_pos hh,if_neg (fun h=>absurd (show(3:Int)=0 from h.1) (by decide))];simp
  ·rw[if_neg hh];have hlen:r.toNat<k.hs.length:=by
    rw[List.getD_eq_getElem?_getD] at hh;cases hx:k.hs[r.toNat]? with
    | none=>rw[hx] at hh;exact absurd rfl hh
    | some y=>exact(List.getElem?_eq_some_iff.1 hx).1
   show(ig k r).hs.getD s.toNat 0=_;unfold ig;by_cases e1:k.hs.getD r.toNat 0=1
   ·rw[if_pos e1,Ru];show(k.hs.set r.toNat 0).getD s.toNat 0=_;rw[oU hlen];by_cases yj:s=r
    ·subst yj;rw[if_pos rfl,if_pos ⟨rfl,rfl⟩,e1];rfl
    ·rw[if_neg (by omega),if_neg (fun h=>yj h.2)];omega
   ·rw[if_neg e1];show(k.hs.set r.toNat (k.hs.getD r.toNat 0-1)).getD s.toNat 0=_;rw[oU hlen];by_cases yj:s=r
    ·subst yj;rw[if_pos rfl,if_pos ⟨rfl,rfl⟩]
    ·rw[if_neg (by omega),if_neg (fun h=>yj h.2)];omega
 ·rw[if_neg h1,if_neg (fun h=>by omega)];show k.hs.getD s.toNat 0=_;omega
theorem IB (K:KI k) (h1:1<r) (ht:tk k.ls r=true):r.toNat<k.hs.length:=by
 rcases(K.live (by omega)).1 ht with h | h | ⟨n,hn⟩
 ·omega
 ·omega
 ·rw[← K.bk.ul];exact(K.bk.Qe (List.mem_append_left _ hn)).2
theorem Eg (hl:1<r→tk k.ls r=true→r.toNat<k.hs.length) (h0:0≤r) (hs:2≤s) :
  (bU k r).2.2.hs.getD s.toNat 0=k.hs.getD s.toNat 0+(if (bU k r).2.1=0∧s=(bU k r).1 then 1 else 0):=by
 have h:=Ef hl h0 hs;unfold bU;by_cases he:(bE k r).1=0
 ·rw[if_pos he];rw[he] at h;exact h
 ·rw[if_neg he,if_neg (fun h=>he h.1)];rw[if_neg (fun h=>he h.1)] at h;exact h
theorem IC (h0:0≤r) (h1:r<4294967296):0≤(bU k r).1∧(bU k r).1<4294967296:=by
 unfold bU;split
 ·exact⟨h0,h1⟩
 ·exact⟨show(0:Int)≤0 by decide,show(0:Int)<4294967296 by decide⟩
theorem Kw (K:KI k):aC k≤k.ls.length:=by
 unfold aC;split
 ·rename_i r hr;obtain⟨m,rfl,_,p,hp,_⟩:=K.bk.E5 r (List.mem_of_getLast? hr)
  have:=(List.getElem?_eq_some_iff.1 hp).1
  omega
 ·exact Nat.le_refl _
theorem Kz {L:List bP} {n:Nd} {r:Int} (h:look L n=some r):(n,r)∈L:=gp h
theorem Ox (K:KI k) (n:Nd) (l0:0≤n.lo) (l1:n.lo<4294967296) (hs:2≤s) :
  (pI k n (fD k n)).2.2.hs.getD s.toNat 0=k.hs.getD s.toNat 0+(if (pI k n (fD k n)).2.1=0∧s=(pI k n (fD k n)).1 then 1 else 0)∧0≤(pI k n (fD k n)).1∧(pI k n (fD k n)).1<4294967296:=by
 cases hsk:fD k n with
 | some r =>
  have hr:0≤r∧r<4294967296:=by
   unfold fD at hsk;split at hsk
   ·injection hsk with hsk
    subst hsk;exact⟨l0,l1⟩
   ·have hm:=Kz hsk;obtain⟨g1,g2,g3⟩:=K.mem' hm
    have:=rJ g3 (by omega)
    have:=K.lsl
    omega
  exact⟨Eg (fun a b=>IB K a b) hr.1 hs,IC hr.1 hr.2⟩
 | none =>
  show(if k.ac+1≤k.c then bU (aT k n) (aC k) else (0,9,k)).2.2.hs.getD s.toNat 0=_+(if (if k.ac+1≤k.c then bU (aT k n) (aC k) else (0,9,k)).2.1=0∧s=(if k.ac+1≤k.c then bU (aT k n) (aC k) else (0,9,k)).1 then 1 else 0)∧0≤(if k.ac+1≤k.c then bU (aT k n) (aC k) else (0,9,k)).1∧(if k.ac+1≤k.c then bU (aT k n) (aC k) else (0,9,k)).1<4294967296;by_cases hc:k.ac+1≤k.c
  ·rw[if_pos hc];have hlen:aC k<(aT k n).hs.length:=by
    rw[ek];show aC k<((upto k.hs (aC k+1)).set (aC k) 0).length;rw[List.length_set,gY];omega
   have h:=Eg (k:=aT k n) (r:=(aC k:Int)) (s:=s) (fun _ _=>by rw[Int.toNat_natCast];exact hlen) (by omega) hs;rw[qR K.bk n s.toNat] at h;refine⟨h,IC (by omega) ?_⟩;have h1:=Kw K;have h2:=K.lsl;omega
  ·rw[if_neg hc,if_neg (fun h=>absurd (show(9:Int)=0 from h.1) (by decide))];exact⟨by show k.hs.getD s.toNat 0=_;omega,show(0:Int)≤0 by decide,show(0:Int)<4294967296 by decide⟩
theorem Oy (K:KI k) (n:Nd) (l0:0≤n.lo) (l1:n.lo<4294967296) (hs:2≤s) :
  (aV k n).2.2.hs.getD s.toNat 0=k.hs.getD s.toNat 0+(if (aV k n).2.1=0∧s=(aV k n).1 then 1 else 0)∧0≤(aV k n).1∧(aV k n).1<4294967296:=by
 unfold aV;by_cases hf:iB k n=0
 ·rw[if_pos hf];exact Ox K n l0 l1 hs
 ·rw[if_neg hf,if_neg (fun h=>hf h.1)];exact⟨by show k.hs.getD s.toNat 0=_;omega,show(0:Int)≤0 by decide,show(0:Int)<4294967296 by decide⟩
theorem xV:(bE k r).2.tr=k.tr∨(bE k r).2.tr=[]:=by
 unfold bE;split
 ·exact .inl rfl
 ·split
  ·split
   ·exact .inl rfl
   ·exact .inr rfl
  ·exact .inr rfl
theorem Eh:(bU k r).2.2.tr=k.tr∨(bU k r).2.2.tr=[]:=by
 unfold bU;split
 ·exact xV
 ·exact xV
theorem Oz (n:Nd) (o:Option Int):(pI k n o).2.2.tr=k.tr∨(pI k n o).2.2.tr=[]:=by
 cases o with
 | some r=>exact Eh
 | none =>
  show(if k.ac+1≤k.c then bU (aT k n) (aC k) else (0,9,k)).2.2.tr=k.tr∨(if k.ac+1≤k.c then bU (aT k n) (aC k) else (0,9,k)).2.2.tr=[];split
  ·have h:=Eh (k:=aT k n) (r:=(aC k:Int))
   rwa [show(aT k n).tr=k.tr from congrArg (fun t=>t.2.2.2.2) (oF k n)] at h
  ·exact .inl rfl
theorem OA (n:Nd):(aV k n).2.2.tr=k.tr∨(aV k n).2.2.tr=[]:=by
 unfold aV;split
 ·exact Oz n _
 ·exact .inl rfl
theorem OB:(dF k r).2.tr=k.tr∨(dF k r).2.tr=[]:=by
 unfold dF;split
 ·split
  ·exact .inl rfl
  ·exact .inr rfl
 ·exact .inr rfl
theorem IE (K:KI k) (h1:l+1<k.n) (m:Nat):(dR k l).2.hs.getD m 0=k.hs.getD m 0:=by
 obtain⟨x,y,h⟩:=zF K h1;unfold dR;have e1:k.ord.getD l 0=x:=by rw[List.getD_eq_getElem?_getD,h.hx];rfl
 have e2:k.ord.getD (l+1) 0=y:=by rw[List.getD_eq_getElem?_getD,h.hy];rfl
 rw[e1,e2];split
 ·rename_i hR;have t:=AR h K hR;have hp:=AU h K t;have hb:=t.bk;rw[List.append_nil] at hb;have hb':Bk (bW (aZ k (az k x y)) x y (az k x y)) (kids (az k x y)++[]) []:=by rw[List.append_nil];exact hb
  obtain⟨_,_,_,a4⟩:=nI _ _ _ hb' hp;show(fA (bW (aZ k (az k x y)) x y (az k x y)) (az k x y)).hs.getD m 0=_;rw[a4];exact t.hsd m
 ·rfl
theorem xW (k:KS) (l:Nat):(dR k l).2.tr=k.tr:=by
 unfold dR;split
 ·have h:=fun x y=>((iI (bW (aZ k (az k x y)) x y (az k x y)) (az k x y)).trans (lg _ x y _)).trans (kZ k (az k x y))
  exact congrArg (fun t=>t.2.2.2.2) (h _ _)
 ·rfl
theorem Rv (K:KI k) (z:Int) (m:Nat):(bL k z).2.hs.getD m 0=k.hs.getD m 0:=by
 unfold bL;split
 ·rfl
 ·rename_i h;have h1:=IE (l:=z.toNat) K (by omega) m;split
  ·exact h1
  ·exact h1
theorem IG (z:Int):(bL k z).2.tr=k.tr∨((bL k z).2.tr=k.tr++[z]∧0≤z∧z+1<k.n):=by
 unfold bL;split
 ·exact .inl rfl
 ·rename_i h;split
  ·exact .inr ⟨by show(dR k z.toNat).2.tr++[z]=_;rw[xW],by omega,by omega⟩
  ·exact .inl (xW k _)
theorem Rw (K:KI k) (ht:yS k) (m:Nat):(bO k).2.2.hs.getD m 0=k.hs.getD m 0:=by
 unfold bO;cases hl:k.tr.getLast? with
 | none=>rfl
 | some z =>
  have hz:=ht z (List.mem_of_getLast? hl);exact IE (l:=z.toNat) K (by omega) m
theorem II:(bO k).2.2.tr=k.tr∨(bO k).2.2.tr=k.tr.dropLast:=by
 unfold bO;cases hl:k.tr.getLast? with
 | none=>exact .inl rfl
 | some z=>exact .inr (by show(dR k z.toNat).2.tr.dropLast=_;rw[xW])
end
section
variable {k k':KS} {n:Nd} {r s:Int}
theorem tO (h:(bE k r).1≠0):(bE k r).2=k∧((bE k r).1=3∨(bE k r).1=8):=by
 unfold bE at h ⊢;by_cases ht:tk k.ls r=false
 ·rw[if_pos ht];exact⟨rfl,.inl rfl⟩
 ·rw[if_neg ht] at h ⊢;by_cases h1:1<r
  ·rw[if_pos h1] at h ⊢;by_cases h5:k.hs.getD r.toNat 0=65535
   ·rw[if_pos h5];exact⟨rfl,.inr rfl⟩
   ·rw[if_neg h5] at h;exact absurd rfl h
  ·rw[if_neg h1] at h;exact absurd rfl h
theorem zS (K:KI k) (n:Nd) (l0:0≤n.lo) (h0:0≤n.hi) :
  (aV k n=(0,iB k n,k)∧iB k n≠0∧qV k n=none)∨
  (∃ r,qV k n=some r∧(((bE k r).1=0∧aV k n=(r,0,(bE k r).2))∨((bE k r).1≠0∧aV k n=(0,(bE k r).1,k))))∨
  (qV k n=none∧iB k n=0∧fD k n=none∧k.ac+1≤k.c∧aV k n=((aC k:Int),0,{ jh (aT k n) (aC k) with tr:=[] }))∨
  (qV k n=none∧aV k n=(0,9,k)):=by
 by_cases hf:iB k n=0
 ·have hn:=AX hf l0 h0;cases hs:fD k n with
  | some r =>
   refine .inr (.inl ⟨r,by unfold qV;rw[if_pos hf,hs],?_⟩);have e:aV k n=bU k r:=by unfold aV;rw[if_pos hf,hs];rfl
   rw[e];by_cases he:(bE k r).1=0
   ·exact .inl ⟨he,by unfold bU;rw[if_pos he]⟩
   ·exact .inr ⟨he,by unfold bU;rw[if_neg he,(tO he).1]⟩
  | none =>
   have hfn:qV k n=none:=by unfold qV;rw[if_pos hf,hs]
   have e:aV k n=if k.ac+1≤k.c then bU (aT k n) (aC k) else (0,9,k):=by unfold aV;rw[if_pos hf,hs];rfl
   by_cases hc:k.ac+1≤k.c
   ·refine .inr (.inr (.inl ⟨hfn,hf,rfl,hc,?_⟩));rw[e,if_pos hc];unfold bU;rw[xz K hn hs hc,if_pos rfl]
   ·refine .inr (.inr (.inr ⟨hfn,?_⟩));rw[e,if_neg hc]
 ·exact .inl ⟨by unfold aV;rw[if_neg hf],hf,by unfold qV;rw[if_neg hf]⟩
theorem KC (K:KI k) (n:Nd) (l0:0≤n.lo) (h0:0≤n.hi) (hE:(aV k n).2.1≠0):(aV k n).2.2=k∧(((aV k n).2.1=9∨(aV k n).2.1=2∨(aV k n).2.1=4)→qV k n=none):=by
 rcases zS K n l0 h0 with⟨e,_,hf⟩ | ⟨r,hf,⟨_,e⟩ | ⟨he,e⟩⟩ | ⟨hf,_,_,_,e⟩ | ⟨hf,e⟩
 ·rw[e];exact⟨rfl,fun _=>hf⟩
 ·rw[e] at hE;exact absurd rfl hE
 ·rw[e];refine⟨rfl,fun h=>?_⟩;have h2:=(tO he).2;simp only at h;omega
 ·rw[e] at hE;exact absurd rfl hE
 ·rw[e];exact⟨rfl,fun _=>hf⟩
end
section
variable {k k':KS} {n m:Nd} {r q s:Int} {p:Int→Bool} {b b':Bool} {l x y i:Nat} {g:Fn} {H H':Fn→Prop} {ord ord':List Int}
theorem BD (hx:ord[l]?=some (x:Int)) (hy:ord[l+1]?=some (y:Int)):swp ord l=Pz ord l x y:=swp_get ord l hx hy
theorem Ei (h:l+1<ord.length):swp (swp ord l) l=ord:=by
 have e1:ord[l]?=some ord[l]:=List.getElem?_eq_getElem (by omega);have e2:ord[l+1]?=some ord[l+1]:=List.getElem?_eq_getElem h;refine List.ext_getElem? fun i=>?_
 have h2:l+1<(swp ord l).length:=by rw[eY];exact h
 have g:∀ (o:List Int) (hl:l+1<o.length) (j:Nat),(swp o l)[j]?=if j=l+1 then o[l]? else if j=l then o[l+1]? else o[j]?:=by
  intro o hl j;rw[swp_get o l (List.getElem?_eq_getElem (show l<o.length by omega)) (List.getElem?_eq_getElem hl),List.getElem?_set,List.length_set,List.getElem?_set];by_cases h1:l+1=j
  ·rw[if_pos h1,if_pos (by omega),if_pos h1.symm,List.getElem?_eq_getElem (show l<o.length by omega)]
  ·rw[if_neg h1,if_neg (show ¬ j=l+1 by omega)];by_cases h2:l=j
   ·rw[if_pos h2,if_pos (by omega),if_pos h2.symm,List.getElem?_eq_getElem hl]
   ·rw[if_neg h2,if_neg (show ¬ j=l by omega)]
 rw[g _ h2,g _ h,g _ h,g _ h];by_cases h3:i=l+1
 ·rw[if_pos h3,if_neg (by omega),if_pos rfl,h3]
 ·rw[if_neg h3];by_cases h4:i=l
  ·rw[if_pos h4,if_pos rfl,h4]
  ·rw[if_neg h4,if_neg h3,if_neg h4]
theorem Two.congr (hh:∀ f,H f↔H' f) (h:Two ord ord' H i g):Two ord ord' H' i g:=by
 have:H=H':=funext fun f=>propext (hh f)
 rw[← this];exact h
def TU (c n:Nat) (H:Fn→Prop):List Int→List Int→Prop
 | _,[]=>True
 | ord,l::t=>(∃ FL:List Fn,(∀ g,Two ord (swp ord l.toNat) H n g→g∈FL)∧FL.length+2≤c)∧TU c n H (swp ord l.toNat) t
theorem TU.congr {c n:Nat} (hh:∀ f,H f↔H' f) {t:List Int} (h:TU c n H ord t):TU c n H' ord t:=by
 have:H=H':=funext fun f=>propext (hh f)
 rw[← this];exact h
structure pQ (k k':KS):Prop where
 n:k'.n=k.n
 c:k'.c=k.c
 hs:∀ m,k'.hs.getD m 0=k.hs.getD m 0
 sem:∀ r,0≤r→(r≤1∨k.hs.getD r.toNat 0≠0)→∀ p,sem k'.L r p=sem k.L r p
theorem pQ.refl (k:KS):pQ k k:=⟨rfl,rfl,fun _=>rfl,fun _ _ _ _=>rfl⟩
theorem pQ.trans {k1 k2 k3:KS} (h:pQ k1 k2) (g:pQ k2 k3):pQ k1 k3 :=
 ⟨g.n.trans h.n,g.c.trans h.c,fun m=>(g.hs m).trans (h.hs m),fun r r0 hr p=>(g.sem r r0 (hr.imp id (fun hr=>by rw[h.hs];exact hr)) p).trans (h.sem r r0 hr p)⟩
theorem pQ.symm {k1 k2:KS} (h:pQ k1 k2):pQ k2 k1 :=
 ⟨h.n.symm,h.c.symm,fun m=>(h.hs m).symm,fun r r0 hr p=>(h.sem r r0 (hr.imp id (fun hr=>by rw[← h.hs];exact hr)) p).symm⟩
theorem pQ.tr (k:KS) (t:List Int):pQ k { k with tr:=t }:=⟨rfl,rfl,fun _=>rfl,fun _ _ _ _=>rfl⟩
theorem pQ.hf (h:pQ k k') (g:Fn):HF k' g↔HF k g:=by
 constructor
 ·rintro⟨r,r0,hr,rfl⟩;rw[h.hs] at hr;exact⟨r,r0,hr,funext fun p=>h.sem r r0 (.inr hr) p⟩
 ·rintro⟨r,r0,hr,rfl⟩;exact⟨r,r0,by rw[h.hs];exact hr,funext fun p=>(h.sem r r0 (.inr hr) p).symm⟩
theorem Tt (K:KI k) (r0:0≤r) (hr:r≤1∨k.hs.getD r.toNat 0≠0):Lf k r:=by
 rcases hr with hr | hr
 ·have:r=0∨r=1:=by omega
  rcases this with rfl | rfl
  ·exact Lf.zero K
  ·exact Lf.one K
 ·exact lG K r0 hr
theorem KD (h:XY k l x y) (K:KI k) (hR:gJ k x y=true):pQ k (dQ k l x y):=by
 have K':=xx h K hR;obtain⟨_,_,_,hh⟩:=Ia h K hR;have h1:=rO k l;have e1:k.ord.getD l 0=x:=by rw[List.getD_eq_getElem?_getD,h.hx];rfl
 have e2:k.ord.getD (l+1) 0=y:=by rw[List.getD_eq_getElem?_getD,h.hy];rfl
 unfold dR at h1;rw[e1,e2,if_pos hR] at h1;exact⟨h1.1,h1.2,hh,fun r r0 hr p=>JJ h K hR (Tt K r0 hr) (Tt K' r0 (hr.imp id (fun hr=>by rw[hh];exact hr)))⟩
theorem zT (h:XY k l x y) (K:KI k) (hR:gJ k x y=true):pQ k (dQ k l x y)∧(dQ k l x y).ord=swp k.ord l∧(dQ k l x y).tr=k.tr∧
  ∃ FL:List Fn,(∀ g,Two (swp k.ord l) k.ord (HF (dQ k l x y)) k.n g→g∈FL)∧FL.length+2≤k.c:=by
 have hq:=KD h K hR;refine⟨hq,by rw[JK,BD h.hx h.hy];rfl,?_,Dr k x y,fun g hg=>?_,(Du K).1 hR⟩
 ·have e:iw (fA (bW (aZ k (az k x y)) x y (az k x y)) (az k x y))=iw k:=((iI _ _).trans (lg _ x y _)).trans (kZ k _);exact congrArg (fun t=>t.2.2.2.2) e
 ·rw[Dt h K,← BD h.hx h.hy];exact(hg.congr hq.hf).swap
theorem KE (K:KI k) {l:Int} (l0:0≤l) (l1:l+1<k.n) {t:List Int} (ht:TU k.c k.n (HF k) k.ord (l::t)):∃ x y,XY k l.toNat x y∧gJ k x y=true∧dR k l.toNat=(true,dQ k l.toNat x y):=by
 obtain⟨x,y,h,hR⟩:=uu (l:=l.toNat) K (by omega);obtain⟨⟨FL,hF,hlen⟩,_⟩:=ht;have hroom:gJ k x y=true:=by
  rw[Du K];refine Nat.le_trans (Nat.add_le_add_right ?_ 2) hlen
  classical
  exact gK (FJ h K) (fun g hg=>hF g (by rw[BD h.hx h.hy];exact(Dt h K).1 hg))
 rcases hR with⟨_,e⟩ | ⟨e,_⟩
 ·exact⟨x,y,h,hroom,e⟩
 ·rw[hroom] at e;cases e
def zU (k:KS):Prop:=TU k.c k.n (HF k) k.ord k.tr.reverse
theorem rQ (h:k.tr=[]):zU k:=by
 unfold zU;rw[h];exact trivial
theorem tQ (K:KI k) (T:zU k) (l:Int):pQ k (bL k l).2∧zU (bL k l).2∧
  ((bL k l).1=0→(0≤l∧l≤(k.n:Int)-2)∧(bL k l).2.ord=swp k.ord l.toNat∧(bL k l).2.tr=k.tr++[l])∧((bL k l).1≠0→(bL k l).2=k):=by
 by_cases hl:l<0∨(k.n:Int)-2<l
 ·have e:bL k l=(1,k):=by unfold bL;rw[if_pos hl]
  rw[e];exact⟨pQ.refl k,T,fun h=>absurd (show(1:Int)=0 from h) (by decide),fun _=>rfl⟩
 ·obtain⟨x,y,h,⟨hR,e⟩ | ⟨hR,e⟩⟩:=uu (l:=l.toNat) K (by omega)
  ·have e:bL k l=(0,{ dQ k l.toNat x y with tr:=(dQ k l.toNat x y).tr++[l] }):=by unfold bL;rw[if_neg hl,e];rfl
   rw[e];obtain⟨d1,d2,d3,d4⟩:=zT h K hR;refine⟨d1.trans (pQ.tr _ _),?_,fun _=>⟨by omega,d2,by show(dQ k l.toNat x y).tr++[l]=_;rw[d3]⟩,fun h=>absurd rfl h⟩;show TU (dQ k l.toNat x y).c (dQ k l.toNat x y).n (HF (dQ k l.toNat x y)) (dQ k l.toNat x y).ord ((dQ k l.toNat x y).tr++[l]).reverse;rw[d1.c,d1.n,d2,d3,List.reverse_append];have hb:swp (swp k.ord l.toNat) l.toNat=k.ord:=Ei (by rw[K.lv.ol];omega);refine⟨?_,?_⟩
   ·rw[hb];exact d4
   ·rw[hb];exact T.congr (fun f=>(d1.hf f).symm)
  ·have e:bL k l=(9,k):=by unfold bL;rw[if_neg hl,e];rfl
   rw[e];exact⟨pQ.refl k,T,fun h=>absurd (show(9:Int)=0 from h) (by decide),fun _=>rfl⟩
theorem zV (K:KI k) (T:zU k) (hk:yS k):pQ k (bO k).2.2∧zU (bO k).2.2∧((bO k).2.1≠0→(bO k).2.2=k∧k.tr=[])∧
  (∀ t l,k.tr=t++[l]→(bO k).1=l∧(bO k).2.1=0∧(bO k).2.2.ord=swp k.ord l.toNat∧(bO k).2.2.tr=t):=by
 rcases List.eq_nil_or_concat k.tr with h0 | ⟨t,l,ht⟩
 ·have e:bO k=(0,12,k)∨bO k=(0,10,k)∨∃ E,bO k=(0,E,k):=by
   unfold bO;rw[h0];exact .inr (.inr ⟨_,rfl⟩)
  have e2:(bO k).2.2=k:=by
   unfold bO;rw[h0];rfl
  rw[e2];exact⟨pQ.refl k,T,fun _=>⟨rfl,h0⟩,fun t l he=>by rw[h0] at he;exact absurd he.symm (by simp)⟩
 ·rw[List.concat_eq_append] at ht;have hgl:k.tr.getLast?=some l:=by rw[ht];simp
  have hl:=hk l (by rw[ht];simp);have T':=T;unfold zU at T';rw[ht,List.reverse_append] at T';obtain⟨x,y,h,hR,e⟩:=KE K hl.1 hl.2 T';obtain⟨d1,d2,d3,d4⟩:=zT h K hR;have eu:bO k=(l,0,{ dQ k l.toNat x y with tr:=t }):=by
   unfold bO;rw[hgl];simp only;rw[e,d3,ht,List.dropLast_concat]
  rw[eu];refine⟨d1.trans (pQ.tr _ _),?_,fun h=>absurd rfl h,fun t' l' he=>?_⟩
  ·show TU (dQ k l.toNat x y).c (dQ k l.toNat x y).n (HF (dQ k l.toNat x y)) (dQ k l.toNat x y).ord t.reverse;rw[d1.c,d1.n,d2];exact T'.2.congr (fun f=>(d1.hf f).symm)
  ·rw[ht] at he;obtain⟨e1,e2⟩:=List.append_inj' he rfl;injection e2 with e2
   exact⟨e2,rfl,by rw[← e2];exact d2,e1⟩
theorem KF (K:KI k) (T:zU k) (n:Nd) (l0:0≤n.lo) (h0:0≤n.hi):zU (aV k n).2.2∧((aV k n).2.1≠0→(aV k n).2.2=k):=by
 by_cases hE:(aV k n).2.1=0
 ·refine⟨rQ ?_,fun h=>absurd hE h⟩;rcases zS K n l0 h0 with⟨e,h,_⟩ | ⟨r,_,⟨hk,e⟩ | ⟨he,e⟩⟩ | ⟨_,_,_,_,e⟩ | ⟨_,e⟩
  ·rw[e] at hE;exact absurd hE h
  ·rw[e];show(bE k r).2.tr=[];unfold bE at hk ⊢;split at hk
   ·cases hk
   ·rename_i hnt;rw[if_neg hnt];split at hk
    ·rename_i h1;rw[if_pos h1];split at hk
     ·cases hk
     ·rename_i h5;rw[if_neg h5]
    ·rename_i h1;rw[if_neg h1]
  ·rw[e] at hE;exact absurd hE he
  ·rw[e]
  ·rw[e] at hE;cases hE
 ·have h:=(KC K n l0 h0 hE).1;exact⟨by rw[h];exact T,fun _=>h⟩
theorem KG (T:zU k) (r:Int):zU (bE k r).2∧((bE k r).1≠0→(bE k r).2=k):=by
 by_cases hE:(bE k r).1=0
 ·refine⟨rQ ?_,fun h=>absurd hE h⟩;unfold bE at hE ⊢;split at hE
  ·cases hE
  ·rename_i hnt;rw[if_neg hnt];split at hE
   ·rename_i h1;rw[if_pos h1];split at hE
    ·cases hE
    ·rename_i h5;rw[if_neg h5]
   ·rename_i h1;rw[if_neg h1]
 ·have h:=(tO hE).1;exact⟨by rw[h];exact T,fun _=>h⟩
theorem KH (T:zU k) (r:Int):zU (dF k r).2∧((dF k r).1≠0→(dF k r).2=k):=by
 unfold dF;split
 ·split
  ·exact⟨T,fun _=>rfl⟩
  ·exact⟨rQ rfl,fun h=>absurd rfl h⟩
 ·exact⟨rQ rfl,fun h=>absurd rfl h⟩
end
section
variable {k k':KS} {n m:Nd} {r q s:Int} {p:Int→Bool} {b b':Bool} {l x y i:Nat} {g:Fn}
theorem Lf.sub (K:KI k) (K':KI k') (hs:∀ e∈k.L,e∈k'.L) (h:Lf k r):Lf k' r:=by
 rcases h.cases K with rfl | rfl | ⟨n,hn⟩
 ·exact Lf.zero K'
 ·exact Lf.one K'
 ·exact Lf.of K' (hs _ hn)
end
def BF (n c:Nat):RS:=⟨xu n c,[0,1],[0,0]⟩
theorem KJ (n c:Int) (w:World) (h:n<1∨64<n∨c<2∨1048576<c) :
  Calls Tryz.prog 40 #[.int .i64 n,.int .i64 c] w fun e w'=>e=.returned (.tuple #[.pointer none,.bool false])∧Same w w':=by
 have hnb:=M3 (w:=w) n c h;have HNB:=Lib.hid hnb;clear hnb h;go_enter Tryz.func40,Tryz.ntmps40;go_wp2_with (fail)
 refine HNB.out.mono ?_;rintro e w1 ⟨rfl,hs⟩;have HS:=Lib.hid hs;clear hs;go_wp2;go_ret2;exact⟨rfl,HS.out⟩
theorem OD (n c:Nat) (w:World) (h1:1≤n) (h2:n≤64) (h3:2≤c) (h4:c≤1048576) :
  Calls Tryz.prog 40 #[.int .i64 n,.int .i64 c] w fun e w'=>∃ xb q,e=.returned (.tuple #[.pointer (some ⟨xb,0,none⟩),.bool true])∧RW (fun b=>b<w.heap.size) w' xb (BF n c) q∧Same w w':=by
 have hnw:=VA n c h1 h2 h3 h4 w;have Wd:=Lib.hid hnw;clear hnw h1 h2 h3 h4;go_enter Tryz.func40,Tryz.ntmps40;go_wp2_with (fail)
 refine Wd.out.mono ?_;rintro e w1 ⟨kp,rfl,hk,hs⟩;have HK:=Lib.hid hk;have HS:=Lib.hid hs;clear hk hs;go_wp2;go_ret2;have hk:=HK.out;have hlow:=HS.out.size;have e1:(w1.alloc (.cells #[.int .u32 0,.int .u32 1] 28)).heap.size=w1.heap.size+1:=by simp
 have bA:=av.new w1 28 #[.int .u32 0,.int .u32 1];have sA:Same w1 (w1.alloc (.cells #[.int .u32 0,.int .u32 1] 28)):=(ah.refl _ _).alloc _;generalize w1.alloc (.cells #[.int .u32 0,.int .u32 1] 28)=wA at e1 bA sA ⊢;have e2:(wA.alloc (.cells #[.int .i64 0,.int .i64 0] 3)).heap.size=wA.heap.size+1:=by simp
 have bB:=av.new wA 3 #[.int .i64 0,.int .i64 0];have sB:Same wA (wA.alloc (.cells #[.int .i64 0,.int .i64 0] 3)):=(ah.refl _ _).alloc _;generalize wA.alloc (.cells #[.int .i64 0,.int .i64 0] 3)=wB at e2 bB sB ⊢;have bC:=av.new wB 78 #[.pointer (some ⟨kp,0,none⟩),.slice (some ⟨w1.heap.size,0,none⟩) 2 2,.slice (some ⟨w1.heap.size+1,0,none⟩) 2 2];have sC:Same wB (wB.alloc (.cells #[.pointer (some ⟨kp,0,none⟩),.slice (some ⟨w1.heap.size,0,none⟩) 2 2,.slice (some ⟨w1.heap.size+1,0,none⟩) 2 2] 78)):=(ah.refl _ _).alloc _;generalize wB.alloc (.cells #[.pointer (some ⟨kp,0,none⟩),.slice (some ⟨w1.heap.size,0,none⟩) 2 2,.slice (some ⟨w1.heap.size+1,0,none⟩) 2 2] 78)=wC at bC sC ⊢;rw[e1] at bB;rw[e2,e1] at bC;have sBC:=sB.trans sC (fun _ _ h=>h);have sAC:=sA.trans sBC (fun _ _ h=>h);refine⟨w1.heap.size+1+1,⟨kp,some ⟨w1.heap.size,0,none⟩,2,some ⟨w1.heap.size+1,0,none⟩,2⟩,rfl,⟨bC,?_,?_,?_,?_⟩,HS.out.trans sAC (fun _ _ h=>h)⟩
 ·refine(hk.also sAC (C:=fun b=>w1.heap.size≤b) (fun b hb=>hb)).sub (fun b hb=>?_);rcases hb with hb | rfl | ⟨y,hy,rfl⟩ | ⟨y,hy,rfl⟩
  ·exact .inl hb
  ·exact .inr (by omega)
  ·injection hy with hy
   subst hy;exact .inr (Nat.le_refl _)
  ·injection hy with hy
   subst hy;exact .inr (Nat.le_succ _)
 ·exact Own.zO (f:=fun x=>[rc x]) (fun _=>rfl) (bA.ag sBC id) [0,1] (by decide) rfl
 ·exact Own.zO (f:=dM) fo (bB.ag sC id) [0,0] (by decide) rfl
 ·rintro b (rfl | ⟨y,hy,rfl⟩ | ⟨y,hy,rfl⟩)
  ·omega
  ·injection hy with hy
   subst hy;show ¬ w1.heap.size<w.heap.size;omega
  ·injection hy with hy
   subst hy;show ¬ w1.heap.size+1<w.heap.size;omega
end Go.Proofs.YtiomgckodmecbaaGreat
