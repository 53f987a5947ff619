/- Contracts and plain laws, put together in one file. No condition. -/
import Derived.Test.YtiomgckodmecbaaGreatJKernelRoom9

set_option maxRecDepth 100000
set_option maxHeartbeats 32000000
namespace Go.Proofs.YtiomgckodmecbaaGreat
open Go.RowKit Go.Tk
section
variable {w w':World} {n:Nat} {t:Tb} {kp:Nat} {k:KS} {a:KA}
theorem EW (r:Int) (h0:r≠0) (h1:r≠1) (D:Nat) (hn:n≤16) (hD:D≤n) (N:Nd) (m:Nat) (hm:N.v=m) (hmn:m<n) (nl nh:Int) (zl zh:List Nat) (bl bh:Bool) (w:World) (hnq:∀ w',Same w w'→Calls Tryz.prog 20 #[.pointer (some ⟨kp,0,none⟩),.int .u32 r] w' fun e w''=>e=.returned (.tuple #[N.val,.int .i64 0])∧Same w' w'')
  (hlo:∀ w',Same w w'→Calls Tryz.prog 69 #[.pointer (some ⟨kp,0,none⟩),.int .u32 N.lo,.int .i64 n,.int .i64 ((D:Int)+1)] w' (fun e w''=>∃ A C,e=.returned (.tuple #[.agg #[.int .i64 nl,.slice A zl.length C],.bool bl])∧xN w' zl A C w''))
  (hhi:∀ w',Same w w'→Calls Tryz.prog 69 #[.pointer (some ⟨kp,0,none⟩),.int .u32 N.hi,.int .i64 n,.int .i64 ((D:Int)+1)] w' (fun e w''=>∃ A C,e=.returned (.tuple #[.agg #[.int .i64 nh,.slice A zh.length C],.bool bh])∧xN w' zh A C w''))
  (fl:bl=true→nl=n∧lU n zl∧Small zl) (fh:bh=true→nh=n∧lU n zh∧Small zh) :
  Calls Tryz.prog 69 #[.pointer (some ⟨kp,0,none⟩),.int .u32 r,.int .i64 n,.int .i64 D] w (kz w n (if bl&&bh then some (qJ n m zl zh) else none)):=by
 have b0:(r == 0)=false:=by simpa using h0
 have b1:(r == 1)=false:=by simpa using h1
 have c1:¬ n<D:=by omega
 have c3:¬ n≤m:=by omega
 have hw1:IntKind.i64.wrap ((D:Int)+1)=(D:Int)+1:=IntWalk.i64_in _ (by omega);unfold Nd.val at hnq;have P7:=Lib.hid hnq;have Bw:=Lib.hid hlo;have Dq:=Lib.hid hhi;have HFL:=Lib.hid fl;have HFH:=Lib.hid fh;clear hnq hlo hhi fl fh;cases bl <;> cases bh
 ·show Calls _ _ _ _ (kz w n none);go_enter Tryz.func69,Tryz.ntmps69;go_upto_region 1 with fail
  refine ai fun w1 hw1=>?_
  have hs1:Same w w1:=by rw[hw1];exact(ah.refl _ _).alloc _
  have hR:=ax.new w 108 #[.int .i64 0,.slice none 0 0];rw[← hw1] at hR;clear hw1;go_wp2_with (fail)
  refine(P7.out w1 hs1).mono ?_;rintro e w2 ⟨rfl,hs2⟩;go_upto_region 4 with fail
  refine ai fun w3 hw3=>?_
  have hX:ax w3 w2.heap.size 37 #[.int .i64 m,.int .u32 N.lo,.int .u32 N.hi]:=by
   rw[hw3];exact ax.new w2 _ _
  have hs3:Same w2 w3:=by rw[hw3];exact(ah.refl _ _).alloc _
  clear hw3;have fP:=hR.ag (hs2.trans hs3 (fun _ _ h=>h)) id;have HS:=Lib.hid (hs1.trans (hs2.trans hs3 (fun _ _ h=>h)) (fun _ _ h=>h));have r0:=fP.cell 0;have r1:=fP.cell 1;have rl:=fP.lt;have g0:=fP.free 0;have g1:=fP.free 1;have x0:=hX.cell 0;have x1:=hX.cell 1;have x2:=hX.cell 2;have xl:=hX.lt;simp at r0 r1 x0 x1 x2;have HR:=Lib.hid fP;have HX:=Lib.hid hX;have Ay:w.heap.size≠w2.heap.size:=by have:=hR.ag hs2 id |>.lt;omega
  clear hR fP hs1 hs2 hs3 hX;have Ug:=Lib.hid Ay;clear Ay;have HN0:=Lib.hid hn;obtain⟨nd,hnd⟩:∃ z,z=w2.heap.size:=⟨_,rfl⟩;rw[← hnd] at HX Ug;rw[← hnd] at x0 x1 x2 xl ⊢;clear hnd;go_wp2_with (fail)
  refine(Bw.out _ HS.out).mono ?_;rintro e w4 ⟨A4,C4,rfl,qB⟩;replace HR:=Lib.hid (HR.out.ag qB.2.2 id);replace HX:=Lib.hid (HX.out.ag qB.2.2 id);have nH:=Lib.hid qB.1;replace HS:=Lib.hid (HS.out.trans qB.2.2 (fun _ _ h=>h));clear qB;clear r0 r1 rl g0 g1;have r0:=HR.out.cell 0;have r1:=HR.out.cell 1;have rl:=HR.out.lt;have g0:=HR.out.free 0;have g1:=HR.out.free 1;simp at r0 r1;clear x0 x1 x2 xl;have x0:=HX.out.cell 0;have x1:=HX.out.cell 1;have x2:=HX.out.cell 2;have xl:=HX.out.lt;simp at x0 x1 x2;go_upto_region 7 with fail
  refine ai fun w5 lu=>?_
  have hB4:ax w5 w4.heap.size 108 #[.int .i64 nl,.slice A4 zl.length C4]:=by
   rw[lu];exact ax.new w4 _ _
  have hs5:Same w4 w5:=by rw[lu];exact(ah.refl _ _).alloc _
  clear lu;replace HR:=Lib.hid (HR.out.ag hs5 id);replace HX:=Lib.hid (HX.out.ag hs5 id);replace nH:=Lib.hid (nH.out.ag hs5 (fun _ _=>id));replace HS:=Lib.hid (HS.out.trans hs5 (fun _ _ h=>h));have hrx:w.heap.size<w4.heap.size:=rl;obtain⟨T4,xU⟩:∃ z,z=w4.heap.size:=⟨_,rfl⟩;rw[← xU] at hB4 hrx ⊢;have pO:=Lib.hid hB4;clear xU hs5 hB4;clear r0 r1 rl g0 g1;have r0:=HR.out.cell 0;have r1:=HR.out.cell 1;have rl:=HR.out.lt;have g0:=HR.out.free 0;have g1:=HR.out.free 1;simp at r0 r1;clear x0 x1 x2 xl;have x0:=HX.out.cell 0;have x1:=HX.out.cell 1;have x2:=HX.out.cell 2;have xl:=HX.out.lt;simp at x0 x1 x2;go_wp2_with (fail)
  refine(Dq.out _ HS.out).mono ?_;rintro e w6 ⟨A6,C6,rfl,kT⟩;replace HR:=Lib.hid (HR.out.ag kT.2.2 id);replace HX:=Lib.hid (HX.out.ag kT.2.2 id);replace pO:=Lib.hid (pO.out.ag kT.2.2 id);replace nH:=Lib.hid (nH.out.ag kT.2.2 (fun _ _=>id));have CL:=Lib.hid kT.1;replace HS:=Lib.hid (HS.out.trans kT.2.2 (fun _ _ h=>h));clear kT;clear r0 r1 rl g0 g1;have r0:=HR.out.cell 0;have r1:=HR.out.cell 1;have rl:=HR.out.lt;have g0:=HR.out.free 0;have g1:=HR.out.free 1;simp at r0 r1;clear x0 x1 x2 xl;have x0:=HX.out.cell 0;have x1:=HX.out.cell 1;have x2:=HX.out.cell 2;have xl:=HX.out.lt;simp at x0 x1 x2;go_upto_region 8 with fail
  refine ai fun w7 hw7=>?_
  have EX:ax w7 w6.heap.size 108 #[.int .i64 nh,.slice A6 zh.length C6]:=by
   rw[hw7];exact ax.new w6 _ _
  have hs7:Same w6 w7:=by rw[hw7];exact(ah.refl _ _).alloc _
  clear hw7;replace HR:=Lib.hid (HR.out.ag hs7 id);replace HX:=Lib.hid (HX.out.ag hs7 id);replace pO:=Lib.hid (pO.out.ag hs7 id);replace nH:=Lib.hid (nH.out.ag hs7 (fun _ _=>id));replace CL:=Lib.hid (CL.out.ag hs7 (fun _ _=>id));replace HS:=Lib.hid (HS.out.trans hs7 (fun _ _ h=>h));obtain⟨T6,M3⟩:∃ z,z=w6.heap.size:=⟨_,rfl⟩;rw[← M3] at EX ⊢;have Od:=Lib.hid EX;clear M3 hs7 EX;clear r0 r1 rl g0 g1;have r0:=HR.out.cell 0;have r1:=HR.out.cell 1;have rl:=HR.out.lt;have g0:=HR.out.free 0;have g1:=HR.out.free 1;simp at r0 r1;clear x0 x1 x2 xl;have x0:=HX.out.cell 0;have x1:=HX.out.cell 1;have x2:=HX.out.cell 2;have xl:=HX.out.lt;simp at x0 x1 x2;go_wp2;refine bE fun we bY=>?_
  have dx:ax we w.heap.size 108 #[.int .i64 0,.slice none 0 0]:=by
   rw[bY]
   have:=(HR.out.set 0 (.int .i64 0)).set 1 (.slice none 0 0)
   simpa using this
  have jl:Same w we:=by rw[bY];exact(HS.out.aj 0 _ (Nat.le_refl _)).aj 1 _ (Nat.le_refl _)
  have hr0:=dx.cell 0;have hr1:=dx.cell 1;simp at hr0 hr1;clear bY dx;refine bodyPost_ret (v:=.tuple #[.agg #[.int .i64 0,.slice none 0 0],.bool false]) (by simp[results,Tryz.results69,go_sem,hr0,hr1]) rfl ?_;exact⟨none,0,rfl,Own.nil _ _ _ _,aS _,jl⟩
 ·show Calls _ _ _ _ (kz w n none);go_enter Tryz.func69,Tryz.ntmps69;go_upto_region 1 with fail
  refine ai fun w1 hw1=>?_
  have hs1:Same w w1:=by rw[hw1];exact(ah.refl _ _).alloc _
  have hR:=ax.new w 108 #[.int .i64 0,.slice none 0 0];rw[← hw1] at hR;clear hw1;go_wp2_with (fail)
  refine(P7.out w1 hs1).mono ?_;rintro e w2 ⟨rfl,hs2⟩;go_upto_region 4 with fail
  refine ai fun w3 hw3=>?_
  have hX:ax w3 w2.heap.size 37 #[.int .i64 m,.int .u32 N.lo,.int .u32 N.hi]:=by
   rw[hw3];exact ax.new w2 _ _
  have hs3:Same w2 w3:=by rw[hw3];exact(ah.refl _ _).alloc _
  clear hw3;have fP:=hR.ag (hs2.trans hs3 (fun _ _ h=>h)) id;have HS:=Lib.hid (hs1.trans (hs2.trans hs3 (fun _ _ h=>h)) (fun _ _ h=>h));have r0:=fP.cell 0;have r1:=fP.cell 1;have rl:=fP.lt;have g0:=fP.free 0;have g1:=fP.free 1;have x0:=hX.cell 0;have x1:=hX.cell 1;have x2:=hX.cell 2;have xl:=hX.lt;simp at r0 r1 x0 x1 x2;have HR:=Lib.hid fP;have HX:=Lib.hid hX;have Ay:w.heap.size≠w2.heap.size:=by have:=hR.ag hs2 id |>.lt;omega
  clear hR fP hs1 hs2 hs3 hX;have Ug:=Lib.hid Ay;clear Ay;have HN0:=Lib.hid hn;obtain⟨nd,hnd⟩:∃ z,z=w2.heap.size:=⟨_,rfl⟩;rw[← hnd] at HX Ug;rw[← hnd] at x0 x1 x2 xl ⊢;clear hnd;go_wp2_with (fail)
  refine(Bw.out _ HS.out).mono ?_;rintro e w4 ⟨A4,C4,rfl,qB⟩;replace HR:=Lib.hid (HR.out.ag qB.2.2 id);replace HX:=Lib.hid (HX.out.ag qB.2.2 id);have nH:=Lib.hid qB.1;replace HS:=Lib.hid (HS.out.trans qB.2.2 (fun _ _ h=>h));clear qB;clear r0 r1 rl g0 g1;have r0:=HR.out.cell 0;have r1:=HR.out.cell 1;have rl:=HR.out.lt;have g0:=HR.out.free 0;have g1:=HR.out.free 1;simp at r0 r1;clear x0 x1 x2 xl;have x0:=HX.out.cell 0;have x1:=HX.out.cell 1;have x2:=HX.out.cell 2;have xl:=HX.out.lt;simp at x0 x1 x2;go_upto_region 7 with fail
  refine ai fun w5 lu=>?_
  have hB4:ax w5 w4.heap.size 108 #[.int .i64 nl,.slice A4 zl.length C4]:=by
   rw[lu];exact ax.new w4 _ _
  have hs5:Same w4 w5:=by rw[lu];exact(ah.refl _ _).alloc _
  clear lu;replace HR:=Lib.hid (HR.out.ag hs5 id);replace HX:=Lib.hid (HX.out.ag hs5 id);replace nH:=Lib.hid (nH.out.ag hs5 (fun _ _=>id));replace HS:=Lib.hid (HS.out.trans hs5 (fun _ _ h=>h));have hrx:w.heap.size<w4.heap.size:=rl;obtain⟨T4,xU⟩:∃ z,z=w4.heap.size:=⟨_,rfl⟩;rw[← xU] at hB4 hrx ⊢;have pO:=Lib.hid hB4;clear xU hs5 hB4;clear r0 r1 rl g0 g1;have r0:=HR.out.cell 0;have r1:=HR.out.cell 1;have rl:=HR.out.lt;have g0:=HR.out.free 0;have g1:=HR.out.free 1;simp at r0 r1;clear x0 x1 x2 xl;have x0:=HX.out.cell 0;have x1:=HX.out.cell 1;have x2:=HX.out.cell 2;have xl:=HX.out.lt;simp at x0 x1 x2;go_wp2_with (fail)
  refine(Dq.out _ HS.out).mono ?_;rintro e w6 ⟨A6,C6,rfl,kT⟩;replace HR:=Lib.hid (HR.out.ag kT.2.2 id);replace HX:=Lib.hid (HX.out.ag kT.2.2 id);replace pO:=Lib.hid (pO.out.ag kT.2.2 id);replace nH:=Lib.hid (nH.out.ag kT.2.2 (fun _ _=>id));have CL:=Lib.hid kT.1;replace HS:=Lib.hid (HS.out.trans kT.2.2 (fun _ _ h=>h));clear kT;clear r0 r1 rl g0 g1;have r0:=HR.out.cell 0;have r1:=HR.out.cell 1;have rl:=HR.out.lt;have g0:=HR.out.free 0;have g1:=HR.out.free 1;simp at r0 r1;clear x0 x1 x2 xl;have x0:=HX.out.cell 0;have x1:=HX.out.cell 1;have x2:=HX.out.cell 2;have xl:=HX.out.lt;simp at x0 x1 x2;go_upto_region 8 with fail
  refine ai fun w7 hw7=>?_
  have EX:ax w7 w6.heap.size 108 #[.int .i64 nh,.slice A6 zh.length C6]:=by
   rw[hw7];exact ax.new w6 _ _
  have hs7:Same w6 w7:=by rw[hw7];exact(ah.refl _ _).alloc _
  clear hw7;replace HR:=Lib.hid (HR.out.ag hs7 id);replace HX:=Lib.hid (HX.out.ag hs7 id);replace pO:=Lib.hid (pO.out.ag hs7 id);replace nH:=Lib.hid (nH.out.ag hs7 (fun _ _=>id));replace CL:=Lib.hid (CL.out.ag hs7 (fun _ _=>id));replace HS:=Lib.hid (HS.out.trans hs7 (fun _ _ h=>h));obtain⟨T6,M3⟩:∃ z,z=w6.heap.size:=⟨_,rfl⟩;rw[← M3] at EX ⊢;have Od:=Lib.hid EX;clear M3 hs7 EX;clear r0 r1 rl g0 g1;have r0:=HR.out.cell 0;have r1:=HR.out.cell 1;have rl:=HR.out.lt;have g0:=HR.out.free 0;have g1:=HR.out.free 1;simp at r0 r1;clear x0 x1 x2 xl;have x0:=HX.out.cell 0;have x1:=HX.out.cell 1;have x2:=HX.out.cell 2;have xl:=HX.out.lt;simp at x0 x1 x2;go_wp2;refine bE fun we bY=>?_
  have dx:ax we w.heap.size 108 #[.int .i64 0,.slice none 0 0]:=by
   rw[bY]
   have:=(HR.out.set 0 (.int .i64 0)).set 1 (.slice none 0 0)
   simpa using this
  have jl:Same w we:=by rw[bY];exact(HS.out.aj 0 _ (Nat.le_refl _)).aj 1 _ (Nat.le_refl _)
  have hr0:=dx.cell 0;have hr1:=dx.cell 1;simp at hr0 hr1;clear bY dx;refine bodyPost_ret (v:=.tuple #[.agg #[.int .i64 0,.slice none 0 0],.bool false]) (by simp[results,Tryz.results69,go_sem,hr0,hr1]) rfl ?_;exact⟨none,0,rfl,Own.nil _ _ _ _,aS _,jl⟩
 ·show Calls _ _ _ _ (kz w n none);go_enter Tryz.func69,Tryz.ntmps69;go_upto_region 1 with fail
  refine ai fun w1 hw1=>?_
  have hs1:Same w w1:=by rw[hw1];exact(ah.refl _ _).alloc _
  have hR:=ax.new w 108 #[.int .i64 0,.slice none 0 0];rw[← hw1] at hR;clear hw1;go_wp2_with (fail)
  refine(P7.out w1 hs1).mono ?_;rintro e w2 ⟨rfl,hs2⟩;go_upto_region 4 with fail
  refine ai fun w3 hw3=>?_
  have hX:ax w3 w2.heap.size 37 #[.int .i64 m,.int .u32 N.lo,.int .u32 N.hi]:=by
   rw[hw3];exact ax.new w2 _ _
  have hs3:Same w2 w3:=by rw[hw3];exact(ah.refl _ _).alloc _
  clear hw3;have fP:=hR.ag (hs2.trans hs3 (fun _ _ h=>h)) id;have HS:=Lib.hid (hs1.trans (hs2.trans hs3 (fun _ _ h=>h)) (fun _ _ h=>h));have r0:=fP.cell 0;have r1:=fP.cell 1;have rl:=fP.lt;have g0:=fP.free 0;have g1:=fP.free 1;have x0:=hX.cell 0;have x1:=hX.cell 1;have x2:=hX.cell 2;have xl:=hX.lt;simp at r0 r1 x0 x1 x2;have HR:=Lib.hid fP;have HX:=Lib.hid hX;have Ay:w.heap.size≠w2.heap.size:=by have:=hR.ag hs2 id |>.lt;omega
  clear hR fP hs1 hs2 hs3 hX;have Ug:=Lib.hid Ay;clear Ay;have HN0:=Lib.hid hn;obtain⟨nd,hnd⟩:∃ z,z=w2.heap.size:=⟨_,rfl⟩;rw[← hnd] at HX Ug;rw[← hnd] at x0 x1 x2 xl ⊢;clear hnd;go_wp2_with (fail)
  refine(Bw.out _ HS.out).mono ?_;rintro e w4 ⟨A4,C4,rfl,qB⟩;replace HR:=Lib.hid (HR.out.ag qB.2.2 id);replace HX:=Lib.hid (HX.out.ag qB.2.2 id);have nH:=Lib.hid qB.1;replace HS:=Lib.hid (HS.out.trans qB.2.2 (fun _ _ h=>h));clear qB;clear r0 r1 rl g0 g1;have r0:=HR.out.cell 0;have r1:=HR.out.cell 1;have rl:=HR.out.lt;have g0:=HR.out.free 0;have g1:=HR.out.free 1;simp at r0 r1;clear x0 x1 x2 xl;have x0:=HX.out.cell 0;have x1:=HX.out.cell 1;have x2:=HX.out.cell 2;have xl:=HX.out.lt;simp at x0 x1 x2;go_upto_region 7 with fail
  refine ai fun w5 lu=>?_
  have hB4:ax w5 w4.heap.size 108 #[.int .i64 nl,.slice A4 zl.length C4]:=by
   rw[lu];exact ax.new w4 _ _
  have hs5:Same w4 w5:=by rw[lu];exact(ah.refl _ _).alloc _
  clear lu;replace HR:=Lib.hid (HR.out.ag hs5 id);replace HX:=Lib.hid (HX.out.ag hs5 id);replace nH:=Lib.hid (nH.out.ag hs5 (fun _ _=>id));replace HS:=Lib.hid (HS.out.trans hs5 (fun _ _ h=>h));have hrx:w.heap.size<w4.heap.size:=rl;obtain⟨T4,xU⟩:∃ z,z=w4.heap.size:=⟨_,rfl⟩;rw[← xU] at hB4 hrx ⊢;have pO:=Lib.hid hB4;clear xU hs5 hB4;clear r0 r1 rl g0 g1;have r0:=HR.out.cell 0;have r1:=HR.out.cell 1;have rl:=HR.out.lt;have g0:=HR.out.free 0;have g1:=HR.out.free 1;simp at r0 r1;clear x0 x1 x2 xl;have x0:=HX.out.cell 0;have x1:=HX.out.cell 1;have x2:=HX.out.cell 2;have xl:=HX.out.lt;simp at x0 x1 x2;go_wp2_with (fail)
  refine(Dq.out _ HS.out).mono ?_;rintro e w6 ⟨A6,C6,rfl,kT⟩;replace HR:=Lib.hid (HR.out.ag kT.2.2 id);replace HX:=Lib.hid (HX.out.ag kT.2.2 id);replace pO:=Lib.hid (pO.out.ag kT.2.2 id);replace nH:=Lib.hid (nH.out.ag kT.2.2 (fun _ _=>id));have CL:=Lib.hid kT.1;replace HS:=Lib.hid (HS.out.trans kT.2.2 (fun _ _ h=>h));clear kT;clear r0 r1 rl g0 g1;have r0:=HR.out.cell 0;have r1:=HR.out.cell 1;have rl:=HR.out.lt;have g0:=HR.out.free 0;have g1:=HR.out.free 1;simp at r0 r1;clear x0 x1 x2 xl;have x0:=HX.out.cell 0;have x1:=HX.out.cell 1;have x2:=HX.out.cell 2;have xl:=HX.out.lt;simp at x0 x1 x2;go_upto_region 8 with fail
  refine ai fun w7 hw7=>?_
  have EX:ax w7 w6.heap.size 108 #[.int .i64 nh,.slice A6 zh.length C6]:=by
   rw[hw7];exact ax.new w6 _ _
  have hs7:Same w6 w7:=by rw[hw7];exact(ah.refl _ _).alloc _
  clear hw7;replace HR:=Lib.hid (HR.out.ag hs7 id);replace HX:=Lib.hid (HX.out.ag hs7 id);replace pO:=Lib.hid (pO.out.ag hs7 id);replace nH:=Lib.hid (nH.out.ag hs7 (fun _ _=>id));replace CL:=Lib.hid (CL.out.ag hs7 (fun _ _=>id));replace HS:=Lib.hid (HS.out.trans hs7 (fun _ _ h=>h));obtain⟨T6,M3⟩:∃ z,z=w6.heap.size:=⟨_,rfl⟩;rw[← M3] at EX ⊢;have Od:=Lib.hid EX;clear M3 hs7 EX;clear r0 r1 rl g0 g1;have r0:=HR.out.cell 0;have r1:=HR.out.cell 1;have rl:=HR.out.lt;have g0:=HR.out.free 0;have g1:=HR.out.free 1;simp at r0 r1;clear x0 x1 x2 xl;have x0:=HX.out.cell 0;have x1:=HX.out.cell 1;have x2:=HX.out.cell 2;have xl:=HX.out.lt;simp at x0 x1 x2;go_wp2;refine bE fun we bY=>?_
  have dx:ax we w.heap.size 108 #[.int .i64 0,.slice none 0 0]:=by
   rw[bY]
   have:=(HR.out.set 0 (.int .i64 0)).set 1 (.slice none 0 0)
   simpa using this
  have jl:Same w we:=by rw[bY];exact(HS.out.aj 0 _ (Nat.le_refl _)).aj 1 _ (Nat.le_refl _)
  have hr0:=dx.cell 0;have hr1:=dx.cell 1;simp at hr0 hr1;clear bY dx;refine bodyPost_ret (v:=.tuple #[.agg #[.int .i64 0,.slice none 0 0],.bool false]) (by simp[results,Tryz.results69,go_sem,hr0,hr1]) rfl ?_;exact⟨none,0,rfl,Own.nil _ _ _ _,aS _,jl⟩
 ·show Calls _ _ _ _ (kz w n (some (qJ n m zl zh)));go_enter Tryz.func69,Tryz.ntmps69;go_upto_region 1 with fail
  refine ai fun w1 hw1=>?_
  have hs1:Same w w1:=by rw[hw1];exact(ah.refl _ _).alloc _
  have hR:=ax.new w 108 #[.int .i64 0,.slice none 0 0];rw[← hw1] at hR;clear hw1;go_wp2_with (fail)
  refine(P7.out w1 hs1).mono ?_;rintro e w2 ⟨rfl,hs2⟩;go_upto_region 4 with fail
  refine ai fun w3 hw3=>?_
  have hX:ax w3 w2.heap.size 37 #[.int .i64 m,.int .u32 N.lo,.int .u32 N.hi]:=by
   rw[hw3];exact ax.new w2 _ _
  have hs3:Same w2 w3:=by rw[hw3];exact(ah.refl _ _).alloc _
  clear hw3;have fP:=hR.ag (hs2.trans hs3 (fun _ _ h=>h)) id;have HS:=Lib.hid (hs1.trans (hs2.trans hs3 (fun _ _ h=>h)) (fun _ _ h=>h));have r0:=fP.cell 0;have r1:=fP.cell 1;have rl:=fP.lt;have g0:=fP.free 0;have g1:=fP.free 1;have x0:=hX.cell 0;have x1:=hX.cell 1;have x2:=hX.cell 2;have xl:=hX.lt;simp at r0 r1 x0 x1 x2;have HR:=Lib.hid fP;have HX:=Lib.hid hX;have Ay:w.heap.size≠w2.heap.size:=by have:=hR.ag hs2 id |>.lt;omega
  clear hR fP hs1 hs2 hs3 hX;have Ug:=Lib.hid Ay;clear Ay;have HN0:=Lib.hid hn;obtain⟨nd,hnd⟩:∃ z,z=w2.heap.size:=⟨_,rfl⟩;rw[← hnd] at HX Ug;rw[← hnd] at x0 x1 x2 xl ⊢;clear hnd;go_wp2_with (fail)
  refine(Bw.out _ HS.out).mono ?_;rintro e w4 ⟨A4,C4,rfl,qB⟩;replace HR:=Lib.hid (HR.out.ag qB.2.2 id);replace HX:=Lib.hid (HX.out.ag qB.2.2 id);have nH:=Lib.hid qB.1;replace HS:=Lib.hid (HS.out.trans qB.2.2 (fun _ _ h=>h));clear qB;clear r0 r1 rl g0 g1;have r0:=HR.out.cell 0;have r1:=HR.out.cell 1;have rl:=HR.out.lt;have g0:=HR.out.free 0;have g1:=HR.out.free 1;simp at r0 r1;clear x0 x1 x2 xl;have x0:=HX.out.cell 0;have x1:=HX.out.cell 1;have x2:=HX.out.cell 2;have xl:=HX.out.lt;simp at x0 x1 x2;go_upto_region 7 with fail
  refine ai fun w5 lu=>?_
  have hB4:ax w5 w4.heap.size 108 #[.int .i64 nl,.slice A4 zl.length C4]:=by
   rw[lu];exact ax.new w4 _ _
  have hs5:Same w4 w5:=by rw[lu];exact(ah.refl _ _).alloc _
  clear lu;replace HR:=Lib.hid (HR.out.ag hs5 id);replace HX:=Lib.hid (HX.out.ag hs5 id);replace nH:=Lib.hid (nH.out.ag hs5 (fun _ _=>id));replace HS:=Lib.hid (HS.out.trans hs5 (fun _ _ h=>h));have hrx:w.heap.size<w4.heap.size:=rl;obtain⟨T4,xU⟩:∃ z,z=w4.heap.size:=⟨_,rfl⟩;rw[← xU] at hB4 hrx ⊢;have pO:=Lib.hid hB4;clear xU hs5 hB4;clear r0 r1 rl g0 g1;have r0:=HR.out.cell 0;have r1:=HR.out.cell 1;have rl:=HR.out.lt;have g0:=HR.out.free 0;have g1:=HR.out.free 1;simp at r0 r1;clear x0 x1 x2 xl;have x0:=HX.out.cell 0;have x1:=HX.out.cell 1;have x2:=HX.out.cell 2;have xl:=HX.out.lt;simp at x0 x1 x2;go_wp2_with (fail)
  refine(Dq.out _ HS.out).mono ?_;rintro e w6 ⟨A6,C6,rfl,kT⟩;replace HR:=Lib.hid (HR.out.ag kT.2.2 id);replace HX:=Lib.hid (HX.out.ag kT.2.2 id);replace pO:=Lib.hid (pO.out.ag kT.2.2 id);replace nH:=Lib.hid (nH.out.ag kT.2.2 (fun _ _=>id));have CL:=Lib.hid kT.1;replace HS:=Lib.hid (HS.out.trans kT.2.2 (fun _ _ h=>h));clear kT;clear r0 r1 rl g0 g1;have r0:=HR.out.cell 0;have r1:=HR.out.cell 1;have rl:=HR.out.lt;have g0:=HR.out.free 0;have g1:=HR.out.free 1;simp at r0 r1;clear x0 x1 x2 xl;have x0:=HX.out.cell 0;have x1:=HX.out.cell 1;have x2:=HX.out.cell 2;have xl:=HX.out.lt;simp at x0 x1 x2;go_upto_region 8 with fail
  refine ai fun w7 hw7=>?_
  have EX:ax w7 w6.heap.size 108 #[.int .i64 nh,.slice A6 zh.length C6]:=by
   rw[hw7];exact ax.new w6 _ _
  have hs7:Same w6 w7:=by rw[hw7];exact(ah.refl _ _).alloc _
  clear hw7;replace HR:=Lib.hid (HR.out.ag hs7 id);replace HX:=Lib.hid (HX.out.ag hs7 id);replace pO:=Lib.hid (pO.out.ag hs7 id);replace nH:=Lib.hid (nH.out.ag hs7 (fun _ _=>id));replace CL:=Lib.hid (CL.out.ag hs7 (fun _ _=>id));replace HS:=Lib.hid (HS.out.trans hs7 (fun _ _ h=>h));obtain⟨T6,M3⟩:∃ z,z=w6.heap.size:=⟨_,rfl⟩;rw[← M3] at EX ⊢;have Od:=Lib.hid EX;clear M3 hs7 EX;clear r0 r1 rl g0 g1;have r0:=HR.out.cell 0;have r1:=HR.out.cell 1;have rl:=HR.out.lt;have g0:=HR.out.free 0;have g1:=HR.out.free 1;simp at r0 r1;clear x0 x1 x2 xl;have x0:=HX.out.cell 0;have x1:=HX.out.cell 1;have x2:=HX.out.cell 2;have xl:=HX.out.lt;simp at x0 x1 x2;obtain⟨e1,hx⟩:=HFL.out (by first | trivial | rfl);obtain⟨e2,hy⟩:=HFH.out (by first | trivial | rfl);rw[e1] at pO;rw[e2] at Od;rw[e1,e2];have hif:=fun w' (hs:Same w7 w')=>GG (w:=w') (lo:=⟨n,A4,C4,zl⟩) (hi:=⟨n,A6,C6,zh⟩) m hmn ⟨rfl,nH.out.ag hs (fun _ _=>id),hx.1,hx.2⟩ ⟨rfl,CL.out.ag hs (fun _ _=>id),hy.1,hy.2⟩
  unfold Tb.val at hif;simp only at hif;have HIF:=Lib.hid hif;have y0:=pO.out.cell 0;have y1:=pO.out.cell 1;have yl:=pO.out.lt;have z0:=Od.out.cell 0;have z1:=Od.out.cell 1;have zl:=Od.out.lt;simp at y0 y1 z0 z1;clear hx hy hif e1 e2;go_wp2_with (fail)
  refine(HIF.out _ (ah.refl _ _)).mono ?_;rintro e w8 ⟨A8,C8,rfl,TI⟩;replace HR:=Lib.hid (HR.out.ag TI.2.2 id);have Rp:=Lib.hid TI.1;have HF8:=Lib.hid (show bQ w.heap.size A8 from fun b hb=>Nat.le_trans HS.out.size (TI.2.1 b hb));replace HS:=Lib.hid (HS.out.trans TI.2.2 (fun _ _ h=>h));clear TI x0 x1 x2 xl y0 y1 yl z0 z1 zl;clear r0 r1 rl g0 g1;have r0:=HR.out.cell 0;have r1:=HR.out.cell 1;have rl:=HR.out.lt;have g0:=HR.out.free 0;have g1:=HR.out.free 1;simp at r0 r1;obtain⟨z,hz⟩:∃ z,qJ n m zl zh=z:=⟨_,rfl⟩;rw[hz] at Rp ⊢;have HZ:=Lib.hid hz;clear hz;go_wp2;refine bE fun we bY=>?_
  have dx:ax we w.heap.size 108 #[.int .i64 n,.slice A8 z.length C8]:=by
   rw[bY]
   have:=(HR.out.set 0 (.int .i64 n)).set 1 (.slice A8 z.length C8)
   simpa using this
  have CG:∀ x,A8=some x→x.block≠w.heap.size:=fun x hx h=>Rp.out.av HR.out (by decide) x hx h
  have xP:dN we A8 z.length C8 z:=by
   rw[bY];exact(Own.far (p:=⟨w.heap.size,0,none⟩) Rp.out CG _).far (p:=⟨w.heap.size,1,none⟩) CG _
  have jl:Same w we:=by rw[bY];exact(HS.out.aj 0 _ (Nat.le_refl _)).aj 1 _ (Nat.le_refl _)
  have hr0:=dx.cell 0;have hr1:=dx.cell 1;simp at hr0 hr1;clear bY dx;refine bodyPost_ret (v:=.tuple #[.agg #[.int .i64 n,.slice A8 z.length C8],.bool true]) (by simp[results,Tryz.results69,go_sem,hr0,hr1]) rfl ?_;have hz:=HZ.out;subst hz;exact⟨A8,C8,rfl,xP,HF8.out,jl⟩
end
section
variable {w w':World} {n:Nat} {kp:Nat} {k:KS} {a:KA}
theorem wH (ls:List Pl) (r:Int):fQ ls r=0∨fQ ls r=3:=by
 unfold fQ;split
 ·exact .inl rfl
 ·exact .inr rfl
theorem Jz (hk:KW w kp k a) (hg:Uf k) (hn:n≤16):∀ (f:Nat) (r:Int),0≤r→r<4294967296→f≤n+1→∀ w',Same w w'→
  Calls Tryz.prog 69 #[.pointer (some ⟨kp,0,none⟩),.int .u32 r,.int .i64 n,.int .i64 ((n+1-f:Nat):Int)] w' (kz w' n (iX k n f r)):=by
 intro f
 induction f with
 | zero =>
  intro r h0 h1 hf w' hs;unfold iX;by_cases hr:r=0∨r=1
  ·rw[if_pos hr];exact sU r hr hn _ w'
  ·rw[if_neg hr];exact yR r (fun h=>hr (.inl h)) (fun h=>hr (.inr h)) (n+1-0) (aI k.ls r) (fQ k.ls r) w' (fun w2 hs2=>lG ((hk.same hs).same hs2) r h0 h1) (wH _ _) (.inr (.inl (by omega)))
 | succ f ih =>
  intro r h0 h1 hf w' hs;unfold iX;by_cases hr:r=0∨r=1
  ·rw[if_pos hr];exact sU r hr hn _ w'
  ·rw[if_neg hr];by_cases hb:fQ k.ls r≠0∨(aI k.ls r).v<0∨(n:Int)≤(aI k.ls r).v
   ·rw[if_pos hb];exact yR r (fun h=>hr (.inl h)) (fun h=>hr (.inr h)) (n+1-(f+1)) (aI k.ls r) (fQ k.ls r) w' (fun w2 hs2=>lG ((hk.same hs).same hs2) r h0 h1) (wH _ _) (hb.imp id .inr)
   ·rw[if_neg hb];have he:fQ k.ls r=0:=by
     rcases wH k.ls r with h | h
     ·exact h
     ·exact absurd (.inl (by rw[h] <;> decide)) hb
    obtain⟨l0,l1,g0,g1⟩:=hg r h0 h1 he;obtain⟨m,hm⟩:=Int.eq_ofNat_of_zero_le (show 0≤(aI k.ls r).v by omega);have hD:((n+1-(f+1):Nat):Int)+1=((n+1-f:Nat):Int):=by omega
    have key:∀ c:Int,0≤c→c<4294967296→∀ w2,Same w' w2→Calls Tryz.prog 69 #[.pointer (some ⟨kp,0,none⟩),.int .u32 c,.int .i64 n,.int .i64 (((n+1-(f+1):Nat):Int)+1)] w2 (fun e w''=>∃ A C,e=.returned (.tuple #[.agg #[.int .i64 (if (iX k n f c).isSome then (n:Int) else 0),.slice A ((iX k n f c).getD []).length C],.bool (iX k n f c).isSome])∧xN w2 ((iX k n f c).getD []) A C w''):=by
     intro c c0 c1 w2 hs2;rw[hD];exact ih c c0 c1 (by omega) w2 (hs.trans hs2 (fun _ _ h=>h))
    have ag:∀ c:Int,(iX k n f c).isSome=true→(if (iX k n f c).isSome then (n:Int) else 0)=n∧lU n ((iX k n f c).getD [])∧Small ((iX k n f c).getD []):=by
     intro c hc;cases ht:iX k n f c with
     | none=>rw[ht] at hc;cases hc
     | some z=>exact⟨rfl,yQ hn f c z ht⟩
    have:=EW (kp:=kp) r (fun h=>hr (.inl h)) (fun h=>hr (.inr h)) (n+1-(f+1)) hn (by omega) (aI k.ls r) m hm (by omega) _ _ _ _ _ _ w' (fun w2 hs2=>by
      have:=lG ((hk.same hs).same hs2) r h0 h1
      rwa [he] at this) (key _ l0 l1) (key _ g0 g1) (ag _) (ag _)
    rw[hm,Int.toNat_natCast];cases h1:iX k n f (aI k.ls r).lo <;> cases h2:iX k n f (aI k.ls r).hi <;> rw[h1,h2] at this <;> exact this
end
def fM (p:PS):PS:={ countP p with dead:=(List.range p.ts.length).map fun i:Nat=>!bW (countP p) i }
def M4 (p:PS):Bool :=
 decide (p.k.ord=p.m.ord)&&decide (p.k.tr.length=p.m.tr.length)&&decide ((p.k.ac:Int)-2=((qD p.m).length:Nat))&&
 ((List.range p.m.n).all fun v:Nat=>decide (N9 p.k v=mR p.m v)&&decide (zJ p.k v=dU p.m.ord v)&&decide (tH p.k v=0))&&
 decide ((aU p.k).length=p.m.held.length)&&
 ((List.range (aU p.k).length).all fun i:Nat =>
  match iX p.k p.m.n (p.m.n+1) ((aU p.k).getD i 0) with
  | none=>false
  | some t=>!decide (iq p.m.held t=0)&&decide (p.k.hs.getD ((aU p.k).getD i 0).toNat 0=iq p.m.held t)&&(decide (i=0)||decide ((aU p.k).getD (i-1) 0<(aU p.k).getD i 0)))&&
 ((List.range p.ts.length).all fun i:Nat=>!bW (fM p) i||(decide (iX p.k p.m.n (p.m.n+1) (p.refs.getD i 0)=some (p.ts.getD i []))&&
  ((List.range i).all fun j:Nat=>!bW (fM p) j||(decide (p.ts.getD i []=p.ts.getD j []) == decide (p.refs.getD i 0=p.refs.getD j 0)))))
structure M5 (p:PS):Prop where
 ord:p.k.ord=p.m.ord
 tr:p.k.tr.length=p.m.tr.length
 live:(p.k.ac:Int)-2=((qD p.m).length:Nat)
 wd:∀ v:Nat,v<p.m.n→N9 p.k v=mR p.m v∧zJ p.k v=dU p.m.ord v∧tH p.k v=0
 rl:(aU p.k).length=p.m.held.length
 rt:∀ i:Nat,i<(aU p.k).length→∃ t,iX p.k p.m.n (p.m.n+1) ((aU p.k).getD i 0)=some t∧¬ iq p.m.held t=0∧p.k.hs.getD ((aU p.k).getD i 0).toNat 0=iq p.m.held t∧(i=0∨(aU p.k).getD (i-1) 0<(aU p.k).getD i 0)
 fn:∀ i:Nat,i<p.ts.length→bW (fM p) i=true→iX p.k p.m.n (p.m.n+1) (p.refs.getD i 0)=some (p.ts.getD i [])∧
  ∀ j:Nat,j<i→bW (fM p) j=true→decide (p.ts.getD i []=p.ts.getD j [])=decide (p.refs.getD i 0=p.refs.getD j 0)
theorem EY {p:PS} (h:M4 p=true):M5 p:=by
 unfold M4 at h;simp only[Bool.and_eq_true,Bool.or_eq_true,decide_eq_true_eq,List.all_eq_true,List.mem_range,beq_iff_eq,Bool.not_eq_true'] at h;obtain⟨⟨⟨⟨⟨⟨h1,h2⟩,h3⟩,h4⟩,h5⟩,h6⟩,h7⟩:=h;refine⟨h1,h2,h3,fun v hv=>⟨(h4 v hv).1.1,(h4 v hv).1.2,(h4 v hv).2⟩,h5,?_,?_⟩
 ·intro i hi;have h:=h6 i hi;split at h
  ·cases h
  ·rename_i t ht;simp only[Bool.and_eq_true,Bool.or_eq_true,decide_eq_true_eq,Bool.not_eq_true',decide_eq_false_iff_not] at h;exact⟨t,ht,h.1.1,h.1.2,h.2⟩
 ·intro i hi hl;rcases h7 i hi with h | h
  ·rw[h] at hl;cases hl
  ·refine⟨h.1,fun j hj hlj=>?_⟩;rcases h.2 j hj with g | g
   ·rw[g] at hlj;cases hlj
   ·exact g
theorem EZ {w:World} {n:Nat} {A:Option Addr} {C:Nat} {ts:List Tb} (ho:Go.Tk.Own w 108 2 Tb.cells A ts.length C ts) (ht:∀ t∈ts,TW w n t) {i:Nat} {t:Tb} (hi:ts[i]?=some t):∃ b,A=some ⟨b,0,none⟩∧b<w.heap.size∧w.cell? ⟨b,i*2,none⟩=some (.int .i64 n)∧w.cell? ⟨b,i*2+1,none⟩=some (.slice t.A t.ws.length t.C):=by
 obtain⟨b,h1,h2,h3⟩:=ho.get Tb.ak hi;have h4:=h3 0 (by omega);simp only[Tb.cells,(ht t (List.mem_of_getElem? hi)).N] at h4;exact⟨b,h1,h2,by simpa using h4,h3 1 (by omega)⟩
theorem oK {ls:List Pl} {r:Int} (h:tk ls r=true) (h0:0≤r):r<ls.length:=by
 unfold tk at h;split at h
 ·rename_i p hp
  have:=(List.getElem?_eq_some_iff.1 hp).1
  omega
 ·cases h
theorem Uh {k:KS} (K:KI k):Uf k:=by
 intro r h0 h1 hE;have ht:tk k.ls r=true:=by
  unfold fQ at hE;split at hE
  ·assumption
  ·cases hE
 have hll:k.ls.length≤1048576:=Nat.le_trans K.bk.lim K.bk.cM;rcases(K.live h0).1 ht with rfl | rfl | ⟨n,hn⟩
 ·unfold aI;rw[show((0:Int).toNat)=0 from rfl,K.bk.l0];decide
 ·unfold aI;rw[show((1:Int).toNat)=1 from rfl,K.bk.l1];decide
 ·obtain⟨_,hg,_⟩:=K.mem' hn;rw[hg];obtain⟨_,_,c1,c2,c3,c4,_⟩:=K.bk.fo n r hn
  have:=oK c3 c1
  have:=oK c4 c2
  omega
theorem sV {k:KS} (K:KI k):∀ x∈aU k,0≤x∧x<4294967296:=by
 intro x hx;unfold aU dG at hx;rw[List.mem_map] at hx;obtain⟨i,hi,rfl⟩:=hx;have h1:=List.mem_range.1 (List.mem_filter.1 hi).1;have h2:k.ls.length≤1048576:=Nat.le_trans K.bk.lim K.bk.cM;have h3:=K.bk.Eb;have h4:=K.bk.ul;omega
theorem rX {k:KS} (K:KI k):(aU k).length≤1048576:=by
 have h1:=sO k.hs k.hs.length;have h2:k.ls.length≤1048576:=Nat.le_trans K.bk.lim K.bk.cM;have h3:=K.bk.Eb;have h4:=K.bk.ul;unfold aU;omega
theorem M6 (k:KS) (r:Int):(dD k r).n=k.n∧(dD k r).c=k.c:=by
 unfold dD;split
 ·exact⟨Eo k r,congrArg (fun t=>t.2.1) (gQ k r)⟩
 ·exact⟨rfl,rfl⟩
theorem iO (k:KS) (r:Int):(aP k r).2.n=k.n∧(aP k r).2.c=k.c:=by
 unfold aP;split
 ·exact⟨rfl,rfl⟩
 ·split
  ·split
   ·exact⟨rfl,rfl⟩
   ·exact M6 k r
  ·exact⟨rfl,rfl⟩
theorem P8 (k:KS) (r:Int):(jh k r).n=k.n∧(jh k r).c=k.c:=⟨mK _ k _,congrArg (fun t=>t.2.1) (iJ _ k _)⟩
theorem E5 (k:KS) (r:Int):(dO k r).n=k.n∧(dO k r).c=k.c:=by
 unfold dO;split
 ·exact P8 _ r
 ·exact⟨rfl,rfl⟩
theorem jP (k:KS) (r:Int):(aD k r).2.n=k.n∧(aD k r).2.c=k.c:=by
 unfold aD;split
 ·split
  ·exact⟨rfl,rfl⟩
  ·exact E5 k r
 ·exact⟨rfl,rfl⟩
theorem CO (k:KS) (r:Int):(bI k r).2.2.n=k.n∧(bI k r).2.2.c=k.c:=by
 unfold bI;split
 ·exact iO k r
 ·exact iO k r
theorem M7 (k:KS) (n:Nd) (o:Option Int):(mM k n o).2.2.n=k.n∧(mM k n o).2.2.c=k.c:=by
 cases o with
 | some r=>exact CO k r
 | none =>
  show(if k.ac+1≤k.c then bI (aH k n) (au k) else (0,9,k)).2.2.n=k.n∧(if k.ac+1≤k.c then bI (aH k n) (au k) else (0,9,k)).2.2.c=k.c;by_cases hc:k.ac+1≤k.c
  ·rw[if_pos hc];have h:=CO (aH k n) (au k);exact⟨h.1.trans (ug k n),h.2.trans (congrArg (fun t=>t.2.1) (jw k n))⟩
  ·rw[if_neg hc];exact⟨rfl,rfl⟩
theorem mZ (k:KS) (n:Nd):(ay k n).2.2.n=k.n∧(ay k n).2.2.c=k.c:=by
 unfold ay;split
 ·exact M7 k n _
 ·exact⟨rfl,rfl⟩
theorem wI (k:KS) (l:Nat):(eO k l).2.n=k.n∧(eO k l).2.c=k.c:=by
 refine⟨zD k l,?_⟩;unfold eO;split
 ·show(gP (dI (bD k _) _ _ _) _).c=k.c;have h:=fun x y=>((kJ (dI (bD k (aB k x y)) x y (aB k x y)) (aB k x y)).trans (nL _ x y _)).trans (nK k (aB k x y))
  exact congrArg (fun t=>t.2.1) (h _ _)
 ·rfl
theorem wJ (k:KS) (l:Int):(eX k l).2.n=k.n∧(eX k l).2.c=k.c:=by
 unfold eX;split
 ·exact⟨rfl,rfl⟩
 ·split
  ·exact wI k _
  ·exact wI k _
theorem wK (k:KS):(fK k).2.2.n=k.n∧(fK k).2.2.c=k.c:=by
 unfold fK;split
 ·exact⟨rfl,rfl⟩
 ·exact wI k _
structure KR (B:Nat→Prop) (w:World) (kp:Nat) (k:KS):Prop where
 ex:∃ a,KW w kp k a∧∀ b,gX k.n kp a b→¬ B b
 ki:KI k
def CP (k:KS):Prop:=∀ l∈k.tr,0≤l∧l+1<k.n
section
variable {w w':World} {B B':Nat→Prop} {kp:Nat} {k:KS}
theorem Up.kept {g:Nat} {ty:TypeId} {cs:Array Value} (h:Up B w w') (hb:ax w g ty cs) (hg:B g):ax w' g ty cs:=hb.ag h (fun hn=>hn hg)
theorem KR.same (h:KR B w kp k) (hs:Same w w'):KR B w' kp k:=by
 obtain⟨a,h1,h2⟩:=h.ex;exact⟨⟨a,h1.same hs,h2⟩,h.ki⟩
theorem KR.sub (h:KR B w kp k) (hs:∀ b,B' b→B b):KR B' w kp k:=by
 obtain⟨a,h1,h2⟩:=h.ex;exact⟨⟨a,h1,fun b hb hn=>h2 b hb (hs b hn)⟩,h.ki⟩
theorem KR.also (h:KR B w kp k) (hs:Same w w') {C:Nat→Prop} (hC:∀ b,C b→w.heap.size≤b):KR (fun b=>B b∨C b) w' kp k:=by
 obtain⟨a,h1,h2⟩:=h.ex;refine⟨⟨a,h1.same hs,fun b hb hn=>?_⟩,h.ki⟩;rcases hn with hn | hn
 ·exact h2 b hb hn
 ·have:=hC b hn
  have:=h1.lt hb
  omega
theorem KR.ag (h:KR B w kp k) {S:Nat→Prop} (hf:ah S w w') (hS:∀ b,S b→B b):KR B w' kp k:=by
 obtain⟨a,h1,h2⟩:=h.ex;exact⟨⟨a,h1.ag hf (fun b hb hn=>h2 b hb (hS b hn)),h2⟩,h.ki⟩
theorem KR.go {a a':KA} {k':KS} (h2:∀ b,gX k.n kp a b→¬ B b) (hk:KW w' kp k' a') (hg:cZ k.n kp w a w' a') (hn:k'.n=k.n) (K:KI k') (hB:∀ b,B b→b<w.heap.size):KR B w' kp k'∧Up B w w':=by
 refine⟨⟨⟨a',hk,fun b hb hn'=>?_⟩,K⟩,hg.ag.mono (fun b _ hb=>h2 b hb)⟩;rw[hn] at hb;rcases hg.fp b hb with h1 | h1
 ·exact h2 b h1 hn'
 ·have:=hB b hn'
  omega
theorem P9 (h:KR B w kp k) (hB:∀ b,B b→b<w.heap.size) (n:Nd) (l0:0≤n.lo) (l1:n.lo<4294967296) (h0:0≤n.hi) (h1:n.hi<4294967296) :
  Calls Tryz.prog 14 #[.pointer (some ⟨kp,0,none⟩),.int .i64 n.v,.int .u32 n.lo,.int .u32 n.hi] w fun e w'=>e=.returned (.tuple #[.int .u32 (ay k n).1,.int .i64 (ay k n).2.1])∧KR B w' kp (ay k n).2.2∧Up B w w':=by
 obtain⟨a,k1,k2⟩:=h.ex;refine(yE k1 h.ki.bk h.ki.lv n l0 l1 h0 h1).mono ?_;rintro e w' ⟨he,a',hk,hg⟩;exact⟨he,KR.go k2 hk hg (mZ k n).1 (qj h.ki l0 h0) hB⟩
theorem Qa (h:KR B w kp k) (hB:∀ b,B b→b<w.heap.size) (r:Int) (h0:0≤r) (h1:r<4294967296) :
  Calls Tryz.prog 15 #[.pointer (some ⟨kp,0,none⟩),.int .u32 r] w fun e w'=>e=.returned (.int .i64 (aP k r).1)∧KR B w' kp (aP k r).2∧Up B w w':=by
 obtain⟨a,k1,k2⟩:=h.ex;refine(rH k1 h.ki.bk r h0 h1).mono ?_;rintro e w' ⟨he,a',hk,hg⟩;exact⟨he,KR.go k2 hk hg (iO k r).1 (zK h.ki h0) hB⟩
theorem GI (h:KR B w kp k) (hB:∀ b,B b→b<w.heap.size) (r:Int) (h0:0≤r) (h1:r<4294967296) :
  Calls Tryz.prog 19 #[.pointer (some ⟨kp,0,none⟩),.int .u32 r] w fun e w'=>e=.returned (.int .i64 (aD k r).1)∧KR B w' kp (aD k r).2∧Up B w w':=by
 obtain⟨a,k1,k2⟩:=h.ex;refine(yC k1 h.ki.bk r h0 h1).mono ?_;rintro e w' ⟨he,a',hk,hg⟩;exact⟨he,KR.go k2 hk hg (jP k r).1 (lH h.ki h0) hB⟩
theorem Qb (h:KR B w kp k) (hB:∀ b,B b→b<w.heap.size) (l:Int) (htr:(k.tr.length+1)*8≤140737488355328) :
  Calls Tryz.prog 24 #[.pointer (some ⟨kp,0,none⟩),.int .i64 l] w fun e w'=>e=.returned (.int .i64 (eX k l).1)∧KR B w' kp (eX k l).2∧Up B w w':=by
 obtain⟨a,k1,k2⟩:=h.ex;refine(yF k1 h.ki.bk.n64 l (fun a0 a1=>?_) htr).mono ?_
 ·obtain⟨x,y,hxy⟩:=BN (l:=l.toNat) h.ki (by omega);exact⟨x,y,zC hxy h.ki⟩
 ·rintro e w' ⟨he,a',hk,hg⟩;exact⟨he,KR.go k2 hk hg (wJ k l).1 (Gp h.ki l) hB⟩
theorem Qc (h:KR B w kp k) (hB:∀ b,B b→b<w.heap.size) (ht:CP k) (htr:k.tr.length≤1000000000000000000) :
  Calls Tryz.prog 26 #[.pointer (some ⟨kp,0,none⟩)] w fun e w'=>e=.returned (.tuple #[.int .i64 (fK k).1,.int .i64 (fK k).2.1])∧KR B w' kp (fK k).2.2∧Up B w w':=by
 obtain⟨a,k1,k2⟩:=h.ex;have hl:∀ l,k.tr.getLast?=some l→0≤l∧l+1<k.n:=fun l hl=>ht l (List.mem_of_getLast? hl)
 refine(IQ k1 (fun l h1=>?_) htr).mono ?_
 ·obtain⟨g0,g1⟩:=hl l h1;have h64:=h.ki.bk.n64;obtain⟨x,y,hxy⟩:=BN (l:=l.toNat) h.ki (by omega);exact⟨g0,by omega,x,y,zC hxy h.ki⟩
 ·rintro e w' ⟨he,a',hk,hg⟩;exact⟨he,KR.go k2 hk hg (wK k).1 (Pb h.ki hl) hB⟩
theorem Ad (h:KR B w kp k) (r:Int) (h0:0≤r) (h1:r<4294967296) :
  Calls Tryz.prog 20 #[.pointer (some ⟨kp,0,none⟩),.int .u32 r] w fun e w'=>e=.returned (.tuple #[(aI k.ls r).val,.int .i64 (fQ k.ls r)])∧Same w w':=by
 obtain⟨a,k1,k2⟩:=h.ex;exact lG k1 r h0 h1
theorem Qd (h:KR B w kp k) (r:Int) (h0:0≤r) (h1:r<4294967296) :
  Calls Tryz.prog 17 #[.pointer (some ⟨kp,0,none⟩),.int .u32 r] w fun e w'=>e=.returned (.int .i64 (k.hs.getD r.toNat 0))∧w=w':=by
 obtain⟨a,k1,k2⟩:=h.ex;exact ru k1 r h0 h1 (fun x hx=>⟨(h.ki.bk.hol _ x hx).1,(h.ki.bk.hol _ x hx).2.1⟩)
theorem KI.acl (K:KI k):k.ac≤1048576:=by
 have h1:=K.bk.gK;have h2:=K.bk.lim;have h3:=K.bk.cM;omega
theorem nR (h:KR B w kp k):Calls Tryz.prog 18 #[.pointer (some ⟨kp,0,none⟩)] w fun e w'=>e=.returned (.int .i64 ((k.ac:Int)-2))∧w=w':=by
 obtain⟨a,k1,k2⟩:=h.ex;exact oW k1 (by have:=h.ki.acl;omega)
theorem Qe (h:KR B w kp k):Calls Tryz.prog 29 #[.pointer (some ⟨kp,0,none⟩)] w fun e w'=>e=.returned (.int .i64 k.n)∧w=w':=by
 obtain⟨a,k1,k2⟩:=h.ex;exact IW k1
theorem M8 (h:KR B w kp k):Calls Tryz.prog 30 #[.pointer (some ⟨kp,0,none⟩)] w fun e w'=>e=.returned (.int .i64 k.c)∧w=w':=by
 obtain⟨a,k1,k2⟩:=h.ex;exact Ey k1
theorem KI.M9 (K:KI k):k.ord.length=k.n:=K.lv.ol
theorem Nc (h:KR B w kp k):Calls Tryz.prog 25 #[.pointer (some ⟨kp,0,none⟩)] w (IU w k.ord):=by
 obtain⟨a,k1,k2⟩:=h.ex;exact vQ k1 (by rw[h.ki.M9];exact h.ki.bk.n64)
theorem Nf (h:KR B w kp k):Calls Tryz.prog 22 #[.pointer (some ⟨kp,0,none⟩)] w fun e w'=>∃ A C,e=.returned (.slice A (aU k).length C)∧Row1 w' 28 rc A (aU k).length C (aU k)∧bQ w.heap.size A∧Same w w':=by
 obtain⟨a,k1,k2⟩:=h.ex;exact vP k1 h.ki.bk
theorem Ng (h:KR B w kp k) (v:Int):Calls Tryz.prog 32 #[.pointer (some ⟨kp,0,none⟩),.int .i64 v] w fun e w'=>e=.returned (.tuple #[.int .i64 (N9 k v),.int .i64 (tH k v)])∧w=w':=by
 obtain⟨a,k1,k2⟩:=h.ex;exact vT k1 v
theorem Nh (h:KR B w kp k) (v:Int):Calls Tryz.prog 33 #[.pointer (some ⟨kp,0,none⟩),.int .i64 v] w fun e w'=>e=.returned (.tuple #[.int .i64 (zJ k v),.int .i64 (tH k v)])∧w=w':=by
 obtain⟨a,k1,k2⟩:=h.ex;exact vS k1 h.ki.lv v
theorem Ui (n c:Nat) (h1:1≤n) (h2:n≤64) (h3:2≤c) (h4:c≤1048576) (w:World):Calls Tryz.prog 13 #[.int .i64 n,.int .i64 c] w fun e w'=>∃ kp,e=.returned (.tuple #[.pointer (some ⟨kp,0,none⟩),.int .i64 0])∧KR (fun b=>b<w.heap.size) w' kp (xK n c)∧Same w w':=by
 refine(BK n c h1 h2 h3 h4).mono ?_;rintro e w' ⟨kp,a,he,hk,hs,hf⟩;exact⟨kp,he,⟨⟨a,hk,fun b hb hn=>by have:=hf b hb;omega⟩,LU h1 h2 h3 h4⟩,hs⟩
end
section
variable {w w':World} {B:Nat→Prop} {kp:Nat} {k k':KS} {r E:Int}
end
def JA (l:List Int) (r:Int):Int:=if r∈l then (l.idxOf r:Nat) else -1
theorem GJ {l:List Int} {r:Int}:0≤JA l r↔r∈l:=by
 unfold JA;by_cases h:r∈l
 ·rw[if_pos h];exact⟨fun _=>h,fun _=>Int.natCast_nonneg _⟩
 ·rw[if_neg h];exact⟨fun h1=>by omega,fun h1=>absurd h1 h⟩
theorem CQ {l:List Int} {r:Int} {i:Nat} (hi:l[i]?=some r) (h:r∉l.take i):l.idxOf r=i:=by
 induction l generalizing i with
 | nil=>simp at hi
 | cons x l ih =>
  cases i with
  | zero =>
   simp at hi;subst hi;simp
  | succ i =>
   simp only[List.getElem?_cons_succ] at hi;simp only[List.take_succ_cons,List.mem_cons,not_or] at h;have hne:¬ x=r:=fun e=>h.1 e.symm
   have hne':(x == r)=false:=by simpa using hne
   rw[List.idxOf_cons,hne',ih hi h.2];rfl
section
variable {w w':World}
theorem GK (A:Option Addr) (n C:Nat) (xs:List Int) (r:Int) (w:World) (h:Sl w 1 (fun x=>[rc x]) A n xs) (hb:n≤1000000000000000) :
  Calls Tryz.prog 23 #[.slice A n C,.int .u32 r] w fun e w'=>e=.returned (.int .i64 (JA xs r))∧w=w':=by
 obtain rfl:=h.len;have H:=Lib.hid h;obtain⟨R,hR⟩:∃ z,JA xs r=z:=⟨_,rfl⟩;rw[hR];have HR:=Lib.hid hR;clear h hR;go_enter Tryz.func23,Tryz.ntmps23;go_wp2_with (fail)
 go_loopw [5] (fun s wr=>∃ i:Nat,i≤xs.length∧s=.int .i64 i∧r∉xs.take i∧w=wr) (fun s _=>xs.length-(intOf s).toNat)
 case atStart=>exact⟨0,by omega,rfl,by simp,rfl⟩
 case round =>
  obtain⟨i,hi,rfl,hn,rfl⟩:=hrel;have HN:=Lib.hid hn;clear hn;by_cases hlt:i<xs.length
  ·have hI:(i:Int)<(xs.length:Int):=by omega
   obtain⟨x,hx⟩:∃ x,xs[i]?=some x:=⟨_,List.getElem?_eq_getElem hlt⟩;obtain⟨b,off,hA,hbl,hc⟩:=H.out.get i x hx;have c0:w.cell? ⟨b,off+i,none⟩=some (.int .u32 x):=by
    have:=hc 0 (by omega)
    simpa [rc] using this
   have HX:=Lib.hid hx
   have HM:Hid (r∈xs.take (i+1)↔r∈xs.take i∨r=x):=Lib.hid (by
    rw[List.take_add_one,hx]
    simp)
   clear hx hc;subst hA;by_cases he:x=r
   ·subst he;have hres:JA xs x=i:=by
     unfold JA;rw[if_pos (List.mem_of_getElem? HX.out),CQ HX.out HN.out]
    have hR:R=i:=HR.out.symm.trans hres;subst hR;clear hres;go_wp2;go_ret;exact⟨rfl,rfl⟩
   ·go_wp2;go_roundw
    case rel=>exact⟨i+1,by omega,by go_num,fun h=>(HM.out.1 h).elim HN.out (fun h=>he h.symm),trivial⟩
    case measure=>simp[intOf] <;> omega
  ·obtain rfl:i=xs.length:=by omega
   have hI:¬ ((xs.length:Nat):Int)<(xs.length:Int):=by omega
   have hres:JA xs r = -1:=by
    unfold JA
    have:=HN.out
    rw[List.take_length] at this;rw[if_neg this]
   have hR:R = -1:=HR.out.symm.trans hres;subst hR;clear hres;go_wp2;go_ret;exact⟨rfl,rfl⟩
end
def iP (k:KS) (r:Int):Prop:=0≤r∧tk k.ls r=true
structure pg (k:KS) (list st l:List Int):Prop where
 nd:l.Nodup
 ll:∀ r∈l,iP k r
 la:∀ r∈st,iP k r
 top:∀ r,(r=0∨r=1∨r∈list)→r∈l∨r∈st
 fo:∀ r∈l,0≤(aI k.ls r).v→((aI k.ls r).lo∈l∨(aI k.ls r).lo∈st)∧((aI k.ls r).hi∈l∨(aI k.ls r).hi∈st)
 len:st.length≤list.length+2+2*l.length
structure E8 (k:KS) (list l:List Int):Prop where
 nd:l.Nodup
 ll:∀ r∈l,iP k r
 top:∀ r,(r=0∨r=1∨r∈list)→r∈l
 fo:∀ r∈l,0≤(aI k.ls r).v→(aI k.ls r).lo∈l∧(aI k.ls r).hi∈l
section
variable {k:KS} {list st l:List Int} {r:Int}
theorem pg.out (h:pg k list [] l):E8 k list l :=
 ⟨h.nd,h.ll,fun r hr=>(h.top r hr).elim id (fun h=>by cases h),fun r hr hv=>⟨(h.fo r hr hv).1.elim id (fun h=>by cases h),(h.fo r hr hv).2.elim id (fun h=>by cases h)⟩⟩
theorem pg.skip (h:pg k list (r::st) l) (hr:r∈l):pg k list st l:=by
 have e:∀ x,(x∈l∨x∈r::st)→x∈l∨x∈st:=fun x hx=>by
  rcases hx with hx | hx
  ·exact .inl hx
  ·rcases List.mem_cons.1 hx with rfl | hx
   ·exact .inl hr
   ·exact .inr hx
 exact⟨h.nd,h.ll,fun x hx=>h.la x (List.mem_cons_of_mem _ hx),fun x hx=>e x (h.top x hx),fun x hx hv=>⟨e _ (h.fo x hx hv).1,e _ (h.fo x hx hv).2⟩,by have:=h.len;simp only[List.length_cons] at this;omega⟩
theorem pg.leaf (h:pg k list (r::st) l) (hr:r∉l) (hv:¬ 0≤(aI k.ls r).v):pg k list st (l++[r]):=by
 have e:∀ x,(x∈l∨x∈r::st)→x∈l++[r]∨x∈st:=fun x hx=>by
  rcases hx with hx | hx
  ·exact .inl (List.mem_append_left _ hx)
  ·rcases List.mem_cons.1 hx with rfl | hx
   ·exact .inl (by simp)
   ·exact .inr hx
 refine⟨?_,fun x hx=>?_,fun x hx=>h.la x (List.mem_cons_of_mem _ hx),fun x hx=>e x (h.top x hx),fun x hx hv'=>?_,?_⟩
 ·rw[List.nodup_append];exact⟨h.nd,by simp,fun a ha b hb=>by simp at hb;subst hb;exact fun e=>hr (e ▸ ha)⟩
 ·rcases List.mem_append.1 hx with hx | hx
  ·exact h.ll x hx
  ·simp at hx;subst hx;exact h.la x (List.mem_cons_self ..)
 ·rcases List.mem_append.1 hx with hx | hx
  ·exact⟨e _ (h.fo x hx hv').1,e _ (h.fo x hx hv').2⟩
  ·simp at hx;subst hx;exact absurd hv' hv
 ·have:=h.len
  simp at this ⊢;omega
theorem pg.node (h:pg k list (r::st) l) (hr:r∉l) (h1:iP k (aI k.ls r).lo) (h2:iP k (aI k.ls r).hi):pg k list ((aI k.ls r).hi::(aI k.ls r).lo::st) (l++[r]):=by
 have e:∀ x,(x∈l∨x∈r::st)→x∈l++[r]∨x∈(aI k.ls r).hi::(aI k.ls r).lo::st:=fun x hx=>by
  rcases hx with hx | hx
  ·exact .inl (List.mem_append_left _ hx)
  ·rcases List.mem_cons.1 hx with rfl | hx
   ·exact .inl (by simp)
   ·exact .inr (by simp[hx])
 refine⟨?_,fun x hx=>?_,fun x hx=>?_,fun x hx=>e x (h.top x hx),fun x hx hv'=>?_,?_⟩
 ·rw[List.nodup_append];exact⟨h.nd,by simp,fun a ha b hb=>by simp at hb;subst hb;exact fun e=>hr (e ▸ ha)⟩
 ·rcases List.mem_append.1 hx with hx | hx
  ·exact h.ll x hx
  ·simp at hx;subst hx;exact h.la x (List.mem_cons_self ..)
 ·simp only[List.mem_cons] at hx;rcases hx with rfl | rfl | hx
  ·exact h2
  ·exact h1
  ·exact h.la x (List.mem_cons_of_mem _ hx)
 ·rcases List.mem_append.1 hx with hx | hx
  ·exact⟨e _ (h.fo x hx hv').1,e _ (h.fo x hx hv').2⟩
  ·simp at hx;subst hx;exact⟨.inr (by simp),.inr (by simp)⟩
 ·have:=h.len
  simp at this ⊢;omega
theorem E9 (K:KI k) (hl:∀ r∈list,iP k r):pg k list (list.reverse++[1,0]) []:=by
 refine⟨List.nodup_nil,fun r hr=>(by cases hr),fun r hr=>?_,fun r hr=>.inr ?_,fun r hr=>(by cases hr),by simp⟩
 ·rcases List.mem_append.1 hr with h | h
  ·exact hl r (List.mem_reverse.1 h)
  ·simp only[List.mem_cons,List.not_mem_nil,or_false] at h;rcases h with rfl | rfl
   ·exact⟨by omega,(K.live (by omega)).2 (.inr (.inl rfl))⟩
   ·exact⟨by omega,(K.live (by omega)).2 (.inl rfl)⟩
 ·rcases hr with rfl | rfl | hr
  ·simp
  ·simp
  ·exact List.mem_append_left _ (List.mem_reverse.2 hr)
theorem rY (h:l.Nodup) (hl:∀ r∈l,iP k r):l.length≤k.ls.length:=by
 have h1:=gm (m:=(List.range k.ls.length).map fun (i:Nat)=>(i:Int)) h (fun r hr=>by
  obtain⟨h0,h1⟩:=hl r hr;have h2:=oK h1 h0;rw[List.mem_map]
  exact⟨r.toNat,List.mem_range.2 (by omega),by omega⟩)
 simpa using h1
theorem KI.YQ (K:KI k):k.ls.length≤1048576:=Nat.le_trans K.bk.lim K.bk.cM
theorem wL (K:KI k) (hr:iP k r) (hv:0≤(aI k.ls r).v):iP k (aI k.ls r).lo∧iP k (aI k.ls r).hi:=by
 rcases(K.live hr.1).1 hr.2 with h | h | ⟨n,hn⟩
 ·rw[K.const (.inl h)] at hv;omega
 ·rw[K.const (.inr h)] at hv;omega
 ·obtain⟨_,hg,_⟩:=K.mem' hn;rw[hg];obtain⟨_,_,c1,c2,c3,c4,_⟩:=K.bk.fo n r hn;exact⟨⟨c1,c3⟩,c2,c4⟩
end
section
variable {w w':World} {B:Nat→Prop} {kp:Nat} {k:KS}
theorem JB (hK:KR B w kp k) (A:Option Addr) (n C:Nat) (list:List Int) (hA:Sl w 1 (fun x=>[rc x]) A n list) (hl:∀ r∈list,iP k r) (hb:n≤2000000) :
  Calls Tryz.prog 21 #[.pointer (some ⟨kp,0,none⟩),.slice A n C] w fun e w'=>∃ A' C' l,e=.returned (.tuple #[.slice A' l.length C',.bool true])∧E8 k list l∧Row1 w' 28 rc A' l.length C' l∧bQ w.heap.size A'∧Same w w':=by
 obtain rfl:=hA.len;have HK:=Lib.hid hK;have HA:=Lib.hid hA;have HL:=Lib.hid hl;have hls:=hK.ki.YQ;clear hK hA hl;go_enter Tryz.func21,Tryz.ntmps21;go_upto_region 2 with fail
 refine ai fun w1 hw1=>?_
 have hs1:Same w w1:=by rw[hw1];exact(ah.refl _ _).alloc _
 have hT:=Go.Tk.Own.lit w 28 (fun x=>[rc x]) (fun _=>rfl) [0,1] (by simp[maxLen]) (cs:=#[.int .u32 0,.int .u32 1]) (by simp[rc]);have hT1:Row1 w1 28 rc (some ⟨w.heap.size,0,none⟩) 2 2 [0,1]:=by rw[hw1];exact hT
 clear hw1 hT;refine aV 2 ?_;simp only[List.take_succ_cons,List.take_zero,List.drop_succ_cons,List.drop_zero];repeat (any_goals (first | go_big_quiet_step (fail) | quiet_step (fail)))
 refine wpQuiet_nil ?_;refine wpList_plain rfl fun K hK=>?_
 refine Own.bT (.tmp 12) (.tmp 13) _ rfl Tryz.underlying40 iE rfl (by omega) rfl hT1 (fun _=>rfl) list A C rfl (fun hne=>Sl.source (m:=1) (f:=fun x=>[rc x]) (fun _=>rfl) Nat.one_pos (HA.out.same hs1) hne) (fun y _=>by simp[rc,Value.oneCell']) (by simp[maxLen] <;> omega) (by simp <;> omega) ?_;intro A4 C4 w4 hO4 hg4 Jq;refine hK _ _ ?_;clear hK K
 have hs4:Same w w4:=hs1.grown hg4 (fun g hg=>.inr (by
  obtain⟨x,hx,hxb⟩:=af.1 hg;injection hx with hx
  subst hx
  exact Nat.le_of_eq hxb))
 have hf4:bQ w.heap.size A4:=fun b hb=>(Jq b hb).elim (fun h=>by
  obtain⟨x,hx,hxb⟩:=h;injection hx with hx
  subst hx;exact Nat.le_of_eq hxb) (fun h=>by
  have:=hs1.size
  omega)
 obtain⟨st,hst⟩:∃ z,list.reverse++[1,0]=z:=⟨_,rfl⟩;have hI:=E9 HK.out.ki HL.out;rw[hst] at hI;have e:[0,1]++list=st.reverse:=by rw[← hst];simp
 have e2:([0,1]++list).length=st.length:=by rw[e,List.length_reverse]
 rw[e2];rw[e,List.length_reverse] at hO4;have iB:=Lib.hid hs4;have UO:=Lib.hid hf4;have HI:=Lib.hid hI;have pz:=Lib.hid hO4;clear hs4 hf4 hI hO4 hg4 Jq e e2 hT1 hs1 hst;go_wp2_with (fail)
 go_loopw [6,7] (fun s6 s7 wr=>∃ (A:Option Addr) (C:Nat) (st:List Int) (A':Option Addr) (C':Nat) (l:List Int),s6=.slice A st.length C∧s7=.slice A' l.length C'∧pg k list st l∧Row1 wr 28 rc A st.length C st.reverse∧Row1 wr 28 rc A' l.length C' l∧bQ w.heap.size A∧bQ w.heap.size A'∧(∀ b,rowOf A b→¬ rowOf A' b)∧Same w wr) (fun s6 s7 _=>3*(k.ls.length-lenOf s7)+lenOf s6)
 case atStart=>exact⟨A4,C4,st,none,0,[],rfl,rfl,HI.out,pz.out,Own.nil _ _ _ _,UO.out,aS _,(fun b _ h=>by obtain⟨x,hx,_⟩:=h;cases hx),iB.out⟩
 case round =>
  clear HI pz UO iB;obtain⟨A5,C5,st,A6,C6,l,rfl,rfl,hI,hT,hO,WC,K5,hdj,hs⟩:=hrel;have hll:=rY hI.nd hI.ll;have hsl:=hI.len;have HI:=Lib.hid hI;have HT:=Lib.hid hT;have HO:=Lib.hid hO;have F6:=Lib.hid WC;have Ka:=Lib.hid K5;have HDJ:=Lib.hid hdj;have HS:=Lib.hid hs;clear hI hT hO WC K5 hdj hs;cases st with
  | nil =>
   go_wp2;go_ret2;exact⟨A6,C6,l,rfl,HI.out.out,HO.out,Ka.out,HS.out⟩
  | cons r st =>
   obtain⟨tb,hA5,tbl,V8⟩:=HT.out.dQ (i:=st.length) (x:=r) (by simp);subst hA5;have Bl:Row1 wr 28 rc (some ⟨tb,0,none⟩) st.length C5 st.reverse:=by
    have:=HT.out
    rw[List.reverse_cons] at this
    have:=Go.Tk.Own.pop (f:=fun x=>[rc x]) (fun _=>rfl) this
    rwa [List.length_reverse] at this
   have hcp:st.length+1≤C5∧C5<9223372036854775808:=by
    have:=HT.out
    simp only[List.length_cons] at this;rcases this.own.2 with⟨h0,_⟩ | ⟨_,cap,_,h1,_,_,h3,h4,_⟩
    ·cases h0
    ·injection h1 with _ _ h1
     subst h1;unfold maxLen at h4;omega
   obtain⟨hs1,hs2⟩:=hcp;replace V8:wr.cell? ⟨tb,st.length,none⟩=some (.int .u32 r):=V8;have hc1:((st.length:Int)+1)>0:=by omega
   have hlr:=HI.out.la r (List.mem_cons_self ..);have hr0:=hlr.1;have hr1:r<4294967296:=by have:=oK hlr.2 hr0;omega
   have xE:=Lib.hid Bl;have YI:=Lib.hid hlr;simp only[List.length_cons] at hsl ⊢;clear Bl hlr;have hat:=GK A6 l.length C6 l r wr (HO.out.sl (fun _=>rfl)) (by omega);by_cases hm:r∈l
   ·have hz:=GJ.2 hm;obtain⟨z,hze⟩:∃ z,JA l r=z:=⟨_,rfl⟩;rw[hze] at hat hz;have HAT:=Lib.hid hat;have HM:=Lib.hid hm;clear hat hm hze;go_wp2_with (fail)
    refine HAT.out.mono ?_;rintro e wx ⟨rfl,rfl⟩;go_wp2;go_roundw
    case rel=>exact⟨some ⟨tb,0,none⟩,C5,st,A6,C6,l,rfl,rfl,HI.out.skip HM.out,xE.out,HO.out,F6.out,Ka.out,HDJ.out,HS.out⟩
    case measure=>simp[lenOf,mI]
   ·have hz:JA l r = -1:=by unfold JA;rw[if_neg hm]
    rw[hz] at hat;have hnd:=fun w' (hs:Same wr w')=>Ad ((HK.out.same HS.out).same hs) r hr0 hr1
    have hE:fQ k.ls r=0:=by unfold fQ;rw[if_pos YI.out.2]
    rw[hE] at hnd;have HAT:=Lib.hid hat;have HM:=Lib.hid hm;have Le:=Lib.hid hnd;clear hat hm hz hnd hE;go_wp2_with (fail)
    refine HAT.out.mono ?_;rintro e wx ⟨rfl,rfl⟩;go_wp2_with (fail)
    refine(Le.out _ (ah.refl _ _)).mono ?_;rintro e wy ⟨rfl,hsy⟩;have Uj:Hid (0≤(aI k.ls r).v→pg k list ((aI k.ls r).hi::(aI k.ls r).lo::st) (l++[r])):=Lib.hid (fun hv=>HI.out.node HM.out (wL HK.out.ki YI.out hv).1 (wL HK.out.ki YI.out hv).2);have Dt:Hid (¬ 0≤(aI k.ls r).v→pg k list st (l++[r])):=Lib.hid (fun hv=>HI.out.leaf HM.out hv);obtain⟨⟨v,lo,hi⟩,hn⟩:∃ z,aI k.ls r=z:=⟨_,rfl⟩;rw[hn] at Uj Dt ⊢;simp only at Uj Dt;unfold Nd.val;have Fa:=Lib.hid (HS.out.trans hsy (fun _ _ h=>h));have Uk:=Lib.hid hsy;replace xE:=Lib.hid (xE.out.ag hsy (fun _ _=>id));replace HO:=Lib.hid (HO.out.ag hsy (fun _ _=>id));clear hsy hn Le HAT;go_upto_region 11 with fail
    refine ai fun w9 Lg=>?_
    have hN:=ax.new wy 37 #[.int .i64 v,.int .u32 lo,.int .u32 hi];have Lh:Same wy w9:=by rw[Lg];exact(ah.refl _ _).alloc _
    rw[← Lg] at hN;clear Lg;refine aV 2 ?_;simp only[List.take_succ_cons,List.take_zero,List.drop_succ_cons,List.drop_zero];repeat (any_goals (first | go_big_quiet_step (fail) | quiet_step (fail)))
    refine wpQuiet_nil ?_;refine wpList_plain rfl fun K hK=>?_
    go_simp;refine hK _ _ ?_;clear hK K;refine aQ fun wa dR=>?_
    have hL:=ax.new w9 28 #[.int .u32 r];have hsa:Same w9 wa:=by rw[dR];exact(ah.refl _ _).alloc _
    rw[← dR] at hL;clear dR;have JC:=Lh.trans hsa (fun _ _ h=>h);have hrow:=HO.out.ag JC (fun _ _=>id);refine Own.aR (f:=fun x=>[rc x]) rfl (.tmp 41) (.tmp 43) _ rfl Tryz.underlying40 iE rfl (by omega) rfl hrow (fun _=>rfl) r w9.heap.size 1 rfl (by simpa [rc] using hL) (by simp[Value.oneCell',rc]) (by unfold maxLen;omega) (by omega) ?_;intro gg cap wb hOb hgb hat;have hsb:Same w wb:=(HS.out.trans (Uk.out.trans JC (fun _ _ h=>h)) (fun _ _ h=>h)).grown hgb (fun g hg=>.inr (Ka.out g (af.1 hg)))
    have hNb:=(hN.ag hsa id).grown hgb (fun hx=>by
     obtain⟨x,hx,hxb⟩:=af.1 hx.symm
     exact hrow.av (hN.ag hsa id) (by decide) x hx hxb)
    have hPb:=(xE.out.ag JC (fun _ _=>id)).gH hgb (fun b hb hA=>HDJ.out b hA (af.1 hb));have wZ:bQ w.heap.size (some ⟨gg,0,none⟩):=fun b hb=>by
     obtain⟨x,hx,rfl⟩:=hb;injection hx with hx
     subst hx;rcases hat with h | h
     ·exact Ka.out gg (af.1 h)
     ·have h1:=Fa.out.size;have h2:=JC.size;show w.heap.size≤gg;omega
    have hdb:∀ b,rowOf (some ⟨tb,0,none⟩) b→¬ rowOf (some ⟨gg,0,none⟩) b:=fun b hb hb2=>by
     obtain⟨x,hx,rfl⟩:=hb2;injection hx with hx
     subst hx;rcases hat with h | h
     ·exact HDJ.out gg hb (af.1 h)
     ·have h1:=dV xE.out hb;have h2:=JC.size;simp only at h1;omega
    have n0:=hNb.cell 0;have n1:=hNb.cell 1;have n2:=hNb.cell 2;have nl:=hNb.lt;simp at n0 n1 n2;have abE:(l++[r]).length≤k.ls.length:=by
     by_cases hv:0≤v
     ·exact rY (Uj.out hv).nd (Uj.out hv).ll
     ·exact rY (Dt.out (by omega)).nd (Dt.out (by omega)).ll
    rw[List.length_append,List.length_singleton] at abE;have kS:=Lib.hid hsb;have HPB:=Lib.hid hPb;have J8:=Lib.hid wZ;have YR:=Lib.hid hdb;have Bt:=Lib.hid hOb;clear hsb hPb wZ hdb hOb hgb hat hrow Lh hsa JC hN hL hNb HO xE;by_cases hv:0≤v
    ·have HW:=Lib.hid (Uj.out hv);have hc3:¬ (l.length:Int)+1>2097152:=by omega
     clear Uj Dt;go_upto_region 13 with fail
     refine aV 5 ?_;simp only[List.take_succ_cons,List.take_zero,List.drop_succ_cons,List.drop_zero];repeat (any_goals (first | go_big_quiet_step (fail) | quiet_step (fail)))
     refine wpQuiet_nil ?_;refine wpList_plain rfl fun K hK=>?_
     go_simp;refine hK _ _ ?_;clear hK K;refine aQ fun wc hwc=>?_
     have hsc:Same wb wc:=by rw[hwc];exact(ah.refl _ _).alloc _
     have hL2:=Go.Tk.Own.lit wb 28 (fun x=>[rc x]) (fun _=>rfl) [lo,hi] (by simp[maxLen]) (cs:=#[.int .u32 lo,.int .u32 hi]) (by simp[rc]);have hL3:Row1 wc 28 rc (some ⟨wb.heap.size,0,none⟩) 2 2 [lo,hi]:=by rw[hwc];exact hL2
     clear hwc hL2;have hrow:=HPB.out.ag hsc (fun _ _=>id);refine wpList_plain rfl fun K hK=>?_
     refine Own.bT (.tmp 48) (.tmp 53) _ rfl Tryz.underlying40 iE rfl (by omega) rfl hrow (fun _=>rfl) [lo,hi] (some ⟨wb.heap.size,0,none⟩) 2 rfl (fun hne=>Sl.source (m:=1) (f:=fun x=>[rc x]) (fun _=>rfl) Nat.one_pos (hL3.sl (fun _=>rfl)) hne) (fun y _=>by simp[rc,Value.oneCell']) (by simp[maxLen] <;> omega) (by simp <;> omega) ?_;intro A7 C7 w7 Js uZ Ul;refine hK _ _ ?_;clear hK K;have hs7:Same w w7:=(kS.out.trans hsc (fun _ _ h=>h)).grown uZ (fun g hg=>.inr (F6.out g (af.1 hg)))
     have Wd:bQ w.heap.size A7:=fun b hb=>(Ul b hb).elim (F6.out b) (fun h=>by
      have:=kS.out.size
      have:=hsc.size
      omega)
     have hO8:=(Bt.out.ag hsc (fun _ _=>id)).gH uZ (fun b hb hA=>YR.out b (af.1 hb) hA);have hd7:∀ b,rowOf A7 b→¬ rowOf (some ⟨gg,0,none⟩) b:=fun b hb hb2=>by
      rcases Ul b hb with h | h
      ·exact YR.out b h hb2
      ·have h1:=dV Bt.out hb2
       have:=hsc.size
       omega
     have e7:(st.reverse++[lo,hi]).length=(hi::lo::st).length:=by simp
     rw[e7];have hO9:Row1 w7 28 rc A7 (hi::lo::st).length C7 (hi::lo::st).reverse:=by
      have e8:(hi::lo::st).reverse=st.reverse++[lo,hi]:=by simp
      rw[e8,← e7];exact Js
     have xe:=Lib.hid hs7;have HF7:=Lib.hid Wd;have Rp:=Lib.hid hO8;have HD7:=Lib.hid hd7;have HO9:=Lib.hid hO9;obtain⟨st2,Um⟩:∃ z,hi::lo::st=z:=⟨_,rfl⟩;have hl2:st2.length=st.length+2:=by rw[← Um];rfl
     rw[Um] at HW HO9 ⊢;have HL2:=Lib.hid hl2;clear hs7 Wd hO8 hd7 hO9 e7 Js uZ Ul hrow hL3 hsc Um hl2 n0 n1 n2 nl;go_wp2;go_roundw
     case rel=>exact⟨A7,C7,st2,some ⟨gg,0,none⟩,cap,l++[r],rfl,by rw[List.length_append];rfl,HW.out,HO9.out,by rw[List.length_append];exact Rp.out,HF7.out,J8.out,HD7.out,xe.out⟩
     case measure =>
      have:=HL2.out
      simp[lenOf,mI];omega
    ·have HW:=Lib.hid (Dt.out (by omega));have hv':v<0:=by omega
     have hc3:¬ (l.length:Int)+1>2097152:=by omega
     clear Uj Dt hv;go_wp2;go_roundw
     case rel=>exact⟨some ⟨tb,0,none⟩,C5,st,some ⟨gg,0,none⟩,cap,l++[r],rfl,by rw[List.length_append];rfl,HW.out,HPB.out,by rw[List.length_append];exact Bt.out,F6.out,J8.out,YR.out,kS.out⟩
     case measure=>simp[lenOf,mI] <;> omega
end
structure RS where
 k:KS
 refs:List Int
 held:List Int
structure RA where
 kp:Nat
 rA:Option Addr
 rC:Nat
 hA:Option Addr
 hC:Nat
def jQ (x:RS) (q:RA):Array Value:=#[.pointer (some ⟨q.kp,0,none⟩),.slice q.rA x.refs.length q.rC,.slice q.hA x.held.length q.hC]
def Rq (xb:Nat) (q:RA) (b:Nat):Prop:=b=xb∨rowOf q.rA b∨rowOf q.hA b
structure RW (B:Nat→Prop) (w:World) (xb:Nat) (x:RS) (q:RA):Prop where
 blk:ax w xb 78 (jQ x q)
 k:KR (fun b=>B b∨Rq xb q b) w q.kp x.k
 refs:Row1 w 28 rc q.rA x.refs.length q.rC x.refs
 held:gq w 3 q.hA x.held.length q.hC x.held
 base:∀ b,Rq xb q b→¬ B b
section
variable {w w':World} {B B':Nat→Prop} {xb:Nat} {x:RS} {q:RA}
theorem RW.c0 (h:RW B w xb x q):w.cell? ⟨xb,0,none⟩=some (.pointer (some ⟨q.kp,0,none⟩)):=h.blk.cell 0
theorem RW.c1 (h:RW B w xb x q):w.cell? ⟨xb,1,none⟩=some (.slice q.rA x.refs.length q.rC):=h.blk.cell 1
theorem RW.c2 (h:RW B w xb x q):w.cell? ⟨xb,2,none⟩=some (.slice q.hA x.held.length q.hC):=h.blk.cell 2
theorem RW.same (h:RW B w xb x q) (hs:Same w w'):RW B w' xb x q :=
 ⟨h.blk.ag hs id,h.k.same hs,h.refs.ag hs (fun _ _=>id),h.held.ag hs (fun _ _=>id),h.base⟩
theorem RW.Vi (h:RW B w xb x q):∀ b,Rq xb q b→b<w.heap.size:=by
 rintro b (rfl | hb | hb)
 ·exact h.blk.lt
 ·exact dV h.refs hb
 ·exact dV h.held hb
theorem RW.sub (h:RW B w xb x q) (hs:∀ b,B' b→B b):RW B' w xb x q :=
 ⟨h.blk,h.k.sub (fun b hb=>hb.imp (hs b) id),h.refs,h.held,fun b hb hn=>h.base b hb (hs b hn)⟩
theorem RW.also (h:RW B w xb x q) (hs:Same w w') {C:Nat→Prop} (hC:∀ b,C b→w.heap.size≤b):RW (fun b=>B b∨C b) w' xb x q:=by
 refine⟨h.blk.ag hs id,(h.k.also hs hC).sub (fun b hb=>?_),h.refs.ag hs (fun _ _=>id),h.held.ag hs (fun _ _=>id),fun b hb hn=>?_⟩
 ·rcases hb with(hb | hb) | hb
  ·exact .inl (.inl hb)
  ·exact .inr hb
  ·exact .inl (.inr hb)
 ·rcases hn with hn | hn
  ·exact h.base b hb hn
  ·have:=hC b hn
   have:=h.Vi b hb
   omega
theorem RW.kernel {k':KS} (h:RW B w xb x q) (hk:KR (fun b=>B b∨Rq xb q b) w' q.kp k') (hu:Up (fun b=>B b∨Rq xb q b) w w'):RW B w' xb { x with k:=k' } q∧Up B w w' :=
 ⟨⟨h.blk.ag hu (fun hn=>hn (.inr (.inl rfl))),hk,h.refs.ag hu (fun y hy hn=>hn (.inr (.inr (.inl ⟨y,hy,rfl⟩)))),h.held.ag hu (fun y hy hn=>hn (.inr (.inr (.inr ⟨y,hy,rfl⟩)))),h.base⟩,ah.mono hu (fun _ _ hn hb=>hn (.inl hb))⟩
theorem RW.uy {A2:Option Addr} {C2:Nat} {rs:List Int} (h:RW B w xb x q) (hf:ah (fun b=>b=xb∨rowOf q.rA b) w w') (hb:ax w' xb 78 (jQ { x with refs:=rs } { q with rA:=A2,rC:=C2 }))
  (ho:Row1 w' 28 rc A2 rs.length C2 rs) (hn:∀ b,rowOf A2 b→rowOf q.rA b∨w.heap.size≤b) (hB:∀ b,B b→b<w.heap.size) :
  RW B w' xb { x with refs:=rs } { q with rA:=A2,rC:=C2 }∧Up B w w':=by
 obtain⟨a,k1,k2⟩:=h.k.ex;refine⟨⟨hb,⟨⟨a,k1.ag hf (fun b hk hs=>k2 b hk (.inr (hs.elim .inl (fun h=>.inr (.inl h))))),fun b hk hn'=>?_⟩,h.k.ki⟩,ho,h.held.ag hf ?_,?_⟩,hf.mono (fun b _ hs=>h.base b (hs.elim .inl (fun h=>.inr (.inl h))))⟩
 ·rcases hn' with hn' | hn' | hn' | hn'
  ·exact k2 b hk (.inl hn')
  ·exact k2 b hk (.inr (.inl hn'))
  ·rcases hn b hn' with h1 | h1
   ·exact k2 b hk (.inr (.inr (.inl h1)))
   ·have:=k1.lt hk
    omega
  ·exact k2 b hk (.inr (.inr (.inr hn')))
 ·rintro y hy (hs | hs)
  ·exact h.held.av h.blk (by decide) y hy hs
  ·exact h.held.aL h.refs (by decide) _ ⟨y,hy,rfl⟩ hs
 ·rintro b (hb | hb | hb)
  ·exact h.base b (.inl hb)
  ·rcases hn b hb with h1 | h1
   ·exact h.base b (.inr (.inl h1))
   ·exact fun hx=>by have:=hB b hx;omega
  ·exact h.base b (.inr (.inr hb))
theorem RW.uz {A2:Option Addr} {C2:Nat} {hs:List Int} (h:RW B w xb x q) (hf:ah (fun b=>b=xb∨rowOf q.hA b) w w') (hb:ax w' xb 78 (jQ { x with held:=hs } { q with hA:=A2,hC:=C2 }))
  (ho:gq w' 3 A2 hs.length C2 hs) (hn:∀ b,rowOf A2 b→rowOf q.hA b∨w.heap.size≤b) (hB:∀ b,B b→b<w.heap.size) :
  RW B w' xb { x with held:=hs } { q with hA:=A2,hC:=C2 }∧Up B w w':=by
 obtain⟨a,k1,k2⟩:=h.k.ex;refine⟨⟨hb,⟨⟨a,k1.ag hf (fun b hk hs=>k2 b hk (.inr (hs.elim .inl (fun h=>.inr (.inr h))))),fun b hk hn'=>?_⟩,h.k.ki⟩,h.refs.ag hf ?_,ho,?_⟩,hf.mono (fun b _ hs=>h.base b (hs.elim .inl (fun h=>.inr (.inr h))))⟩
 ·rcases hn' with hn' | hn' | hn' | hn'
  ·exact k2 b hk (.inl hn')
  ·exact k2 b hk (.inr (.inl hn'))
  ·exact k2 b hk (.inr (.inr (.inl hn')))
  ·rcases hn b hn' with h1 | h1
   ·exact k2 b hk (.inr (.inr (.inr h1)))
   ·have:=k1.lt hk
    omega
 ·rintro y hy (hs | hs)
  ·exact h.refs.av h.blk (by decide) y hy hs
  ·exact h.refs.aL h.held (by decide) _ ⟨y,hy,rfl⟩ hs
 ·rintro b (hb | hb | hb)
  ·exact h.base b (.inl hb)
  ·exact h.base b (.inr (.inl hb))
  ·rcases hn b hb with h1 | h1
   ·exact h.base b (.inr (.inr h1))
   ·exact fun hx=>by have:=hB b hx;omega
def hasB (x:RS) (i:Int):Bool:=decide (0≤i)&&decide (i<x.refs.length)&&(decide (0<x.held.getD i.toNat 0)||decide (x.refs.getD i.toNat 0<2))
theorem iA {i:Int} (h:hasB x i=true):∃ m:Nat,i=m∧m<x.refs.length:=by
 unfold hasB at h;simp only[Bool.and_eq_true,decide_eq_true_eq] at h;exact⟨i.toNat,by omega,by omega⟩
theorem Ae (h:RW B w xb x q) (hl0:x.held.length=x.refs.length) (i:Int) :
  Calls Tryz.prog 46 #[.pointer (some ⟨xb,0,none⟩),.int .i64 i] w fun e w'=>e=.returned (.bool (hasB x i))∧w=w':=by
 have hxl:=h.blk.lt;have c1:=h.c1;have c2:=h.c2;rw[hl0] at c2;obtain⟨R,hR⟩:∃ z,hasB x i=z:=⟨_,rfl⟩;rw[hR];by_cases h0:0≤i
 ·by_cases h1:i<x.refs.length
  ·obtain⟨m,rfl⟩:=Int.eq_ofNat_of_zero_le h0;have hm:m<x.refs.length:=by omega
   obtain⟨r,hr⟩:∃ r,x.refs[m]?=some r:=⟨_,List.getElem?_eq_getElem hm⟩;obtain⟨c,hc⟩:∃ c,x.held[m]?=some c:=⟨_,List.getElem?_eq_getElem (by rw[hl0];exact hm)⟩;obtain⟨rb,hA,rl,d0⟩:=h.refs.dQ (c:=rc) hr;obtain⟨hb2,hA2,hl,d1⟩:=h.held.dQ (c:=fun x:Int=>.int .i64 x) hc;clear hl0;rw[hA] at c1;rw[hA2] at c2;unfold rc at d0;have hres:R=(decide (0<c)||decide (r<2)):=by
    rw[← hR];unfold hasB;rw[Int.toNat_natCast,List.getD_eq_getElem?_getD,List.getD_eq_getElem?_getD,hr,hc];simp[hm]
   clear h hR hr hc hA hA2;by_cases hc0:0<c
   ·have hR:R=true:=by rw[hres];simp[hc0]
    clear hres;subst hR;go_enter Tryz.func46,Tryz.ntmps46;go_wp2;go_ret;exact⟨rfl,rfl⟩
   ·by_cases hr2:r<2
    ·have hR:R=true:=by rw[hres];simp[hr2]
     clear hres;subst hR;go_enter Tryz.func46,Tryz.ntmps46;go_wp2;go_ret;exact⟨rfl,rfl⟩
    ·have hR:R=false:=by rw[hres];simp[hr2,hc0]
     clear hres;subst hR;go_enter Tryz.func46,Tryz.ntmps46;go_wp2;go_ret;exact⟨rfl,rfl⟩
  ·have hres:R=false:=by rw[← hR];unfold hasB;simp[h1]
   clear h hR hl0;subst hres;go_enter Tryz.func46,Tryz.ntmps46;go_wp2;go_ret;exact⟨rfl,rfl⟩
 ·have hres:R=false:=by rw[← hR];unfold hasB;simp[h0]
  clear h hR hl0;subst hres;go_enter Tryz.func46,Tryz.ntmps46;go_wp2;go_ret;exact⟨rfl,rfl⟩
end
def gV (x:RS) (v b c:Int):RS×Int :=
 if hasB x b=true∧hasB x c=true∧x.refs.length<60 then
  (if (ay x.k ⟨v,x.refs.getD b.toNat 0,x.refs.getD c.toNat 0⟩).2.1=0 then
   (⟨(ay x.k ⟨v,x.refs.getD b.toNat 0,x.refs.getD c.toNat 0⟩).2.2,x.refs++[(ay x.k ⟨v,x.refs.getD b.toNat 0,x.refs.getD c.toNat 0⟩).1],x.held++[1]⟩,0)
  else ({ x with k:=(ay x.k ⟨v,x.refs.getD b.toNat 0,x.refs.getD c.toNat 0⟩).2.2 },(ay x.k ⟨v,x.refs.getD b.toNat 0,x.refs.getD c.toNat 0⟩).2.1))
 else (x,0)
def fF (x:RS) (i:Int):RS×Int :=
 if hasB x i=true then
  (if (aP x.k (x.refs.getD i.toNat 0)).1=0 then ({ x with k:=(aP x.k (x.refs.getD i.toNat 0)).2,held:=x.held.set i.toNat (x.held.getD i.toNat 0+1) },0)
  else ({ x with k:=(aP x.k (x.refs.getD i.toNat 0)).2 },(aP x.k (x.refs.getD i.toNat 0)).1))
 else (x,0)
def eB (x:RS) (i:Int):RS×Int :=
 if hasB x i=true∧0<x.held.getD i.toNat 0 then
  ({ x with k:=(aD x.k (x.refs.getD i.toNat 0)).2,held:=x.held.set i.toNat (x.held.getD i.toNat 0-1) },(aD x.k (x.refs.getD i.toNat 0)).1)
 else (x,0)
def Fb (x:RS) (l:Int):RS×Int:=({ x with k:=(eX x.k l).2 },(eX x.k l).1)
def Fe (x:RS):RS×Int:=({ x with k:=(fK x.k).2.2 },(fK x.k).2.1)
section
variable {w w':World} {B B':Nat→Prop} {xb:Nat} {x:RS} {q:RA}
abbrev ng (B:Nat→Prop) (w:World) (xb:Nat) (p:RS×Int) (e:Ending) (w':World):Prop:=e=.returned (.int .i64 p.2)∧(∃ q',RW B w' xb p.1 q')∧Up B w w'
def gW (B:Nat→Prop) (xb:Nat) (q:RA) (b:Nat):Prop:=¬ (B b∨Rq xb q b)
theorem RW.all (h:RW B w xb x q) (hB:∀ b,B b→b<w.heap.size):∀ b,(B b∨Rq xb q b)→b<w.heap.size:=fun b hb=>hb.elim (hB b) (h.Vi b)
theorem JD (hX:RW B w xb x q) (hB:∀ b,B b→b<w.heap.size) (hl:x.held.length=x.refs.length) (htr:(x.k.tr.length+1)*8≤140737488355328) (l y z:Int) :
  Calls Tryz.prog 41 #[.pointer (some ⟨xb,0,none⟩),.agg #[.int .i64 4,.int .i64 l,.int .i64 y,.int .i64 z]] w (ng B w xb (Fb x l)):=by
 have HX:=Lib.hid hX;have HB:=Lib.hid hB;have Dv:=Lib.hid htr;have HL:=Lib.hid hl;clear hX htr hB hl;go_enter Tryz.func41,Tryz.ntmps41;go_upto_region 1 with fail
 refine ai fun w1 hw1=>?_
 have hO:=ax.new w 60 #[.int .i64 4,.int .i64 l,.int .i64 y,.int .i64 z];have hs1:Same w w1:=by rw[hw1];exact(ah.refl _ _).alloc _
 rw[← hw1] at hO;clear hw1;have hX:=HX.out.also hs1 (C:=fun b=>b=w.heap.size) (fun b hb=>Nat.le_of_eq hb.symm);have hB1:∀ b,(B b∨b=w.heap.size)→b<w1.heap.size:=fun b hb=>hb.elim (fun h=>Nat.lt_of_lt_of_le (HB.out b h) hs1.size) (fun h=>by have:=hO.lt;omega)
 have hxl:=hX.blk.lt;have c0:=hX.c0;have c1:=hX.c1;have c2:=hX.c2;rw[HL.out] at c2;have o0:=hO.cell 0;have o1:=hO.cell 1;have o2:=hO.cell 2;have o3:=hO.cell 3;have ol:=hO.lt;simp at o0 o1 o2 o3;have n1:¬ gW (fun b=>B b∨b=w.heap.size) xb q xb:=fun h=>h (.inr (.inl rfl))
 have n2:¬ gW (fun b=>B b∨b=w.heap.size) xb q w.heap.size:=fun h=>h (.inl (.inr rfl))
 have HO:=Lib.hid hO;have aX:=Lib.hid hs1;have kK:=Lib.hid hX;have HB1:=Lib.hid hB1;have Ag:=Lib.hid (Up.bK hs1:Up B w w1);clear hO hs1 hX hB1;have Q3:=Lib.hid (fun w' (hs:Same w1 w')=>Qb (kK.out.k.same hs) (fun b hb=>Nat.lt_of_lt_of_le (kK.out.all HB1.out b hb) hs.size) l Dv.out);go_upto_region 21 with fail
 refine aJ (gW (fun b=>B b∨b=w.heap.size) xb q) [([0,1,2,3,4,5],6),([],7)] (by kernel_rfl) (by kernel_rfl) ?_;simp only[cK,pick,List.map_cons,List.map_nil,List.getD_cons_zero,List.getD_cons_succ];have hs:Same w1 w1.drew:=(ah.refl _ _).drew;repeat (any_goals (first | go_big_quiet_step (fail) | quiet_step (fail)))
 refine wpQuiet_nil ?_;refine aa rfl fun K hK=>?_
 go_simp;refine(Q3.out _ hs).mono ?_;rintro e w2 ⟨rfl,hk,hu⟩;refine hK _ _ (aZ.bu ((hs.mono (fun _ _ h=>h.elim)).trans hu (fun _ _ h=>h))) ?_;clear hK K;have hX2:=(kK.out.same hs).kernel hk hu;have tX:=Lib.hid hX2;have HS:=Lib.hid hs;clear hX2 hk hu hs;repeat (any_goals (first | go_big_quiet_step (fail) | quiet_step (fail)))
 refine wpQuiet_nil ?_;go_wp2;go_ret;exact⟨rfl,⟨q,tX.out.1.sub (fun _ hb=>.inl hb)⟩,(Ag.out.trans (Up.bK HS.out)).trans (ah.mono tX.out.2 (fun _ _ hn hb=>hn (.inl hb)))⟩
theorem JE (hX:RW B w xb x q) (hB:∀ b,B b→b<w.heap.size) (hl:x.held.length=x.refs.length) (ht:CP x.k) (htr:x.k.tr.length≤1000000000000000000) (l y z:Int) :
  Calls Tryz.prog 41 #[.pointer (some ⟨xb,0,none⟩),.agg #[.int .i64 5,.int .i64 l,.int .i64 y,.int .i64 z]] w (ng B w xb (Fe x)):=by
 have HX:=Lib.hid hX;have HB:=Lib.hid hB;have Dv:=Lib.hid htr;have HT:=Lib.hid ht;have HL:=Lib.hid hl;clear hX htr hB hl ht;go_enter Tryz.func41,Tryz.ntmps41;go_upto_region 1 with fail
 refine ai fun w1 hw1=>?_
 have hO:=ax.new w 60 #[.int .i64 5,.int .i64 l,.int .i64 y,.int .i64 z];have hs1:Same w w1:=by rw[hw1];exact(ah.refl _ _).alloc _
 rw[← hw1] at hO;clear hw1;have hX:=HX.out.also hs1 (C:=fun b=>b=w.heap.size) (fun b hb=>Nat.le_of_eq hb.symm);have hB1:∀ b,(B b∨b=w.heap.size)→b<w1.heap.size:=fun b hb=>hb.elim (fun h=>Nat.lt_of_lt_of_le (HB.out b h) hs1.size) (fun h=>by have:=hO.lt;omega)
 have hxl:=hX.blk.lt;have c0:=hX.c0;have c1:=hX.c1;have c2:=hX.c2;rw[HL.out] at c2;have o0:=hO.cell 0;have o1:=hO.cell 1;have o2:=hO.cell 2;have o3:=hO.cell 3;have ol:=hO.lt;simp at o0 o1 o2 o3;have n1:¬ gW (fun b=>B b∨b=w.heap.size) xb q xb:=fun h=>h (.inr (.inl rfl))
 have n2:¬ gW (fun b=>B b∨b=w.heap.size) xb q w.heap.size:=fun h=>h (.inl (.inr rfl))
 have HO:=Lib.hid hO;have aX:=Lib.hid hs1;have kK:=Lib.hid hX;have HB1:=Lib.hid hB1;have Ag:=Lib.hid (Up.bK hs1:Up B w w1);clear hO hs1 hX hB1;have VU:=Qc kK.out.k (kK.out.all HB1.out) HT.out Dv.out;have HKU:=Lib.hid VU;clear VU;go_wp2_with (fail)
 refine HKU.out.mono ?_;rintro e w2 ⟨rfl,hk,hu⟩;have tX:=Lib.hid (kK.out.kernel hk hu);clear hk hu;go_wp2;go_ret;exact⟨rfl,⟨q,tX.out.1.sub (fun _ hb=>.inl hb)⟩,Ag.out.trans (ah.mono tX.out.2 (fun _ _ hn hb=>hn (.inl hb)))⟩
theorem JF (hX:RW B w xb x q) (hB:∀ b,B b→b<w.heap.size) (hl:x.held.length=x.refs.length) (l y z:Int) :
  Calls Tryz.prog 41 #[.pointer (some ⟨xb,0,none⟩),.agg #[.int .i64 6,.int .i64 l,.int .i64 y,.int .i64 z]] w (ng B w xb (x,0)):=by
 have HX:=Lib.hid hX;have HB:=Lib.hid hB;have HL:=Lib.hid hl;clear hX hB hl;go_enter Tryz.func41,Tryz.ntmps41;go_upto_region 1 with fail
 refine ai fun w1 hw1=>?_
 have hO:=ax.new w 60 #[.int .i64 6,.int .i64 l,.int .i64 y,.int .i64 z];have hs1:Same w w1:=by rw[hw1];exact(ah.refl _ _).alloc _
 rw[← hw1] at hO;clear hw1;have hX:=HX.out.also hs1 (C:=fun b=>b=w.heap.size) (fun b hb=>Nat.le_of_eq hb.symm);have hB1:∀ b,(B b∨b=w.heap.size)→b<w1.heap.size:=fun b hb=>hb.elim (fun h=>Nat.lt_of_lt_of_le (HB.out b h) hs1.size) (fun h=>by have:=hO.lt;omega)
 have hxl:=hX.blk.lt;have c0:=hX.c0;have c1:=hX.c1;have c2:=hX.c2;rw[HL.out] at c2;have o0:=hO.cell 0;have o1:=hO.cell 1;have o2:=hO.cell 2;have o3:=hO.cell 3;have ol:=hO.lt;simp at o0 o1 o2 o3;have n1:¬ gW (fun b=>B b∨b=w.heap.size) xb q xb:=fun h=>h (.inr (.inl rfl))
 have n2:¬ gW (fun b=>B b∨b=w.heap.size) xb q w.heap.size:=fun h=>h (.inl (.inr rfl))
 have HO:=Lib.hid hO;have aX:=Lib.hid hs1;have kK:=Lib.hid hX;have HB1:=Lib.hid hB1;have Ag:=Lib.hid (Up.bK hs1:Up B w w1);clear hO hs1 hX hB1;go_wp2_with (fail)
 refine(zI _).mono ?_;rintro e w2 ⟨rfl,rfl⟩;go_wp2;go_ret;exact⟨rfl,⟨q,kK.out.sub (fun _ hb=>.inl hb)⟩,Ag.out⟩
theorem JG (hX:RW B w xb x q) (hB:∀ b,B b→b<w.heap.size) (hl:x.held.length=x.refs.length) (kd l y z:Int) (h1:¬ kd=1) (h2:¬ kd=2) (h3:¬ kd=3) (h4:¬ kd=4) (h5:¬ kd=5) (h6:¬ kd=6) :
  Calls Tryz.prog 41 #[.pointer (some ⟨xb,0,none⟩),.agg #[.int .i64 kd,.int .i64 l,.int .i64 y,.int .i64 z]] w (ng B w xb (x,0)):=by
 have HX:=Lib.hid hX;have HB:=Lib.hid hB;have HL:=Lib.hid hl;clear hX hB hl;go_enter Tryz.func41,Tryz.ntmps41;go_upto_region 1 with fail
 refine ai fun w1 hw1=>?_
 have hO:=ax.new w 60 #[.int .i64 kd,.int .i64 l,.int .i64 y,.int .i64 z];have hs1:Same w w1:=by rw[hw1];exact(ah.refl _ _).alloc _
 rw[← hw1] at hO;clear hw1;have hX:=HX.out.also hs1 (C:=fun b=>b=w.heap.size) (fun b hb=>Nat.le_of_eq hb.symm);have hB1:∀ b,(B b∨b=w.heap.size)→b<w1.heap.size:=fun b hb=>hb.elim (fun h=>Nat.lt_of_lt_of_le (HB.out b h) hs1.size) (fun h=>by have:=hO.lt;omega)
 have hxl:=hX.blk.lt;have c0:=hX.c0;have c1:=hX.c1;have c2:=hX.c2;rw[HL.out] at c2;have o0:=hO.cell 0;have o1:=hO.cell 1;have o2:=hO.cell 2;have o3:=hO.cell 3;have ol:=hO.lt;simp at o0 o1 o2 o3;have n1:¬ gW (fun b=>B b∨b=w.heap.size) xb q xb:=fun h=>h (.inr (.inl rfl))
 have n2:¬ gW (fun b=>B b∨b=w.heap.size) xb q w.heap.size:=fun h=>h (.inl (.inr rfl))
 have HO:=Lib.hid hO;have aX:=Lib.hid hs1;have kK:=Lib.hid hX;have HB1:=Lib.hid hB1;have Ag:=Lib.hid (Up.bK hs1:Up B w w1);clear hO hs1 hX hB1;go_wp2;go_ret;exact⟨rfl,⟨q,kK.out.sub (fun _ hb=>.inl hb)⟩,Ag.out⟩
theorem JH (hX:RW B w xb x q) (hB:∀ b,B b→b<w.heap.size) (hl:x.held.length=x.refs.length) (hrg:∀ r∈x.refs,0≤r∧r<4294967296) (hcb:∀ c∈x.held,0≤c∧c≤1000000000000000) (i y z:Int) :
  Calls Tryz.prog 41 #[.pointer (some ⟨xb,0,none⟩),.agg #[.int .i64 2,.int .i64 i,.int .i64 y,.int .i64 z]] w (ng B w xb (fF x i)):=by
 have HX:=Lib.hid hX;have HB:=Lib.hid hB;have HL:=Lib.hid hl;have Qf:=Lib.hid hrg;have Mw:=Lib.hid hcb;obtain⟨P,hP⟩:∃ z,fF x i=z:=⟨_,rfl⟩;rw[hP];have HP:=Lib.hid hP;clear hX hB hl hrg hcb hP;go_enter Tryz.func41,Tryz.ntmps41;go_upto_region 1 with fail
 refine ai fun w1 hw1=>?_
 have hO:=ax.new w 60 #[.int .i64 2,.int .i64 i,.int .i64 y,.int .i64 z];have hs1:Same w w1:=by rw[hw1];exact(ah.refl _ _).alloc _
 rw[← hw1] at hO;clear hw1;have hX:=HX.out.also hs1 (C:=fun b=>b=w.heap.size) (fun b hb=>Nat.le_of_eq hb.symm);have hB1:∀ b,(B b∨b=w.heap.size)→b<w1.heap.size:=fun b hb=>hb.elim (fun h=>Nat.lt_of_lt_of_le (HB.out b h) hs1.size) (fun h=>by have:=hO.lt;omega)
 have hxl:=hX.blk.lt;have c0:=hX.c0;have c1:=hX.c1;have c2:=hX.c2;rw[HL.out] at c2;have o0:=hO.cell 0;have o1:=hO.cell 1;have o2:=hO.cell 2;have o3:=hO.cell 3;have ol:=hO.lt;simp at o0 o1 o2 o3;have n1:¬ gW (fun b=>B b∨b=w.heap.size) xb q xb:=fun h=>h (.inr (.inl rfl))
 have n2:¬ gW (fun b=>B b∨b=w.heap.size) xb q w.heap.size:=fun h=>h (.inl (.inr rfl))
 have HO:=Lib.hid hO;have aX:=Lib.hid hs1;have kK:=Lib.hid hX;have HB1:=Lib.hid hB1;have Ag:=Lib.hid (Up.bK hs1:Up B w w1);clear hO hs1 hX hB1;have pW:=Ae kK.out HL.out i;obtain⟨hbv,hh⟩:∃ z,hasB x i=z:=⟨_,rfl⟩;rw[hh] at pW;have Kb:=Lib.hid pW;clear pW;cases hbv with
 | false =>
  have hP:P=(x,0):=by rw[← HP.out];unfold fF;rw[if_neg (by rw[hh] <;> decide)]
  subst hP;clear hh;go_wp2_with (fail)
  refine Kb.out.mono ?_;rintro e w2 ⟨rfl,rfl⟩;go_wp2;go_ret;exact⟨rfl,⟨q,kK.out.sub (fun _ hb=>.inl hb)⟩,Ag.out⟩
 | true =>
  obtain⟨m,rfl,hm⟩:=iA hh;obtain⟨r,hr⟩:∃ r,x.refs[m]?=some r:=⟨_,List.getElem?_eq_getElem hm⟩;obtain⟨c,hc⟩:∃ c,x.held[m]?=some c:=⟨_,List.getElem?_eq_getElem (by rw[HL.out];exact hm)⟩;have gr:=Qf.out r (List.mem_of_getElem? hr);have gc:=Mw.out c (List.mem_of_getElem? hc);have hI:(m:Int)<(x.refs.length:Int):=by omega
  have hrd:x.refs.getD (m:Int).toNat 0=r:=by rw[Int.toNat_natCast,List.getD_eq_getElem?_getD,hr];rfl
  have hcd:x.held.getD (m:Int).toNat 0=c:=by rw[Int.toNat_natCast,List.getD_eq_getElem?_getD,hc];rfl
  obtain⟨rb,hA,rl,d0⟩:=kK.out.refs.dQ (c:=rc) hr;obtain⟨hb,hA2,hbl,d1⟩:=kK.out.held.dQ (c:=fun x:Int=>.int .i64 x) hc;rw[hA] at c1;rw[hA2] at c2;unfold rc at d0;have n3:¬ gW (fun b=>B b∨b=w.heap.size) xb q rb:=fun h=>h (.inr (.inr (.inl ⟨_,hA,rfl⟩)))
  have n4:¬ gW (fun b=>B b∨b=w.heap.size) xb q hb:=fun h=>h (.inr (.inr (.inr ⟨_,hA2,rfl⟩)))
  have Kk:=Lib.hid hA2;have HHR:=Lib.hid hr;have YS:=Lib.hid hA;have Un:=Lib.hid hc;have HHM:=Lib.hid hm;clear hA hA2 hr hc hm;have hP:=HP.out;unfold fF at hP;rw[if_pos hh,hrd,hcd] at hP;have hkk:=fun w' (hs:Same w1 w')=>Qa (kK.out.k.same hs) (fun b hb=>Nat.lt_of_lt_of_le (kK.out.all HB1.out b hb) hs.size) r gr.1 gr.2
  obtain⟨⟨E,k'⟩,Rs⟩:∃ z,aP x.k r=z:=⟨_,rfl⟩;rw[Rs] at hkk hP;simp only at hkk hP;have HKK:=Lib.hid hkk;replace HP:=Lib.hid hP;clear hkk hP Rs hh hrd hcd;go_wp2_with (fail)
  refine Kb.out.mono ?_;rintro e w2 ⟨rfl,rfl⟩;go_upto_region 12 with fail
  refine aJ (gW (fun b=>B b∨b=w.heap.size) xb q) [([0,1,2,3,4,5,6,7,8,9,10,11],12),([],13)] (by kernel_rfl) (by kernel_rfl) ?_;simp only[cK,pick,List.map_cons,List.map_nil,List.getD_cons_zero,List.getD_cons_succ];have hs:Same w1 w1.drew:=(ah.refl _ _).drew;repeat (any_goals (first | go_big_quiet_step (fail) | quiet_step (fail)))
  refine wpQuiet_nil ?_;refine aa rfl fun K hK=>?_
  go_simp;refine(HKK.out _ hs).mono ?_;rintro e w2 ⟨rfl,hk,hu⟩;refine hK _ _ (aZ.bu ((hs.mono (fun _ _ h=>h.elim)).trans hu (fun _ _ h=>h))) ?_;clear hK K;have tX:=Lib.hid ((kK.out.same hs).kernel hk hu);have CR:=Lib.hid (Ag.out.trans (ah.mono ((Up.bK hs).trans tX.out.2) (fun _ _ hn hb=>hn (.inl hb))));have hB2:∀ b,(B b∨b=w.heap.size)→b<w2.heap.size:=fun b hb=>Nat.lt_of_lt_of_le (HB1.out b hb) (Nat.le_trans hs.size hu.size)
  have HB2:=Lib.hid hB2;replace HO:=Lib.hid (tX.out.2.kept (HO.out.ag hs id) (.inr rfl));clear hk hu hs hB2 hxl c0 c1 c2 o0 o1 o2 o3 ol d0 d1 rl hbl;repeat (any_goals (first | go_big_quiet_step (fail) | quiet_step (fail)))
  refine wpQuiet_nil ?_;by_cases hE:E=0
  ·subst hE;have hP:=HP.out;rw[if_pos rfl] at hP;replace HP:=Lib.hid hP;clear hP;have hX2:=tX.out.1;have hxl:=hX2.blk.lt;have c2:=hX2.c2;simp only at c2;rw[HL.out,Kk.out] at c2;have o1:=HO.out.cell 1;have ol:=HO.out.lt;simp at o1;have hds:=hX2.held;rw[Kk.out] at hds;have fk:=Own.free hds m;obtain⟨hb',hA',hbl,d1⟩:=hds.dQ (c:=fun x:Int=>.int .i64 x) Un.out;injection hA' with hA'
   injection hA' with hA'
   subst hA';have hpt:=Own.l5 (c:=fun x:Int=>.int .i64 x) hds (i:=m) (by rw[HL.out];exact HHM.out) (c+1);have hne:xb≠hb:=fun h=>hX2.held.av hX2.blk (by decide) _ Kk.out h.symm
   have hll:(x.held.set m (c+1)).length=x.held.length:=List.length_set ..;rw[← hll,← Kk.out] at hpt
   have hto:=hX2.uz (w':=w2.setCell ⟨hb,m,none⟩ (.int .i64 (c+1))) (hs:=x.held.set m (c+1)) (A2:=q.hA) (C2:=q.hC) ((ah.refl _ _).set m _ (.inr ⟨_,Kk.out,rfl⟩)) (by
    have hb:=hX2.blk.far (p:=⟨hb,m,none⟩) hne (.int .i64 (c+1))
    simpa [jQ] using hb) hpt (fun b hb=>.inl hb) HB2.out
   have oF:=Lib.hid hto;clear hto hpt hds hX2 hne hll;go_upto_region 14 with fail
   refine aJ (gW (fun b=>B b∨b=w.heap.size) xb q) [([0,1,2,3,4,5,6,7,8,9],10)] (by kernel_rfl) (by kernel_rfl) ?_;simp only[cK,pick,List.map_cons,List.map_nil,List.getD_cons_zero,List.getD_cons_succ];repeat (any_goals (first | go_big_quiet_step (fail) | quiet_step (fail)))
   refine wpQuiet_nil ?_;go_wp2;go_ret;have hP:=HP.out;subst hP;exact⟨rfl,⟨q,(oF.out.1.same ((ah.refl _ _).drew)).sub (fun _ hb=>.inl hb)⟩,(CR.out.trans (ah.mono oF.out.2 (fun _ _ hn hb=>hn (.inl hb)))).trans (Up.bK ((ah.refl _ _).drew))⟩
  ·have hP:=HP.out;rw[if_neg hE] at hP;subst hP;clear HP;go_wp2;go_ret;exact⟨rfl,⟨q,tX.out.1.sub (fun _ hb=>.inl hb)⟩,CR.out⟩
theorem step_drop (hX:RW B w xb x q) (hB:∀ b,B b→b<w.heap.size) (hl:x.held.length=x.refs.length) (hrg:∀ r∈x.refs,0≤r∧r<4294967296) (hcb:∀ c∈x.held,0≤c∧c≤1000000000000000) (i y z:Int) :
  Calls Tryz.prog 41 #[.pointer (some ⟨xb,0,none⟩),.agg #[.int .i64 3,.int .i64 i,.int .i64 y,.int .i64 z]] w (ng B w xb (eB x i)):=by
 have HX:=Lib.hid hX;have HB:=Lib.hid hB;have HL:=Lib.hid hl;have Qf:=Lib.hid hrg;have Mw:=Lib.hid hcb;obtain⟨P,hP⟩:∃ z,eB x i=z:=⟨_,rfl⟩;rw[hP];have HP:=Lib.hid hP;clear hX hB hl hrg hcb hP;go_enter Tryz.func41,Tryz.ntmps41;go_upto_region 1 with fail
 refine ai fun w1 hw1=>?_
 have hO:=ax.new w 60 #[.int .i64 3,.int .i64 i,.int .i64 y,.int .i64 z];have hs1:Same w w1:=by rw[hw1];exact(ah.refl _ _).alloc _
 rw[← hw1] at hO;clear hw1;have hX:=HX.out.also hs1 (C:=fun b=>b=w.heap.size) (fun b hb=>Nat.le_of_eq hb.symm);have hB1:∀ b,(B b∨b=w.heap.size)→b<w1.heap.size:=fun b hb=>hb.elim (fun h=>Nat.lt_of_lt_of_le (HB.out b h) hs1.size) (fun h=>by have:=hO.lt;omega)
 have hxl:=hX.blk.lt;have c0:=hX.c0;have c1:=hX.c1;have c2:=hX.c2;rw[HL.out] at c2;have o0:=hO.cell 0;have o1:=hO.cell 1;have o2:=hO.cell 2;have o3:=hO.cell 3;have ol:=hO.lt;simp at o0 o1 o2 o3;have n1:¬ gW (fun b=>B b∨b=w.heap.size) xb q xb:=fun h=>h (.inr (.inl rfl))
 have n2:¬ gW (fun b=>B b∨b=w.heap.size) xb q w.heap.size:=fun h=>h (.inl (.inr rfl))
 have HO:=Lib.hid hO;have aX:=Lib.hid hs1;have kK:=Lib.hid hX;have HB1:=Lib.hid hB1;have Ag:=Lib.hid (Up.bK hs1:Up B w w1);clear hO hs1 hX hB1;have pW:=fun w' (hs:Same w1 w')=>Ae (kK.out.same hs) HL.out i
 obtain⟨hbv,hh⟩:∃ z,hasB x i=z:=⟨_,rfl⟩;rw[hh] at pW;have Kb:=Lib.hid pW;clear pW;have hs:Same w1 w1.drew:=(ah.refl _ _).drew;cases hbv with
 | false =>
  have hP:P=(x,0):=by rw[← HP.out];unfold eB;rw[if_neg (fun h=>by rw[hh] at h;exact absurd h.1 (by decide))]
  subst hP;clear hh;go_upto_region 17 with fail
  refine aJ (fun _=>False) [([0,1,2],3),([4,5,6,7,8,9,10,11,12,13],14)] (by kernel_rfl) (by kernel_rfl) ?_;rw[aN];simp only[pick,List.map_cons,List.map_nil,List.getD_cons_zero,List.getD_cons_succ];repeat go_big_quiet_step (fail)
  refine wpQuiet_nil ?_;refine aa rfl fun K hK=>?_
  go_simp;refine(Kb.out _ hs).mono ?_;rintro e w2 ⟨rfl,rfl⟩;refine hK _ _ (aZ.bu hs) ?_;clear hK K;rw[aT];simp only[pick,List.map_cons,List.map_nil,List.getD_cons_zero,List.getD_cons_succ];repeat go_big_quiet_step (fail)
  rw[aA];go_wp2;go_ret;exact⟨rfl,⟨q,(kK.out.same hs).sub (fun _ hb=>.inl hb)⟩,Ag.out.trans (Up.bK hs)⟩
 | true =>
  obtain⟨m,rfl,hm⟩:=iA hh;obtain⟨r,hr⟩:∃ r,x.refs[m]?=some r:=⟨_,List.getElem?_eq_getElem hm⟩;obtain⟨c,hc⟩:∃ c,x.held[m]?=some c:=⟨_,List.getElem?_eq_getElem (by rw[HL.out];exact hm)⟩;have gr:=Qf.out r (List.mem_of_getElem? hr);have gc:=Mw.out c (List.mem_of_getElem? hc);have hI:(m:Int)<(x.refs.length:Int):=by omega
  have hrd:x.refs.getD (m:Int).toNat 0=r:=by rw[Int.toNat_natCast,List.getD_eq_getElem?_getD,hr];rfl
  have hcd:x.held.getD (m:Int).toNat 0=c:=by rw[Int.toNat_natCast,List.getD_eq_getElem?_getD,hc];rfl
  obtain⟨rb,hA,rl,d0⟩:=kK.out.refs.dQ (c:=rc) hr;obtain⟨hb,hA2,hbl,d1⟩:=kK.out.held.dQ (c:=fun x:Int=>.int .i64 x) hc;rw[hA] at c1;rw[hA2] at c2;unfold rc at d0;have n3:¬ gW (fun b=>B b∨b=w.heap.size) xb q rb:=fun h=>h (.inr (.inr (.inl ⟨_,hA,rfl⟩)))
  have n4:¬ gW (fun b=>B b∨b=w.heap.size) xb q hb:=fun h=>h (.inr (.inr (.inr ⟨_,hA2,rfl⟩)))
  have Kk:=Lib.hid hA2;have HHR:=Lib.hid hr;have YS:=Lib.hid hA;have Un:=Lib.hid hc;have HHM:=Lib.hid hm;clear hA hA2 hr hc hm;have hP:=HP.out;unfold eB at hP;rw[hrd,hcd] at hP;by_cases hc0:0<c
  ·rw[if_pos ⟨hh,hc0⟩] at hP;replace HP:=Lib.hid hP;clear hP hh hrd hcd;go_upto_region 17 with fail
   refine aJ (fun _=>False) [([0,1,2],3),([4,5,6,7,8,9,10,11,12,13],14)] (by kernel_rfl) (by kernel_rfl) ?_;rw[aN];simp only[pick,List.map_cons,List.map_nil,List.getD_cons_zero,List.getD_cons_succ];repeat go_big_quiet_step (fail)
   refine wpQuiet_nil ?_;refine aa rfl fun K hK=>?_
   go_simp;refine(Kb.out _ hs).mono ?_;rintro e w2 ⟨rfl,rfl⟩;refine hK _ _ (aZ.bu hs) ?_;clear hK K;rw[aT];simp only[pick,List.map_cons,List.map_nil,List.getD_cons_zero,List.getD_cons_succ];repeat go_big_quiet_step (fail)
   rw[aA];have hX2:=kK.out.same hs;have CR:=Lib.hid (Ag.out.trans (Up.bK hs));have HB2:Hid (∀ b,(B b∨b=w.heap.size)→b<w1.drew.heap.size):=Lib.hid (fun b hb=>Nat.lt_of_lt_of_le (HB1.out b hb) hs.size);replace HO:=Lib.hid (HO.out.ag hs id);clear hxl c0 c1 c2 o0 o1 o2 o3 ol d0 d1 hbl rl;generalize w1.drew=w2 at hX2 CR HB2 HO ⊢;have hxl:=hX2.blk.lt;have c2:=hX2.c2;rw[HL.out,Kk.out] at c2;have o1:=HO.out.cell 1;have ol:=HO.out.lt;simp at o1;have hds:=hX2.held;rw[Kk.out] at hds;have fk:=Own.free hds m;obtain⟨hb',hA',hbl,d1⟩:=hds.dQ (c:=fun x:Int=>.int .i64 x) Un.out;injection hA' with hA'
   injection hA' with hA'
   subst hA';have hpt:=Own.l5 (c:=fun x:Int=>.int .i64 x) hds (i:=m) (by rw[HL.out];exact HHM.out) (c-1);have hne:xb≠hb:=fun h=>hX2.held.av hX2.blk (by decide) _ Kk.out h.symm
   have hll:(x.held.set m (c-1)).length=x.held.length:=List.length_set ..;rw[← hll,← Kk.out] at hpt
   have hto:=hX2.uz (w':=w2.setCell ⟨hb,m,none⟩ (.int .i64 (c-1))) (hs:=x.held.set m (c-1)) (A2:=q.hA) (C2:=q.hC) ((ah.refl _ _).set m _ (.inr ⟨_,Kk.out,rfl⟩)) (by
    have hb:=hX2.blk.far (p:=⟨hb,m,none⟩) hne (.int .i64 (c-1))
    simpa [jQ] using hb) hpt (fun b hb=>.inl hb) HB2.out
   have oF:=Lib.hid hto;clear hto hpt hds hX2 hne hll;go_upto_region 18 with fail
   refine aJ (gW (fun b=>B b∨b=w.heap.size) xb q) [([0,1,2,3,4,5,6,7,8,9],10)] (by kernel_rfl) (by kernel_rfl) ?_;simp only[cK,pick,List.map_cons,List.map_nil,List.getD_cons_zero,List.getD_cons_succ];repeat (any_goals (first | go_big_quiet_step (fail) | quiet_step (fail)))
   refine wpQuiet_nil ?_;go_upto_region 19 with fail
   have qI:=oF.out.1.same (w':=(w2.setCell ⟨hb,m,none⟩ (.int .i64 (c-1))).drew) ((ah.refl _ _).drew);have xM:Hid (Up (fun b=>B b∨b=w.heap.size) w2 (w2.setCell ⟨hb,m,none⟩ (.int .i64 (c-1))).drew):=Lib.hid (oF.out.2.trans (Up.bK ((ah.refl _ _).drew)));clear hs hxl c2 o1 ol d1 hbl fk;generalize (w2.setCell ⟨hb,m,none⟩ (.int .i64 (c-1))).drew=w3 at qI xM ⊢;replace HO:=Lib.hid (xM.out.kept HO.out (.inr rfl));have hxl:=qI.blk.lt;have c0:=qI.c0;have c1:=qI.c1;have o1:=HO.out.cell 1;have ol:=HO.out.lt;simp at o1;simp only at c0 c1;obtain⟨rb',hA',rl,d0⟩:=qI.refs.dQ (c:=rc) HHR.out;simp only at hA';rw[hA'] at c1;have hrb:rb'=rb:=by
    have h1:=YS.out;rw[hA'] at h1;injection h1 with h1
    injection h1
   subst hrb;unfold rc at d0;have R4:=Lib.hid qI;have hB3:∀ b,(B b∨b=w.heap.size)→b<w3.heap.size:=fun b hb=>Nat.lt_of_lt_of_le (HB2.out b hb) xM.out.size
   have hkk:=fun w' (hs:Same w3 w')=>GI (R4.out.k.same hs) (fun b hb=>Nat.lt_of_lt_of_le (R4.out.all hB3 b hb) hs.size) r gr.1 gr.2
   simp only at hkk;obtain⟨⟨E,k'⟩,Rs⟩:∃ z,aD x.k r=z:=⟨_,rfl⟩;have hP:=HP.out;rw[Rs] at hkk hP;simp only at hkk hP;have HKK:=Lib.hid hkk;replace HP:=Lib.hid hP;clear hkk hP Rs hA' qI hB3;refine aJ (gW (fun b=>B b∨b=w.heap.size) xb q) [([0,1,2,3,4,5,6,7,8,9,10,11],12),([],13)] (by kernel_rfl) (by kernel_rfl) ?_;simp only[cK,pick,List.map_cons,List.map_nil,List.getD_cons_zero,List.getD_cons_succ];have hs:Same w3 w3.drew:=(ah.refl _ _).drew;repeat (any_goals (first | go_big_quiet_step (fail) | quiet_step (fail)))
   refine wpQuiet_nil ?_;refine aa rfl fun K hK=>?_
   go_simp;refine(HKK.out _ hs).mono ?_;rintro e w4 ⟨rfl,hk,hu⟩;refine hK _ _ (aZ.bu ((hs.mono (fun _ _ h=>h.elim)).trans hu (fun _ _ h=>h))) ?_;clear hK K;have FZ:=Lib.hid ((R4.out.same hs).kernel hk hu);have abF:=Lib.hid (CR.out.trans (ah.mono ((xM.out.trans (Up.bK hs)).trans FZ.out.2) (fun _ _ hn hb=>hn (.inl hb))));clear hk hu hs;repeat (any_goals (first | go_big_quiet_step (fail) | quiet_step (fail)))
   refine wpQuiet_nil ?_;go_wp2;go_ret;have hP:=HP.out;subst hP;exact⟨rfl,⟨q,FZ.out.1.sub (fun _ hb=>.inl hb)⟩,abF.out⟩
  ·rw[if_neg (fun h=>hc0 h.2)] at hP;subst hP;clear HP hh hrd hcd;go_upto_region 17 with fail
   refine aJ (fun _=>False) [([0,1,2],3),([4,5,6,7,8,9,10,11,12,13],14)] (by kernel_rfl) (by kernel_rfl) ?_;rw[aN];simp only[pick,List.map_cons,List.map_nil,List.getD_cons_zero,List.getD_cons_succ];repeat go_big_quiet_step (fail)
   refine wpQuiet_nil ?_;refine aa rfl fun K hK=>?_
   go_simp;refine(Kb.out _ hs).mono ?_;rintro e w2 ⟨rfl,rfl⟩;refine hK _ _ (aZ.bu hs) ?_;clear hK K;rw[aT];simp only[pick,List.map_cons,List.map_nil,List.getD_cons_zero,List.getD_cons_succ];repeat go_big_quiet_step (fail)
   rw[aA];go_wp2;go_ret;exact⟨rfl,⟨q,(kK.out.same hs).sub (fun _ hb=>.inl hb)⟩,Ag.out.trans (Up.bK hs)⟩
theorem JI (hX:RW B w xb x q) (hB:∀ b,B b→b<w.heap.size) (hl:x.held.length=x.refs.length) (hrg:∀ r∈x.refs,0≤r∧r<4294967296) (v b c:Int) (hrl:x.refs.length≤1000000) :
  Calls Tryz.prog 41 #[.pointer (some ⟨xb,0,none⟩),.agg #[.int .i64 1,.int .i64 v,.int .i64 b,.int .i64 c]] w (ng B w xb (gV x v b c)):=by
 have HX:=Lib.hid hX;have HB:=Lib.hid hB;have HL:=Lib.hid hl;have Qf:=Lib.hid hrg;obtain⟨P,hP⟩:∃ z,gV x v b c=z:=⟨_,rfl⟩;rw[hP];have HP:=Lib.hid hP;clear hX hB hl hrg hP;go_enter Tryz.func41,Tryz.ntmps41;go_upto_region 1 with fail
 refine ai fun w1 hw1=>?_
 have hO:=ax.new w 60 #[.int .i64 1,.int .i64 v,.int .i64 b,.int .i64 c];have hs1:Same w w1:=by rw[hw1];exact(ah.refl _ _).alloc _
 rw[← hw1] at hO;clear hw1;have hX:=HX.out.also hs1 (C:=fun b=>b=w.heap.size) (fun b hb=>Nat.le_of_eq hb.symm);have hB1:∀ b,(B b∨b=w.heap.size)→b<w1.heap.size:=fun b hb=>hb.elim (fun h=>Nat.lt_of_lt_of_le (HB.out b h) hs1.size) (fun h=>by have:=hO.lt;omega)
 have hxl:=hX.blk.lt;have c0:=hX.c0;have c1:=hX.c1;have c2:=hX.c2;rw[HL.out] at c2;have o0:=hO.cell 0;have o1:=hO.cell 1;have o2:=hO.cell 2;have o3:=hO.cell 3;have ol:=hO.lt;simp at o0 o1 o2 o3;have n1:¬ gW (fun b=>B b∨b=w.heap.size) xb q xb:=fun h=>h (.inr (.inl rfl))
 have n2:¬ gW (fun b=>B b∨b=w.heap.size) xb q w.heap.size:=fun h=>h (.inl (.inr rfl))
 have HO:=Lib.hid hO;have aX:=Lib.hid hs1;have kK:=Lib.hid hX;have HB1:=Lib.hid hB1;have Ag:=Lib.hid (Up.bK hs1:Up B w w1);clear hO hs1 hX hB1;have pW:=fun i=>Ae kK.out HL.out i
 have Kb:=Lib.hid pW;clear pW;obtain⟨hbv,hh⟩:∃ z,hasB x b=z:=⟨_,rfl⟩;obtain⟨hcv,KX⟩:∃ z,hasB x c=z:=⟨_,rfl⟩;have hhb:=Kb.out b;have Vo:=Kb.out c;rw[hh] at hhb;rw[KX] at Vo;have HHB:=Lib.hid hhb;have Un:=Lib.hid Vo;clear hhb Vo;cases hbv with
 | false =>
  have hP:P=(x,0):=by rw[← HP.out];unfold gV;rw[if_neg (fun h=>by rw[hh] at h;exact absurd h.1 (by decide))]
  subst hP;clear hh KX;go_wp2_with (fail)
  refine HHB.out.mono ?_;rintro e w2 ⟨rfl,rfl⟩;go_wp2;go_ret;exact⟨rfl,⟨q,kK.out.sub (fun _ hb=>.inl hb)⟩,Ag.out⟩
 | true =>
  cases hcv with
  | false =>
   have hP:P=(x,0):=by rw[← HP.out];unfold gV;rw[if_neg (fun h=>by rw[KX] at h;exact absurd h.2.1 (by decide))]
   subst hP;clear hh KX;go_wp2_with (fail)
   refine HHB.out.mono ?_;rintro e w2 ⟨rfl,rfl⟩;go_wp2_with (fail)
   refine Un.out.mono ?_;rintro e w2 ⟨rfl,rfl⟩;go_wp2;go_ret;exact⟨rfl,⟨q,kK.out.sub (fun _ hb=>.inl hb)⟩,Ag.out⟩
  | true =>
   by_cases h60:x.refs.length<60
   ·have hP:=HP.out;unfold gV at hP;rw[if_pos ⟨hh,KX,h60⟩] at hP;obtain⟨m,rfl,hm⟩:=iA hh;obtain⟨m2,rfl,hm2⟩:=iA KX;have hI:(m:Int)<(x.refs.length:Int):=by omega
    have hI2:(m2:Int)<(x.refs.length:Int):=by omega
    have hJ:(x.refs.length:Int)<60:=by omega
    obtain⟨r,hr⟩:∃ r,x.refs[m]?=some r:=⟨_,List.getElem?_eq_getElem hm⟩;obtain⟨r2,hr2⟩:∃ r,x.refs[m2]?=some r:=⟨_,List.getElem?_eq_getElem hm2⟩;have gr:=Qf.out r (List.mem_of_getElem? hr);have gr2:=Qf.out r2 (List.mem_of_getElem? hr2);have hrd:x.refs.getD (m:Int).toNat 0=r:=by rw[Int.toNat_natCast,List.getD_eq_getElem?_getD,hr];rfl
    have YT:x.refs.getD (m2:Int).toNat 0=r2:=by rw[Int.toNat_natCast,List.getD_eq_getElem?_getD,hr2];rfl
    rw[hrd,YT] at hP;obtain⟨rb,hA,rl,d0⟩:=kK.out.refs.dQ (c:=rc) hr;obtain⟨rb2,hA2,_,d1⟩:=kK.out.refs.dQ (c:=rc) hr2;rw[hA] at hA2 c1;injection hA2 with hA2
    injection hA2 with hA2
    subst hA2;unfold rc at d0 d1;have n3:¬ gW (fun b=>B b∨b=w.heap.size) xb q rb:=fun h=>h (.inr (.inr (.inl ⟨_,hA,rfl⟩)))
    have hkk:=fun w' (hs:Same w1 w')=>P9 (kK.out.k.same hs) (fun b hb=>Nat.lt_of_lt_of_le (kK.out.all HB1.out b hb) hs.size) ⟨v,r,r2⟩ gr.1 gr.2 gr2.1 gr2.2
    obtain⟨⟨z,E,k'⟩,Rs⟩:∃ y,ay x.k ⟨v,r,r2⟩=y:=⟨_,rfl⟩;rw[Rs] at hkk hP;simp only at hkk hP;have HKK:=Lib.hid hkk;replace HP:=Lib.hid hP;have Kk:=Lib.hid hA;clear hkk hP Rs hh KX hrd YT hr hr2 hA gr gr2 Kb;go_wp2_with (fail)
    refine HHB.out.mono ?_;rintro e w2 ⟨rfl,rfl⟩;go_wp2_with (fail)
    refine Un.out.mono ?_;rintro e w2 ⟨rfl,rfl⟩;go_upto_region 5 with fail
    refine aJ (gW (fun b=>B b∨b=w.heap.size) xb q) [([0,1,2,3,4,5,6,7,8,9,10,11,12,13,14,15,16,17,18,19,20,21],22),([23,24,25,26],27)] (by kernel_rfl) (by kernel_rfl) ?_;simp only[cK,pick,List.map_cons,List.map_nil,List.getD_cons_zero,List.getD_cons_succ];have hs:Same w1 w1.drew:=(ah.refl _ _).drew;repeat (any_goals (first | go_big_quiet_step (fail) | quiet_step (fail)))
    refine wpQuiet_nil ?_;refine aa rfl fun K hK=>?_
    go_simp;refine(HKK.out _ hs).mono ?_;rintro e w2 ⟨rfl,hk,hu⟩;refine hK _ _ (aZ.bu ((hs.mono (fun _ _ h=>h.elim)).trans hu (fun _ _ h=>h))) ?_;clear hK K;have tX:=Lib.hid ((kK.out.same hs).kernel hk hu);have CR:=Lib.hid (Ag.out.trans (ah.mono ((Up.bK hs).trans tX.out.2) (fun _ _ hn hb=>hn (.inl hb))));have HB2:Hid (∀ b,B b→b<w2.heap.size):=Lib.hid (fun b hb=>Nat.lt_of_lt_of_le (HB1.out b (.inl hb)) (Nat.le_trans hs.size hu.size));clear hk hu hs hxl c0 c1 c2 o0 o1 o2 o3 ol d0 d1 rl n1 n2 n3;repeat (any_goals (first | go_big_quiet_step (fail) | quiet_step (fail)))
    refine wpQuiet_nil ?_;by_cases hE:E=0
    ·subst hE;have hP:=HP.out;rw[if_pos rfl] at hP;replace HP:=Lib.hid hP;have hX2:=tX.out.1.sub (B':=B) (fun _ hb=>.inl hb);clear hP tX;have hxl:=hX2.blk.lt;have c1:=hX2.c1;simp only at c1;have tX:=Lib.hid hX2;clear hX2;go_upto_region 7 with fail
     refine aV 6 ?_;simp only[List.take_succ_cons,List.take_zero,List.drop_succ_cons,List.drop_zero];repeat (any_goals (first | go_big_quiet_step (fail) | quiet_step (fail)))
     refine wpQuiet_nil ?_;refine wpList_plain rfl fun K hK=>?_
     go_simp;refine hK _ _ ?_;clear hK K;refine aQ fun wa dR=>?_
     have Qg:=ax.new w2 28 #[.int .u32 z];have hsa:Same w2 wa:=by rw[dR];exact(ah.refl _ _).alloc _
     rw[← dR] at Qg;clear dR;have Qh:=tX.out.same hsa;have hrow:Row1 wa 28 rc q.rA x.refs.length q.rC x.refs:=Qh.refs;refine Own.aR (f:=fun x=>[rc x]) rfl (.tmp 66) (.tmp 68) _ rfl Tryz.underlying40 iE rfl (by omega) rfl hrow (fun _=>rfl) z w2.heap.size 1 rfl (by simpa [rc] using Qg) (by simp[Value.oneCell',rc]) (by unfold maxLen;omega) (by omega) ?_;intro gg cap wb hOb hgb hat
     have hbb:=Qh.blk.grown hgb (fun hx=>by
      obtain⟨y,hy,hyb⟩:=af.1 hx.symm
      exact hrow.av Qh.blk (by decide) y hy hyb)
     have f1:=hbb.free 1;have d1:=hbb.cell 1;have hpb:=hbb.lt;simp[jQ] at d1;have hfr:ah (fun b=>b=xb∨rowOf q.rA b) w2 wb:=(ah.mono hsa (fun _ _ h=>h.elim)).grown hgb (fun g hg=>.inl (.inr (af.1 hg)))
     have hto:=tX.out.uy (w':=wb.setCell ⟨xb,1,none⟩ (.slice (some ⟨gg,0,none⟩) (x.refs.length+1) cap)) (rs:=x.refs++[z]) (A2:=some ⟨gg,0,none⟩) (C2:=cap) (hfr.set 1 _ (.inl rfl)) (by
       have:=hbb.set 1 (.slice (some ⟨gg,0,none⟩) (x.refs.length+1) cap)
       simpa [jQ] using this)
      (by
       have:=Own.far (p:=⟨xb,1,none⟩) hOb (fun y hy h=>Own.av hOb hbb (by decide) y hy h) (.slice (some ⟨gg,0,none⟩) (x.refs.length+1) cap)
       rw[List.length_append]
       exact this)
      (fun b hb=>by
       obtain⟨y,hy,rfl⟩:=hb;injection hy with hy
       subst hy;rcases hat with h | h
       ·exact .inl (af.1 h)
       ·have:=hsa.size
        exact .inr (by simp only;omega)) HB2.out
     have oF:=Lib.hid hto;have HB3:Hid (∀ b,B b→b<(wb.setCell ⟨xb,1,none⟩ (.slice (some ⟨gg,0,none⟩) (x.refs.length+1) cap)).heap.size):=Lib.hid (fun b hb=>by rw[size_setCell];have:=HB2.out b hb;have:=hfr.size;omega);clear hbb hfr hto hOb hgb hat hrow Qh Qg hsa c1 hxl;go_upto_region 8 with fail
     generalize wb.setCell ⟨xb,1,none⟩ (.slice (some ⟨gg,0,none⟩) (x.refs.length+1) cap)=w3 at oF HB3 ⊢;clear f1 d1 hpb;have qI:=oF.out.1;have hxl:=qI.blk.lt;have c2:=qI.c2;simp only at c2;rw[HL.out] at c2;clear qI;refine aV 5 ?_;simp only[List.take_succ_cons,List.take_zero,List.drop_succ_cons,List.drop_zero];repeat (any_goals (first | go_big_quiet_step (fail) | quiet_step (fail)))
     refine wpQuiet_nil ?_;refine wpList_plain rfl fun K hK=>?_
     go_simp;refine hK _ _ ?_;clear hK K;refine aQ fun wc hwc=>?_
     have Qg:=ax.new w3 3 #[.int .i64 1];have hsa:Same w3 wc:=by rw[hwc];exact(ah.refl _ _).alloc _
     rw[← hwc] at Qg;clear hwc;have Qh:=oF.out.1.same hsa;have hrow:gq wc 3 q.hA x.refs.length q.hC x.held:=by have:=Qh.held;simp only at this;rw[HL.out] at this;exact this
     refine Own.aR (f:=eU) rfl (.tmp 76) (.tmp 77) _ rfl Tryz.underlying46 jN rfl (by omega) rfl hrow fu 1 w3.heap.size 1 rfl (by simpa [eU] using Qg) (by simp[Value.oneCell',eU]) (by rw[HL.out];unfold maxLen;omega) (by rw[HL.out];omega) ?_;intro gh cah wd hOb hgb hat
     have hbb:=Qh.blk.grown hgb (fun hx=>by
      obtain⟨y,hy,hyb⟩:=af.1 hx.symm
      exact hrow.av Qh.blk (by decide) y hy hyb)
     have f2:=hbb.free 2;have d2:=hbb.cell 2;have hpb:=hbb.lt;simp[jQ] at d2;have hfr:ah (fun b=>b=xb∨rowOf q.hA b) w3 wd:=(ah.mono hsa (fun _ _ h=>h.elim)).grown hgb (fun g hg=>.inl (.inr (af.1 hg)))
     have hto:=oF.out.1.uz (w':=wd.setCell ⟨xb,2,none⟩ (.slice (some ⟨gh,0,none⟩) (x.refs.length+1) cah)) (hs:=x.held++[1]) (A2:=some ⟨gh,0,none⟩) (C2:=cah) (hfr.set 2 _ (.inl rfl)) (by
       have:=hbb.set 2 (.slice (some ⟨gh,0,none⟩) (x.refs.length+1) cah)
       simpa [jQ,HL.out] using this)
      (by
       have:=Own.far (p:=⟨xb,2,none⟩) hOb (fun y hy h=>Own.av hOb hbb (by decide) y hy h) (.slice (some ⟨gh,0,none⟩) (x.refs.length+1) cah)
       rw[List.length_append,HL.out]
       exact this)
      (fun b hb=>by
       obtain⟨y,hy,rfl⟩:=hb;injection hy with hy
       subst hy;rcases hat with h | h
       ·exact .inl (af.1 h)
       ·have:=hsa.size
        exact .inr (by simp only;omega)) HB3.out
     have YU:=Lib.hid hto;clear hbb hfr hto hOb hgb hat hrow Qh Qg hsa c2 hxl;go_wp2;go_ret;have hP:=HP.out;subst hP;exact⟨rfl,⟨_,YU.out.1⟩,(CR.out.trans oF.out.2).trans YU.out.2⟩
    ·have hP:=HP.out;rw[if_neg hE] at hP;subst hP;clear HP;go_wp2;go_ret;exact⟨rfl,⟨q,tX.out.1.sub (fun _ hb=>.inl hb)⟩,CR.out⟩
   ·have hJ:¬ (x.refs.length:Int)<60:=by omega
    have hP:P=(x,0):=by rw[← HP.out];unfold gV;rw[if_neg (fun h=>by exact h60 h.2.2)]
    subst hP;clear hh KX;go_wp2_with (fail)
    refine HHB.out.mono ?_;rintro e w2 ⟨rfl,rfl⟩;go_wp2_with (fail)
    refine Un.out.mono ?_;rintro e w2 ⟨rfl,rfl⟩;go_wp2;go_ret;exact⟨rfl,⟨q,kK.out.sub (fun _ hb=>.inl hb)⟩,Ag.out⟩
end
def hsum (refs held:List Int) (r:Int):Nat→Int
 | 0=>0
 | j+1=>if refs.getD j 0=r∧0<held.getD j 0 then hsum refs held r j+held.getD j 0 else hsum refs held r j
theorem nU (refs held:List Int) (r:Int):∀ (n j:Nat),j≤n→hsum refs held r j≤hsum refs held r n
 | 0,j,h=>by
  obtain rfl:j=0:=by omega
  exact Int.le_refl _
 | n+1,j,h=>by
  by_cases hj:j=n+1
  ·subst hj;exact Int.le_refl _
  ·have:=nU refs held r n j (by omega)
   show _≤(if refs.getD n 0=r∧0<held.getD n 0 then hsum refs held r n+held.getD n 0 else hsum refs held r n);split
   ·rename_i h1;omega
   ·exact this
theorem GL (refs held:List Int) (r:Int) (j:Nat):0≤hsum refs held r j:=nU refs held r j 0 (Nat.zero_le _)
theorem qF {refs held:List Int} {r:Int} {j n:Nat} (hj:j<n) (h1:refs.getD j 0=r) (h2:0<held.getD j 0):held.getD j 0≤hsum refs held r n:=by
 have h3:=nU refs held r n (j+1) hj;have h4:=GL refs held r j;have h5:hsum refs held r (j+1)=hsum refs held r j+held.getD j 0:=if_pos ⟨h1,h2⟩;omega
theorem ni {l:List Int} {n:Nat} {r:Int}:r∈dG l n↔∃ i:Nat,r=i∧i<n∧0<l.getD i 0:=by
 unfold dG;rw[List.mem_map];constructor
 ·rintro⟨i,hi,rfl⟩;rw[List.mem_filter,List.mem_range] at hi;exact⟨i,rfl,hi.1,by simpa using hi.2⟩
 ·rintro⟨i,rfl,h1,h2⟩;exact⟨i,List.mem_filter.2 ⟨List.mem_range.2 h1,by simpa using h2⟩,rfl⟩
theorem Ah (l:List Int) (n:Nat):(dG l n).Pairwise (· < ·):=by
 unfold dG;rw[List.pairwise_map];refine List.Pairwise.imp (R:=(· < ·)) (fun h=>by omega) ?_;exact List.Pairwise.sublist List.filter_sublist List.pairwise_lt_range
theorem yS {k:KS} (K:KI k):∀ r∈aU k,2≤r∧0<k.hs.getD r.toNat 0:=by
 intro r hr;obtain⟨i,rfl,h1,h2⟩:=ni.1 hr;refine⟨?_,by simpa using h2⟩;rw[List.getD_eq_getElem?_getD,List.getElem?_eq_getElem h1] at h2;obtain⟨n,hn⟩:=(K.bk.hol i _ (List.getElem?_eq_getElem h1)).2.2 (by simp at h2;omega);rw[List.append_nil] at hn;exact(K.mem' hn).1
def Held (x:RS):Prop:=∀ r:Int,2≤r→hsum x.refs x.held r x.refs.length=x.k.hs.getD r.toNat 0
section
variable {w w':World} {B:Nat→Prop} {xb:Nat} {x:RS} {q:RA}
theorem Ff (hX:RW B w xb x q) (hl:x.held.length=x.refs.length) (hrg:∀ r∈x.refs,0≤r∧r<4294967296) (hcb:∀ c∈x.held,0≤c∧c≤1000000000000000) (hrl:x.refs.length≤1000000) (hh:Held x)
  (A:Option Addr) (C:Nat) (hA:Row1 w 28 rc A (aU x.k).length C (aU x.k)) :
  Calls Tryz.prog 84 #[.pointer (some ⟨xb,0,none⟩),.slice A (aU x.k).length C] w fun e w'=>e=.returned (.bool true)∧w=w':=by
 have hxl:=hX.blk.lt;have c0:=hX.c0;have c1:=hX.c1;have c2:=hX.c2;rw[hl] at c2;have hrr:=sV hX.k.ki;have hr2:=yS hX.k.ki;have UL:(aU x.k).Pairwise (· < ·):=Ah _ _;have abG:=rX hX.k.ki;have hmem:∀ r:Int,2≤r→0<x.k.hs.getD r.toNat 0→r∈aU x.k:=fun r h2 h0=>by
  refine ni.2 ⟨r.toNat,by omega,?_,h0⟩;rw[List.getD_eq_getElem?_getD] at h0;cases hx:x.k.hs[r.toNat]? with
  | none=>rw[hx] at h0;exact absurd h0 (by decide)
  | some y=>exact(List.getElem?_eq_some_iff.1 hx).1
 have QS:∀ r:Int,x.k.hs.getD r.toNat 0≤65535:=fun r=>by
  rw[List.getD_eq_getElem?_getD];cases hx:x.k.hs[r.toNat]? with
  | none=>simp
  | some y=>exact(hX.k.ki.bk.hol _ y hx).2.1
 have hkh:=fun (r:Int) (h0:0≤r) (h1:r<4294967296)=>Qd hX.k r h0 h1
 obtain⟨RL,YV⟩:∃ z,aU x.k=z:=⟨_,rfl⟩;rw[YV] at hA hrr hr2 UL abG hmem ⊢;have HX:=Lib.hid hX;have HL:=Lib.hid hl;have Qf:=Lib.hid hrg;have Mw:=Lib.hid hcb;have HH:=Lib.hid hh;have HA:=Lib.hid hA;have HRR:=Lib.hid hrr;have HR2:=Lib.hid hr2;have HRI:=Lib.hid UL;have YP:=Lib.hid hmem;have HHL:=Lib.hid QS;have HKH:=Lib.hid hkh;clear hX hl hrg hcb hh hA hrr hr2 UL hmem QS hkh YV;go_enter Tryz.func84,Tryz.ntmps84;go_wp2_with (fail)
 go_loopw [12] (fun s wr=>∃ i:Nat,i≤RL.length∧s=.int .i64 i∧w=wr) (fun s _=>RL.length-(intOf s).toNat)
 case atStart=>exact⟨0,by omega,rfl,rfl⟩
 case round =>
  obtain⟨i,hi,rfl,rfl⟩:=hrel;by_cases hlt:i<RL.length
  ·have hI:(i:Int)<(RL.length:Int):=by omega
   obtain⟨r,hr⟩:∃ r,RL[i]?=some r:=⟨_,List.getElem?_eq_getElem hlt⟩;obtain⟨sb,hA1,hsb,d0⟩:=HA.out.dQ (c:=rc) hr;unfold rc at d0;obtain⟨r2,rh⟩:=HR2.out r (List.mem_of_getElem? hr);obtain⟨r0,r1⟩:=HRR.out r (List.mem_of_getElem? hr);have Ni:=HH.out r r2;have hle:=HHL.out r;have hkh:=HKH.out r r0 r1;obtain⟨c,hc⟩:∃ z,x.k.hs.getD r.toNat 0=z:=⟨_,rfl⟩;rw[hc] at rh Ni hle hkh;have CS:i=0∨∃ i' r',i=i'+1∧RL[i']?=some r'∧¬ r≤r':=by
    by_cases h0:i=0
    ·exact .inl h0
    ·refine .inr ⟨i-1,RL[i-1],by omega,List.getElem?_eq_getElem (by omega),?_⟩;have h1:=List.pairwise_iff_getElem.1 HRI.out (i-1) i (by omega) hlt (by omega);rw[List.getElem?_eq_getElem hlt] at hr;injection hr with hr
     rw[hr] at h1;omega
   have EH:=Lib.hid Ni;have YW:=Lib.hid hkh;have Qi:=Lib.hid CS;clear Ni hkh CS hr hc;subst hA1;go_wp2_with (fail)
   go_loopw [7,22] (fun s7 s22 wr=>∃ j:Nat,j≤x.refs.length∧s22=.int .i64 j∧s7=.int .i64 (hsum x.refs x.held r j)∧w=wr) (fun s7 s22 _=>x.refs.length-(intOf s22).toNat)
   case atStart=>exact⟨0,by omega,rfl,rfl,rfl⟩
   case round =>
    obtain⟨j,hj,rfl,rfl,rfl⟩:=hrel;by_cases hjl:j<x.refs.length
    ·have hJ:(j:Int)<(x.refs.length:Int):=by omega
     obtain⟨y,hy⟩:∃ y,x.refs[j]?=some y:=⟨_,List.getElem?_eq_getElem hjl⟩;obtain⟨z,hz⟩:∃ z,x.held[j]?=some z:=⟨_,List.getElem?_eq_getElem (by rw[HL.out];exact hjl)⟩;obtain⟨rb,hA,rl,d1⟩:=HX.out.refs.dQ (c:=rc) hy;obtain⟨hb,hA2,hbl,d2⟩:=HX.out.held.dQ (c:=fun x:Int=>.int .i64 x) hz;have hstep:hsum x.refs x.held r (j+1)=if y=r∧0<z then hsum x.refs x.held r j+z else hsum x.refs x.held r j:=by
      show(if x.refs.getD j 0=r∧0<x.held.getD j 0 then hsum x.refs x.held r j+x.held.getD j 0 else hsum x.refs x.held r j)=_;rw[List.getD_eq_getElem?_getD,List.getD_eq_getElem?_getD,hy,hz];rfl
     have hm:=nU x.refs x.held r x.refs.length (j+1) hjl;rw[EH.out] at hm;have hn:=GL x.refs x.held r j;rw[hA] at c1;rw[hA2] at c2;unfold rc at d1;obtain⟨t,ht⟩:∃ t,hsum x.refs x.held r j=t:=⟨_,rfl⟩;rw[ht] at hstep hn ⊢;clear hy hz hA hA2 ht;by_cases hyr:y=r
     ·by_cases hz0:0<z
      ·rw[if_pos ⟨hyr,hz0⟩] at hstep;rw[hstep] at hm;have HST:=Lib.hid hstep;clear hstep;go_wp2;go_roundw
       case rel=>exact⟨j+1,by omega,by go_num,by rw[HST.out],trivial⟩
       case measure=>simp[intOf] <;> omega
      ·rw[if_neg (fun h=>hz0 h.2)] at hstep;have HST:=Lib.hid hstep;clear hstep hm;go_wp2;go_roundw
       case rel=>exact⟨j+1,by omega,by go_num,by rw[HST.out],trivial⟩
       case measure=>simp[intOf] <;> omega
     ·rw[if_neg (fun h=>hyr h.1)] at hstep;have HST:=Lib.hid hstep;clear hstep hm;go_wp2;go_roundw
      case rel=>exact⟨j+1,by omega,by go_num,by rw[HST.out],trivial⟩
      case measure=>simp[intOf] <;> omega
    ·obtain rfl:j=x.refs.length:=by omega
     have hJ:¬ ((x.refs.length:Nat):Int)<(x.refs.length:Int):=by omega
     rw[EH.out];have e0:(c == 0)=false:=by
      have:c≠0:=by omega
      simpa using this
     have e1:(c != c)=false:=by simp
     have hr2':¬ r<2:=by omega
     rcases Qi.out with rfl | ⟨i',r',rfl,hr',hrr⟩
     ·go_wp2_with (fail)
      refine YW.out.mono ?_;rintro e wy ⟨rfl,rfl⟩;go_wp2;go_roundw
      case rel=>exact⟨1,by omega,by go_num,trivial⟩
      case measure=>simp[intOf] <;> omega
     ·obtain⟨sb',hA',tu,d1⟩:=HA.out.dQ (c:=rc) hr';injection hA' with hA'
      injection hA' with hA'
      subst hA';unfold rc at d1;have hk1:(0:Int)<(i':Int)+1:=by omega
      have hk2:(i':Int)<RL.length:=by omega
      go_wp2_with (fail)
      refine YW.out.mono ?_;rintro e wy ⟨rfl,rfl⟩;go_wp2;go_roundw
      case rel=>exact⟨i'+2,by omega,by go_num,trivial⟩
      case measure=>simp[intOf] <;> omega
  ·obtain rfl:i=RL.length:=by omega
   have hI:¬ ((RL.length:Nat):Int)<(RL.length:Int):=by omega
   go_wp2_with (fail)
   go_loopw [89] (fun s wr=>∃ j:Nat,j≤x.refs.length∧s=.int .i64 j∧w=wr) (fun s _=>x.refs.length-(intOf s).toNat)
   case atStart=>exact⟨0,by omega,rfl,rfl⟩
   case round =>
    obtain⟨j,hj,rfl,rfl⟩:=hrel;by_cases hjl:j<x.refs.length
    ·have hJ:(j:Int)<(x.refs.length:Int):=by omega
     obtain⟨y,hy⟩:∃ y,x.refs[j]?=some y:=⟨_,List.getElem?_eq_getElem hjl⟩;obtain⟨z,hz⟩:∃ z,x.held[j]?=some z:=⟨_,List.getElem?_eq_getElem (by rw[HL.out];exact hjl)⟩;obtain⟨rb,hA,rl,d1⟩:=HX.out.refs.dQ (c:=rc) hy;obtain⟨hb,hA2,hbl,d2⟩:=HX.out.held.dQ (c:=fun x:Int=>.int .i64 x) hz;have hin:2≤y→0<z→0≤JA RL y:=fun h2 h0=>by
      have e1:x.refs.getD j 0=y:=by rw[List.getD_eq_getElem?_getD,hy];rfl
      have e2:x.held.getD j 0=z:=by rw[List.getD_eq_getElem?_getD,hz];rfl
      have h3:=qF (refs:=x.refs) (held:=x.held) hjl e1 (by rw[e2];exact h0);rw[HH.out y h2,e2] at h3;exact GJ.2 (YP.out y h2 (by omega))
     rw[hA] at c1;rw[hA2] at c2;unfold rc at d1;have hat:=GK A RL.length C RL y w (HA.out.sl (fun _=>rfl)) (by omega);obtain⟨t,ht⟩:∃ t,JA RL y=t:=⟨_,rfl⟩;rw[ht] at hin hat;have HAT:=Lib.hid hat;clear hat ht hy hz hA hA2;by_cases hy2:2≤y
     ·by_cases hz0:0<z
      ·have ht0:¬ t<0:=by have:=hin hy2 hz0;omega
       clear hin;go_wp2_with (fail)
       refine HAT.out.mono ?_;rintro e wy ⟨rfl,rfl⟩;go_wp2;go_roundw
       case rel=>exact⟨j+1,by omega,by go_num,trivial⟩
       case measure=>simp[intOf] <;> omega
      ·clear hin;go_wp2;go_roundw
       case rel=>exact⟨j+1,by omega,by go_num,trivial⟩
       case measure=>simp[intOf] <;> omega
     ·clear hin;go_wp2;go_roundw
      case rel=>exact⟨j+1,by omega,by go_num,trivial⟩
      case measure=>simp[intOf] <;> omega
    ·obtain rfl:j=x.refs.length:=by omega
     have hJ:¬ ((x.refs.length:Nat):Int)<(x.refs.length:Int):=by omega
     go_wp2;go_ret;exact⟨rfl,rfl⟩
end
theorem uB:∀ (f:Nat) (k:KS) (st:List Int),(fC f k st).hs=k.hs
 | 0,_,_=>rfl
 | _+1,_,[]=>rfl
 | f+1,k,r::st=>by
  unfold fC;split
  ·exact uB f k st
  ·split
   ·exact uB f _ st
   ·exact uB f _ _
theorem Qj (k:KS) (r:Int):(jh k r).hs=k.hs:=uB _ _ _
section
variable {k:KS} {r s:Int} {l:Nat}
theorem nV {L:List Int} {i:Nat} {v:Int} (hi:i<L.length) (j:Nat):(L.set i v).getD j 0=if j=i then v else L.getD j 0:=by
 rw[List.getD_eq_getElem?_getD,List.getD_eq_getElem?_getD];by_cases h:j=i
 ·subst h;rw[if_pos rfl,List.getElem?_set_self hi];rfl
 ·rw[if_neg h,List.getElem?_set_ne (fun e=>h e.symm)]
theorem CU (hl:1<r→tk k.ls r=true→r.toNat<k.hs.length) (h0:0≤r) (hs:2≤s) :
  (aP k r).2.hs.getD s.toNat 0=k.hs.getD s.toNat 0+(if (aP k r).1=0∧s=r then 1 else 0):=by
 unfold aP;by_cases ht:tk k.ls r=false
 ·rw[if_pos ht,if_neg (fun h=>absurd (show(3:Int)=0 from h.1) (by decide))];simp
 ·rw[if_neg ht];by_cases h1:1<r
  ·rw[if_pos h1];by_cases h5:k.hs.getD r.toNat 0=65535
   ·rw[if_pos h5,if_neg (fun h=>absurd (show(8:Int)=0 from h.1) (by decide))];simp
   ·rw[if_neg h5];show(k.hs.set r.toNat (k.hs.getD r.toNat 0+1)).getD s.toNat 0=_;rw[nV (hl h1 (by simpa using ht))];by_cases xg:s=r
    ·subst xg;rw[if_pos rfl,if_pos ⟨rfl,rfl⟩]
    ·rw[if_neg (by omega),if_neg (fun h=>xg h.2)];omega
  ·rw[if_neg h1,if_neg (fun h=>by omega)];show k.hs.getD s.toNat 0=_;omega
theorem CV (h0:0≤r) (hs:2≤s) :
  (aD k r).2.hs.getD s.toNat 0=k.hs.getD s.toNat 0-(if (aD k r).1=0∧s=r then 1 else 0):=by
 unfold aD;by_cases h1:1<r
 ·rw[if_pos h1];by_cases hh:k.hs.getD r.toNat 0=0
  ·rw[if_pos hh,if_neg (fun h=>absurd (show(3:Int)=0 from h.1) (by decide))];simp
  ·rw[if_neg hh];have hlen:r.toNat<k.hs.length:=by
    rw[List.getD_eq_getElem?_getD] at hh;cases hx:k.hs[r.toNat]? with
    | none=>rw[hx] at hh;exact absurd rfl hh
    | some y=>exact(List.getElem?_eq_some_iff.1 hx).1
   show(dO k r).hs.getD s.toNat 0=_;unfold dO;by_cases e1:k.hs.getD r.toNat 0=1
   ·rw[if_pos e1,Qj];show(k.hs.set r.toNat 0).getD s.toNat 0=_;rw[nV hlen];by_cases xg:s=r
    ·subst xg;rw[if_pos rfl,if_pos ⟨rfl,rfl⟩,e1];rfl
    ·rw[if_neg (by omega),if_neg (fun h=>xg h.2)];omega
   ·rw[if_neg e1];show(k.hs.set r.toNat (k.hs.getD r.toNat 0-1)).getD s.toNat 0=_;rw[nV hlen];by_cases xg:s=r
    ·subst xg;rw[if_pos rfl,if_pos ⟨rfl,rfl⟩]
    ·rw[if_neg (by omega),if_neg (fun h=>xg h.2)];omega
 ·rw[if_neg h1,if_neg (fun h=>by omega)];show k.hs.getD s.toNat 0=_;omega
theorem GM (K:KI k) (h1:1<r) (ht:tk k.ls r=true):r.toNat<k.hs.length:=by
 rcases(K.live (by omega)).1 ht with h | h | ⟨n,hn⟩
 ·omega
 ·omega
 ·rw[← K.bk.ul];exact(K.bk.KY (List.mem_append_left _ hn)).2
theorem CW (hl:1<r→tk k.ls r=true→r.toNat<k.hs.length) (h0:0≤r) (hs:2≤s) :
  (bI k r).2.2.hs.getD s.toNat 0=k.hs.getD s.toNat 0+(if (bI k r).2.1=0∧s=(bI k r).1 then 1 else 0):=by
 have h:=CU hl h0 hs;unfold bI;by_cases he:(aP k r).1=0
 ·rw[if_pos he];rw[he] at h;exact h
 ·rw[if_neg he,if_neg (fun h=>he h.1)];rw[if_neg (fun h=>he h.1)] at h;exact h
theorem GN (h0:0≤r) (h1:r<4294967296):0≤(bI k r).1∧(bI k r).1<4294967296:=by
 unfold bI;split
 ·exact⟨h0,h1⟩
 ·exact⟨show(0:Int)≤0 by decide,show(0:Int)<4294967296 by decide⟩
theorem JJ (K:KI k):au k≤k.ls.length:=by
 unfold au;split
 ·rename_i r hr;obtain⟨m,rfl,_,p,hp,_⟩:=K.bk.Ea r (List.mem_of_getLast? hr)
  have:=(List.getElem?_eq_some_iff.1 hp).1
  omega
 ·exact Nat.le_refl _
theorem JK {L:List bN} {n:Nd} {r:Int} (h:look L n=some r):(n,r)∈L:=fD h
theorem Nj (K:KI k) (n:Nd) (l0:0≤n.lo) (l1:n.lo<4294967296) (hs:2≤s) :
  (mM k n (eP k n)).2.2.hs.getD s.toNat 0=k.hs.getD s.toNat 0+(if (mM k n (eP k n)).2.1=0∧s=(mM k n (eP k n)).1 then 1 else 0)∧0≤(mM k n (eP k n)).1∧(mM k n (eP k n)).1<4294967296:=by
 cases hsk:eP k n with
 | some r =>
  have hr:0≤r∧r<4294967296:=by
   unfold eP at hsk;split at hsk
   ·injection hsk with hsk
    subst hsk;exact⟨l0,l1⟩
   ·have hm:=JK hsk;obtain⟨g1,g2,g3⟩:=K.mem' hm
    have:=oK g3 (by omega)
    have:=K.YQ
    omega
  exact⟨CW (fun a b=>GM K a b) hr.1 hs,GN hr.1 hr.2⟩
 | none =>
  show(if k.ac+1≤k.c then bI (aH k n) (au k) else (0,9,k)).2.2.hs.getD s.toNat 0=_+(if (if k.ac+1≤k.c then bI (aH k n) (au k) else (0,9,k)).2.1=0∧s=(if k.ac+1≤k.c then bI (aH k n) (au k) else (0,9,k)).1 then 1 else 0)∧0≤(if k.ac+1≤k.c then bI (aH k n) (au k) else (0,9,k)).1∧(if k.ac+1≤k.c then bI (aH k n) (au k) else (0,9,k)).1<4294967296;by_cases hc:k.ac+1≤k.c
  ·rw[if_pos hc];have hlen:au k<(aH k n).hs.length:=by
    rw[dL];show au k<((upto k.hs (au k+1)).set (au k) 0).length;rw[List.length_set,gM];omega
   have h:=CW (k:=aH k n) (r:=(au k:Int)) (s:=s) (fun _ _=>by rw[Int.toNat_natCast];exact hlen) (by omega) hs;rw[qd K.bk n s.toNat] at h;refine⟨h,GN (by omega) ?_⟩;have h1:=JJ K;have h2:=K.YQ;omega
  ·rw[if_neg hc,if_neg (fun h=>absurd (show(9:Int)=0 from h.1) (by decide))];exact⟨by show k.hs.getD s.toNat 0=_;omega,show(0:Int)≤0 by decide,show(0:Int)<4294967296 by decide⟩
theorem wM (K:KI k) (n:Nd) (l0:0≤n.lo) (l1:n.lo<4294967296) (hs:2≤s) :
  (ay k n).2.2.hs.getD s.toNat 0=k.hs.getD s.toNat 0+(if (ay k n).2.1=0∧s=(ay k n).1 then 1 else 0)∧0≤(ay k n).1∧(ay k n).1<4294967296:=by
 unfold ay;by_cases hf:di k n=0
 ·rw[if_pos hf];exact Nj K n l0 l1 hs
 ·rw[if_neg hf,if_neg (fun h=>hf h.1)];exact⟨by show k.hs.getD s.toNat 0=_;omega,show(0:Int)≤0 by decide,show(0:Int)<4294967296 by decide⟩
theorem wN:(aP k r).2.tr=k.tr∨(aP k r).2.tr=[]:=by
 unfold aP;split
 ·exact .inl rfl
 ·split
  ·split
   ·exact .inl rfl
   ·exact .inr rfl
  ·exact .inr rfl
theorem CX:(bI k r).2.2.tr=k.tr∨(bI k r).2.2.tr=[]:=by
 unfold bI;split
 ·exact wN
 ·exact wN
theorem Nk (n:Nd) (o:Option Int):(mM k n o).2.2.tr=k.tr∨(mM k n o).2.2.tr=[]:=by
 cases o with
 | some r=>exact CX
 | none =>
  show(if k.ac+1≤k.c then bI (aH k n) (au k) else (0,9,k)).2.2.tr=k.tr∨(if k.ac+1≤k.c then bI (aH k n) (au k) else (0,9,k)).2.2.tr=[];split
  ·have h:=CX (k:=aH k n) (r:=(au k:Int))
   rwa [show(aH k n).tr=k.tr from congrArg (fun t=>t.2.2.2.2) (jw k n)] at h
  ·exact .inl rfl
theorem Nl (n:Nd):(ay k n).2.2.tr=k.tr∨(ay k n).2.2.tr=[]:=by
 unfold ay;split
 ·exact Nk n _
 ·exact .inl rfl
theorem Nn:(aD k r).2.tr=k.tr∨(aD k r).2.tr=[]:=by
 unfold aD;split
 ·split
  ·exact .inl rfl
  ·exact .inr rfl
 ·exact .inr rfl
theorem GR (K:KI k) (h1:l+1<k.n) (m:Nat):(eO k l).2.hs.getD m 0=k.hs.getD m 0:=by
 obtain⟨x,y,h⟩:=BN K h1;unfold eO;have e1:k.ord.getD l 0=x:=by rw[List.getD_eq_getElem?_getD,h.hx];rfl
 have e2:k.ord.getD (l+1) 0=y:=by rw[List.getD_eq_getElem?_getD,h.hy];rfl
 rw[e1,e2];split
 ·rename_i hR;have t:=Eu h K hR;have hp:=Ew h K t;have hb:=t.bk;rw[List.append_nil] at hb;have hb':Bk (dI (bD k (aB k x y)) x y (aB k x y)) (kids (aB k x y)++[]) []:=by rw[List.append_nil];exact hb
  obtain⟨_,_,_,a4⟩:=qh _ _ _ hb' hp;show(gP (dI (bD k (aB k x y)) x y (aB k x y)) (aB k x y)).hs.getD m 0=_;rw[a4];exact t.hsd m
 ·rfl
theorem wO (k:KS) (l:Nat):(eO k l).2.tr=k.tr:=by
 unfold eO;split
 ·have h:=fun x y=>((kJ (dI (bD k (aB k x y)) x y (aB k x y)) (aB k x y)).trans (nL _ x y _)).trans (nK k (aB k x y))
  exact congrArg (fun t=>t.2.2.2.2) (h _ _)
 ·rfl
theorem Qk (K:KI k) (z:Int) (m:Nat):(eX k z).2.hs.getD m 0=k.hs.getD m 0:=by
 unfold eX;split
 ·rfl
 ·rename_i h;have h1:=GR (l:=z.toNat) K (by omega) m;split
  ·exact h1
  ·exact h1
theorem GU (z:Int):(eX k z).2.tr=k.tr∨((eX k z).2.tr=k.tr++[z]∧0≤z∧z+1<k.n):=by
 unfold eX;split
 ·exact .inl rfl
 ·rename_i h;split
  ·exact .inr ⟨by show(eO k z.toNat).2.tr++[z]=_;rw[wO],by omega,by omega⟩
  ·exact .inl (wO k _)
theorem Ql (K:KI k) (ht:CP k) (m:Nat):(fK k).2.2.hs.getD m 0=k.hs.getD m 0:=by
 unfold fK;cases hl:k.tr.getLast? with
 | none=>rfl
 | some z =>
  have hz:=ht z (List.mem_of_getLast? hl);exact GR (l:=z.toNat) K (by omega) m
theorem GY:(fK k).2.2.tr=k.tr∨(fK k).2.2.tr=k.tr.dropLast:=by
 unfold fK;cases hl:k.tr.getLast? with
 | none=>exact .inl rfl
 | some z=>exact .inr (by show(eO k z.toNat).2.tr.dropLast=_;rw[wO])
end
section
variable {k k':KS} {n:Nd} {r s:Int}
theorem Np (K:KI k) (h:(n,r)∈k.L):eD k n=some r:=by
 obtain⟨c0,c1,l0,h0,l1,h1,hne⟩:=K.bk.fo n r h;have key:∀ c,0≤c→tk k.ls c=true→(∀ m,(m,c)∈k.L→bz k n.v<bz k m.v)→bz k n.v<bn k c:=by
  intro c hc ht ho;obtain⟨i,hi,hin,_⟩:=K.lv.dM c0 c1;unfold bn;rcases(K.live hc).1 ht with h | h | ⟨m,hm⟩
  ·rw[K.const (.inl h),if_neg (by decide),hi];omega
  ·rw[K.const (.inr h),if_neg (by decide),hi];omega
  ·have hg:=(K.mem' hm).2.1;rw[hg,if_pos (K.bk.fo m c hm).1];exact ho m hm
 have k1:=key n.lo l0 l1 (fun m hm=>K.ord.lo n r m h hm);have k2:=key n.hi h0 h1 (fun m hm=>K.ord.hi n r m h hm);have hf:di k n=0:=by
  unfold di;rw[if_neg (fun g=>g ⟨c0,c1⟩),if_neg (fun g=>by rw[l1,h1] at g;rcases g with g | g <;> cases g),if_neg (fun g=>by omega)]
 unfold eD eP;rw[if_pos hf,if_neg hne,kF K.bk.kn h]
theorem lN:(dD k r).n=k.n∧(dD k r).ls=k.ls∧(dD k r).L=k.L∧(dD k r).bH=k.bH∧(dD k r).ac=k.ac:=by
 unfold dD;split
 ·have h:=ic (k:=k) (r:=r);exact⟨h.1,h.2.2.2.1,h.2.2.2.2.2.1,congrArg (fun t=>t.2.2.2.1) (gQ k r),h.2.2.1⟩
 ·exact⟨rfl,rfl,rfl,rfl,rfl⟩
theorem lQ:(aP k r).2.n=k.n∧(aP k r).2.ls=k.ls∧(aP k r).2.L=k.L∧(aP k r).2.bH=k.bH∧(aP k r).2.ac=k.ac:=by
 unfold aP;split
 ·exact⟨rfl,rfl,rfl,rfl,rfl⟩
 ·split
  ·split
   ·exact⟨rfl,rfl,rfl,rfl,rfl⟩
   ·exact lN
  ·exact⟨rfl,rfl,rfl,rfl,rfl⟩
theorem rZ (h:(aP k r).1≠0):(aP k r).2=k∧((aP k r).1=3∨(aP k r).1=8):=by
 unfold aP at h ⊢;by_cases ht:tk k.ls r=false
 ·rw[if_pos ht];exact⟨rfl,.inl rfl⟩
 ·rw[if_neg ht] at h ⊢;by_cases h1:1<r
  ·rw[if_pos h1] at h ⊢;by_cases h5:k.hs.getD r.toNat 0=65535
   ·rw[if_pos h5];exact⟨rfl,.inr rfl⟩
   ·rw[if_neg h5] at h;exact absurd rfl h
  ·rw[if_neg h1] at h;exact absurd rfl h
theorem kP (K:KI k) (n:Nd) (l0:0≤n.lo) (h0:0≤n.hi) :
  (ay k n=(0,di k n,k)∧di k n≠0∧eD k n=none)∨
  (∃ r,eD k n=some r∧(((aP k r).1=0∧ay k n=(r,0,(aP k r).2))∨((aP k r).1≠0∧ay k n=(0,(aP k r).1,k))))∨
  (eD k n=none∧di k n=0∧eP k n=none∧k.ac+1≤k.c∧ay k n=((au k:Int),0,{ dD (aH k n) (au k) with tr:=[] }))∨
  (eD k n=none∧ay k n=(0,9,k)):=by
 by_cases hf:di k n=0
 ·have hn:=jY hf l0 h0;cases hs:eP k n with
  | some r =>
   refine .inr (.inl ⟨r,by unfold eD;rw[if_pos hf,hs],?_⟩);have e:ay k n=bI k r:=by unfold ay;rw[if_pos hf,hs];rfl
   rw[e];by_cases he:(aP k r).1=0
   ·exact .inl ⟨he,by unfold bI;rw[if_pos he]⟩
   ·exact .inr ⟨he,by unfold bI;rw[if_neg he,(rZ he).1]⟩
  | none =>
   have hfn:eD k n=none:=by unfold eD;rw[if_pos hf,hs]
   have e:ay k n=if k.ac+1≤k.c then bI (aH k n) (au k) else (0,9,k):=by unfold ay;rw[if_pos hf,hs];rfl
   by_cases hc:k.ac+1≤k.c
   ·refine .inr (.inr (.inl ⟨hfn,hf,rfl,hc,?_⟩));rw[e,if_pos hc];unfold bI;rw[oZ K hn hs hc,if_pos rfl]
   ·refine .inr (.inr (.inr ⟨hfn,?_⟩));rw[e,if_neg hc]
 ·exact .inl ⟨by unfold ay;rw[if_neg hf],hf,by unfold eD;rw[if_neg hf]⟩
theorem CY {f:Nat} {st:List Int} (h:r≤1∨1<k.us.getD r.toNat 0):∃ k2,fC (f+1) k (r::st)=fC f k2 st∧k2.L=k.L∧k2.n=k.n∧(∀ m:Nat,m≠r.toNat→k2.us.getD m 0=k.us.getD m 0):=by
 by_cases h1:r≤1
 ·exact⟨k,by show(if r≤1 then fC f k st else if 1<k.us.getD r.toNat 0 then fC f (dW k r) st else _)=_;rw[if_pos h1],rfl,rfl,fun _ _=>rfl⟩
 ·have h2:=h.resolve_left h1;refine⟨dW k r,by show(if r≤1 then fC f k st else if 1<k.us.getD r.toNat 0 then fC f (dW k r) st else _)=_;rw[if_neg h1,if_pos h2],rfl,rfl,fun m hm=>?_⟩;show(k.us.set r.toNat _).getD m 0=_;rw[List.getD_eq_getElem?_getD,List.getElem?_set_ne (fun e=>hm e.symm),← List.getD_eq_getElem?_getD]
theorem Nq (f:Nat) (k:KS):fC f k []=k:=by cases f <;> rfl
theorem GZ (K:KI k) {c:Int} (h2:2≤c) (hm:(n,r)∈k.L) (hc:c=n.lo∨c=n.hi) (hh:k.hs.getD c.toNat 0≠0):1<k.us.getD c.toNat 0:=by
 have hl:tk k.ls c=true:=by
  obtain⟨_,_,_,_,a,b,_⟩:=K.bk.fo n r hm;rcases hc with rfl | rfl
  ·exact a
  ·exact b
 obtain⟨m,hmc⟩:∃ m,(m,c)∈k.L:=by
  rcases(K.live (by omega)).1 hl with h | h | h
  ·omega
  ·omega
  ·exact h
 have h1:=(K.bk.KY (List.mem_append_left [] hmc)).1;rw[if_neg hh] at h1;have hp:=zB (L:=k.L) (p:=(n,r)) (r:=c) hm (hc.imp Eq.symm Eq.symm);rw[List.count_nil] at h1;omega
theorem CZ (K:KI k) (n:Nd) (l0:0≤n.lo) (h0:0≤n.hi) (hE:(ay k n).2.1=0) (hf:eD k n=none) (hl:n.lo≤1∨k.hs.getD n.lo.toNat 0≠0) (hh:n.hi≤1∨k.hs.getD n.hi.toNat 0≠0) :
  2≤(ay k n).1∧(ay k n).2.2.ac=k.ac+1∧(aD (ay k n).2.2 (ay k n).1).1=0∧eD (aD (ay k n).2.2 (ay k n).1).2 n=none∧(aD (ay k n).2.2 (ay k n).1).2.ac=k.ac:=by
 have K':=qj (n:=n) K l0 h0
 have pW:=fun s (hs:(2:Int)≤s)=>(wM (s:=s) K n l0 (by
  by_cases h:n.lo<4294967296
  ·exact h
  ·exfalso;rcases kP K n l0 h0 with⟨e,h',_⟩ | ⟨s,h',_⟩ | ⟨_,hf',_⟩ | ⟨_,e⟩
   ·rw[e] at hE;exact h' hE
   ·rw[h'] at hf;cases hf
   ·have h1:=oK (Gm hf').2.2.1 l0
    have:=K.YQ
    omega
   ·rw[e] at hE
    cases hE) hs).1
 rcases kP K n l0 h0 with⟨e,h,_⟩ | ⟨s,h,_⟩ | ⟨_,hf',hs,hc,e⟩ | ⟨_,e⟩
 ·rw[e] at hE;exact absurd hE h
 ·rw[h] at hf;cases hf
 ·have hn:=jY hf' l0 h0;obtain⟨hne,hnew⟩:=jy hs;obtain⟨r2,rf,_⟩:=eH K.bk;obtain⟨kk,hkk⟩:∃ z:KS,z={ dD (aH k n) (au k) with tr:=[] }:=⟨_,rfl⟩;rw[← hkk] at e;rw[e] at K' pW ⊢;simp only at K' pW ⊢;have hL:(dD (aH k n) (au k)).L=k.L++[(n,(au k:Int))]:=by
   rw[(lN (k:=aH k n) (r:=(au k:Int))).2.2.1,qf ⟨hn.v0,hn.v1⟩ hnew]
  have hL2:kk.L=k.L++[(n,(au k:Int))]:=by rw[hkk];exact hL
  have Mo:kk.n=k.n:=by rw[hkk];exact(lN (k:=aH k n) (r:=(au k:Int))).1.trans (ug k n)
  clear hkk hL e;have hin:(n,(au k:Int))∈kk.L:=by rw[hL2];simp
  have hac:kk.ac=k.ac+1:=by
   have h1:=K'.bk.cnt;have h2:=K.bk.cnt;rw[List.append_nil] at h1 h2;rw[hL2] at h1;simp at h1;omega
  have LY:∀ m,(m,(au k:Int))∈k.L→False:=fun m hm=>by
   have:=(K.mem' hm).2.2
   rw[rf] at this;cases this
  have hq:=pW (au k) (by omega);rw[if_pos ⟨trivial,rfl⟩,Int.toNat_natCast] at hq;have hq0:k.hs.getD (au k) 0=0:=by
   by_cases h:k.hs.getD (au k) 0=0
   ·exact h
   ·obtain⟨m,hm⟩:=jL (r:=(au k:Int)) K.bk (by omega) (by rw[Int.toNat_natCast];exact h);rw[List.append_nil] at hm;exact(LY m hm).elim
  rw[hq0] at hq;have Fg:∀ c:Int,(c=n.lo∨c=n.hi)→2≤c→kk.hs.getD c.toNat 0=k.hs.getD c.toNat 0∧c≠(au k:Int):=fun c hc h2=>by
   have hcl:tk k.ls c=true:=by rcases hc with rfl | rfl;exact hn.l1;exact hn.h1
   have hne:c≠(au k:Int):=fun h=>by
    rw[h,rf] at hcl;cases hcl
   have:=pW c h2
   rw[if_neg (fun h=>hne h.2)] at this;exact⟨by omega,hne⟩
  have abH:n.lo≤1∨1<kk.us.getD n.lo.toNat 0:=by
   by_cases h:n.lo≤1
   ·exact .inl h
   ·refine .inr (GZ K' (by omega) hin (.inl rfl) ?_);rw[(Fg n.lo (.inl rfl) (by omega)).1];exact hl.resolve_left h
  have abI:n.hi≤1∨1<kk.us.getD n.hi.toNat 0:=by
   by_cases h:n.hi≤1
   ·exact .inl h
   ·refine .inr (GZ K' (by omega) hin (.inr rfl) ?_);rw[(Fg n.hi (.inr rfl) (by omega)).1];exact hh.resolve_left h
  have hlq:n.lo≠(au k:Int):=fun h=>by have:=hn.l1;rw[h,rf] at this;cases this
  have hhq:n.hi≠(au k:Int):=fun h=>by have:=hn.h1;rw[h,rf] at this;cases this
  have hdrop:(aD kk (au k)).1=0∧(aD kk (au k)).2.L=k.L:=by
   unfold aD;rw[if_pos (by omega),Int.toNat_natCast,if_neg (by rw[hq] <;> decide)];refine⟨rfl,?_⟩;show(dO kk (au k)).L=k.L;unfold dO;rw[Int.toNat_natCast,if_pos (by rw[hq];rfl)];unfold jh;have l6:¬ 1<kk.us.getD (au k) 0:=by
    have h1:=(K'.bk.KY (List.mem_append_left [] hin)).1;rw[Int.toNat_natCast,if_neg (by rw[hq] <;> decide)] at h1;have hp:par kk.L (au k)=0:=gJ.2 fun p hp=>by
     rw[hL2] at hp;rcases List.mem_append.1 hp with hp | hp
     ·obtain⟨_,_,_,_,a,b,_⟩:=K.bk.fo p.1 p.2 hp;exact⟨fun h=>(by rw[h,rf] at a;cases a),fun h=>(by rw[h,rf] at b;cases b)⟩
     ·simp at hp;subst hp;exact⟨hlq,hhq⟩
    rw[hp,List.count_nil] at h1;omega
   have hget:aI kk.ls (au k)=n:=(K'.mem' hin).2.1;have h3:∃ f,3*kk.ac+1=f+1+1+1:=⟨3*kk.ac-2,by omega⟩;obtain⟨f,hf3⟩:=h3;show(fC (3*kk.ac+1) { kk with hs:=kk.hs.set (au k) 0 } [(au k:Int)]).L=k.L;rw[hf3];have e1:fC (f+1+1+1) { kk with hs:=kk.hs.set (au k) 0 } [(au k:Int)]=fC (f+1+1) (iH (iG (dW { kk with hs:=kk.hs.set (au k) 0 } (au k)) n) (au k)) [n.hi,n.lo]:=by
    show(if ((au k:Nat):Int)≤1 then _ else if 1<kk.us.getD ((au k:Nat):Int).toNat 0 then _ else fC (f+1+1) (iH (iG (dW { kk with hs:=kk.hs.set (au k) 0 } (au k)) (aI kk.ls (au k))) (au k)) ((aI kk.ls (au k)).hi::(aI kk.ls (au k)).lo::[]))=_;rw[if_neg (by omega),Int.toNat_natCast,if_neg l6,hget]
   rw[e1];obtain⟨ka,hka⟩:∃ z,iH (iG (dW { kk with hs:=kk.hs.set (au k) 0 } (au k)) n) (au k)=z:=⟨_,rfl⟩;have Ri:ka.L=k.L:=by
    rw[← hka];show Bd kk.n kk.L n=k.L;unfold Bd;rw[Mo,if_pos ⟨hn.v0,hn.v1⟩,kF (r:=(au k:Int)) K'.bk.kn hin];show without n kk.L=k.L;unfold without
    rw[hL2,List.filter_append,List.filter_eq_self.2 (fun p hp=>by
     have:p.1≠n:=fun h=>hnew (by rw[← h];exact List.mem_map.2 ⟨p,hp,rfl⟩)
     simpa using this)]
    simp
   have Vk:∀ m:Nat,m≠au k→ka.us.getD m 0=kk.us.getD m 0:=fun m hm=>by
    rw[← hka];show(kk.us.set ((au k:Nat):Int).toNat _).getD m 0=_;rw[Int.toNat_natCast,List.getD_eq_getElem?_getD,List.getElem?_set_ne (fun e=>hm e.symm),← List.getD_eq_getElem?_getD]
   rw[hka]
   obtain⟨kb,eb,Qg,_,hub⟩:=CY (k:=ka) (r:=n.hi) (f:=f+1) (st:=[n.lo]) (by
    rcases abI with h | h
    ·exact .inl h
    ·exact .inr (by rw[Vk _ (by omega)];exact h))
   rw[eb]
   obtain⟨kc,ec,hLc,_,_⟩:=CY (k:=kb) (r:=n.lo) (f:=f) (st:=[]) (by
    rcases abH with h | h
    ·exact .inl h
    ·by_cases hl1:n.lo≤1
     ·exact .inl hl1
     ·exact .inr (by rw[hub _ (by omega),Vk _ (by omega)];exact h))
   rw[ec,Nq,hLc,Qg,Ri]
  have Kd:=lH K' (r:=(au k:Int)) (by omega);refine⟨by omega,hac,hdrop.1,?_,?_⟩
  ·unfold eD;split
   ·unfold eP;rw[if_neg hne,hdrop.2];exact bX.2 hnew
   ·rfl
  ·have h1:=Kd.bk.cnt;have h2:=K.bk.cnt;rw[List.append_nil] at h1 h2;rw[hdrop.2] at h1;omega
 ·rw[e] at hE;cases hE
end
section
variable {k k':KS} {n m:Nd} {r q s:Int} {p:Int→Bool} {b b':Bool} {l x y i:Nat} {g:Fn}
theorem Lf.sub (K:KI k) (K':KI k') (hs:∀ e∈k.L,e∈k'.L) (h:Lf k r):Lf k' r:=by
 rcases h.cases K with rfl | rfl | ⟨n,hn⟩
 ·exact Lf.zero K'
 ·exact Lf.one K'
 ·exact Lf.of K' (hs _ hn)
theorem G5 (K:KI k) (K':KI k') (hL:k'.L=k.L):(∀ r,Lf k r↔Lf k' r)∧∀ r p,sem k'.L r p=sem k.L r p :=
 ⟨fun _=>⟨fun h=>h.sub K K' (fun e he=>by rw[hL];exact he),fun h=>h.sub K' K (fun e he=>by rw[← hL];exact he)⟩,fun r p=>by rw[hL]⟩
structure Uo (k:KS) (n:Nd) (q:Int) (k':KS):Prop where
 ki:KI k'
 vn:k'.n=k.n
 vc:k'.c=k.c
 ord:k'.ord=k.ord
 bH:k'.bH=k.bH
 lf:∀ r,Lf k r→Lf k' r
 sm:∀ r,Lf k r→∀ p,sem k'.L r p=sem k.L r p
 ql:Lf k' q
 sq:∀ p,sem k'.L q p=if p n.v then sem k.L n.hi p else sem k.L n.lo p
 L:(k'.L=k.L∧k'.ac=k.ac∧eD k n=some q)∨(k'.L=k.L++[(n,q)]∧k'.ac=k.ac+1∧eD k n=none∧2≤q)
theorem yT:(aP k r).2.ord=k.ord:=by
 unfold aP;split
 ·rfl
 ·split
  ·split
   ·rfl
   ·show(dD k r).ord=k.ord;unfold dD;split
    ·exact congrArg (fun t=>t.2.2.1) (gQ k r)
    ·rfl
  ·rfl
theorem r9 (K:KI k) (l0:0≤n.lo) (h0:0≤n.hi) (h:eD k n=some r):Lf k r∧∀ p,sem k.L r p=if p n.v then sem k.L n.hi p else sem k.L n.lo p:=by
 unfold eD at h;split at h
 ·rename_i hf;have hn:=jY hf l0 h0;unfold eP at h;split at h
  ·rename_i he;injection h with h
   subst h;refine⟨⟨l0,hn.l1⟩,fun p=>?_⟩;rw[← he];simp
  ·have hm:=fD h;exact⟨Lf.of K hm,fun p=>iM K hm⟩
 ·cases h
theorem nk (K:KI k) (l0:0≤n.lo) (h0:0≤n.hi) (hE:(ay k n).2.1=0):Uo k n (ay k n).1 (ay k n).2.2:=by
 have K':=qj (n:=n) K l0 h0;have hst:=mZ k n;rcases kP K n l0 h0 with⟨e,h,_⟩ | ⟨r,hf,⟨hk,e⟩ | ⟨he,e⟩⟩ | ⟨hf,hfit,hs,hc,e⟩ | ⟨_,e⟩
 ·rw[e] at hE;exact absurd hE h
 ·rw[e] at K' hst ⊢;obtain⟨a1,a2,a3,a4,a5⟩:=lQ (k:=k) (r:=r);obtain⟨b1,b2⟩:=G5 K K' a3;obtain⟨c1,c2⟩:=r9 K l0 h0 hf;exact⟨K',hst.1,hst.2,yT,a4,fun r h=>(b1 r).1 h,fun r _ p=>b2 r p,(b1 _).1 c1,fun p=>(b2 _ _).trans (c2 p),.inl ⟨a3,a5,hf⟩⟩
 ·rw[e] at hE;exact absurd hE he
 ·have hn:=jY hfit l0 h0;obtain⟨hne,hnew⟩:=jy hs;have r2:=(eH K.bk).1;obtain⟨kk,hkk⟩:∃ z:KS,z={ dD (aH k n) (au k) with tr:=[] }:=⟨_,rfl⟩;rw[← hkk] at e;rw[e] at K' hst ⊢;simp only at K' hst ⊢;have hr:=lN (k:=aH k n) (r:=(au k:Int));have hL:kk.L=k.L++[(n,(au k:Int))]:=by
   rw[hkk];show(dD (aH k n) (au k)).L=_;rw[hr.2.2.1,qf ⟨hn.v0,hn.v1⟩ hnew]
  have hac:kk.ac=k.ac+1:=by
   rw[hkk];show(dD (aH k n) (au k)).ac=_;rw[hr.2.2.2.2,dL];rfl
  have Es:kk.bH=k.bH:=by
   rw[hkk];show(dD (aH k n) (au k)).bH=_;rw[hr.2.2.2.1];exact congrArg (fun t=>t.2.2.2.1) (jw k n)
  have Fh:kk.ord=k.ord:=by
   rw[hkk];show(dD (aH k n) (au k)).ord=_;have h1:(dD (aH k n) (au k)).ord=(aH k n).ord:=by
    unfold dD;split
    ·exact congrArg (fun t=>t.2.2.1) (gQ (aH k n) (au k))
    ·rfl
   rw[h1];exact congrArg (fun t=>t.2.2.1) (jw k n)
  have hsub:∀ e∈k.L,e∈kk.L:=fun e he=>by rw[hL];exact List.mem_append_left _ he
  have hin:(n,(au k:Int))∈kk.L:=by rw[hL];simp
  have hss:∀ r,Lf k r→∀ p,sem kk.L r p=sem k.L r p:=fun r h p=>(zM K' K hsub (h.sub K K' hsub) h).symm
  refine⟨K',hst.1,hst.2,Fh,Es,fun r h=>h.sub K K' hsub,hss,Lf.of K' hin,fun p=>?_,.inr ⟨hL,hac,hf,by omega⟩⟩;rw[iM K' hin,hss _ ⟨hn.l0,hn.l1⟩,hss _ ⟨hn.h0,hn.h1⟩]
 ·rw[e] at hE;cases hE
theorem C9 (K:KI k) (h0:0≤r):(∀ s,Lf k s↔Lf (aP k r).2 s)∧(∀ s p,sem (aP k r).2.L s p=sem k.L s p)∧(aP k r).2.ord=k.ord∧(aP k r).2.bH=k.bH∧(aP k r).2.ac=k.ac∧(aP k r).2.L=k.L:=by
 obtain⟨a1,a2,a3,a4,a5⟩:=lQ (k:=k) (r:=r);obtain⟨b1,b2⟩:=G5 K (zK K h0) a3;exact⟨b1,b2,yT,a4,a5,a3⟩
theorem Ai (K:KI k) (h0:0≤r):∀ e∈(aD k r).2.L,e∈k.L:=by
 unfold aD;split
 ·split
  ·exact fun e he=>he
  ·rename_i h1 hh;show ∀ e∈(dO k r).L,e∈k.L;unfold dO;split
   ·rename_i e1;obtain⟨n,hn⟩:=jL K.bk h0 hh;have hcnt:=K.bk.cnt;have hcl:=K.bk.gK;have hli:=K.bk.lim;have UW:=K.bk.cM;simp only[List.append_nil] at hcnt;have hb:=rD K.bk hn hh (by simp only[List.length_nil];omega);exact(qg hb K.pos).2.2.1
   ·exact fun e he=>he
 ·exact fun e he=>he
theorem kQ:(aD k r).2.ord=k.ord∧(aD k r).2.bH=k.bH:=by
 unfold aD;split
 ·split
  ·exact⟨rfl,rfl⟩
  ·show(dO k r).ord=k.ord∧(dO k r).bH=k.bH;unfold dO;split
   ·have e:iZ (jh { k with hs:=k.hs.set r.toNat 0 } r)=iZ k:=iJ _ _ _;exact⟨congrArg (fun t=>t.2.2.1) e,congrArg (fun t=>t.2.2.2.1) e⟩
   ·exact⟨rfl,rfl⟩
 ·exact⟨rfl,rfl⟩
theorem Da (K:KI k) (h0:0≤r) (hl:Lf (aD k r).2 s):Lf k s∧∀ p,sem (aD k r).2.L s p=sem k.L s p:=by
 have K':=lH K h0;have hs:=Ai K h0;have h1:=hl.sub K' K hs;exact⟨h1,fun p=>zM K K' hs h1 hl⟩
theorem Db (K:KI k) (K':KI k') (hn:k'.n=k.n) (hv:k'.bH=k.bH) (h:Lf k r) (h':Lf k' q) (hs:∀ p,sem k.L r p=sem k'.L q p):bn k' q≤bn k r:=by
 rcases h.cases K with h1 | h1 | ⟨n,hn'⟩
 ·rw[dJ K (.inl h1)];obtain⟨d,e1,e2,_⟩:=eT K' h';omega
 ·rw[dJ K (.inr h1)];obtain⟨d,e1,e2,_⟩:=eT K' h';omega
 ·obtain⟨c0,c1,_⟩:=K.bk.fo n r hn';obtain⟨p,hp⟩:=BP K hn';rw[hs,hs] at hp
  have:=(yI K' h' c0 (by omega) hp).1
  rw[bG K hn',← gT hv];exact this
theorem yU (K:KI k) (K':KI k') (hn:k'.n=k.n) (hv:k'.bH=k.bH) (h:Lf k r) (h':Lf k' q) (hs:∀ p,sem k.L r p=sem k'.L q p):bn k' q=bn k r :=
 Int.le_antisymm (Db K K' hn hv h h' hs) (Db K' K hn.symm hv.symm h' h (fun p=>(hs p).symm))
theorem qG (K:KI k) (K':KI k') (hn:k'.n=k.n) (ho:k'.ord=k.ord) (hv:k'.bH=k.bH) (hh:∀ g,HF k' g↔HF k g) (vv:m.v=n.v) (hl:Lf k n.lo) (hl':Lf k' m.lo) (sl:∀ p,sem k'.L m.lo p=sem k.L n.lo p) (hi:Lf k n.hi) (hi':Lf k' m.hi) (si:∀ p,sem k'.L m.hi p=sem k.L n.hi p) :
  di k' m=di k n∧(∀ r,eD k n=some r→∃ q,eD k' m=some q∧∀ p,sem k'.L q p=sem k.L r p):=by
 have heq:n.lo=n.hi↔m.lo=m.hi :=
  ⟨fun e=>canon K' hl' hi' (fun p=>by rw[sl,si,e]),fun e=>canon K hl hi (fun p=>by rw[← sl,← si,e])⟩
 have d1:=yU K K' hn hv hl hl' (fun p=>(sl p).symm);have d2:=yU K K' hn hv hi hi' (fun p=>(si p).symm);have hf:di k' m=di k n:=by
  unfold di;rw[hn,vv,d1,d2,gT hv];simp only[hl.h1,hl'.h1,hi.h1,hi'.h1,ne_eq,← heq]
 refine⟨hf,fun r hr=>?_⟩;unfold eD at hr ⊢;rw[hf];split at hr
 ·rename_i h0;rw[if_pos h0];have hnd:=jY h0 hl.h0 hi.h0;unfold eP at hr ⊢;split at hr
  ·rename_i he;injection hr with hr
   subst hr;rw[if_pos (heq.1 he)];exact⟨_,rfl,sl⟩
  ·rename_i he;rw[if_neg (fun e=>he (heq.2 e))];have hm:=fD hr;obtain⟨i,e1,e2,_⟩:=K.lv.dM hnd.v0 hnd.v1;have h1:=(jA K e2).2 ⟨n,r,hm,e1,rfl⟩;have h2:HN k'.ord (HF k') i (sem k.L r):=by
    rw[ho]
    have:HF k'=HF k:=funext fun f=>propext (hh f)
    rw[this];exact h1
   obtain⟨m2,q,hm2,hlv,hq⟩:=(jA K' (by omega)).1 h2;have e3:m2.v=n.v:=by
    obtain⟨c0,c1,_⟩:=K'.bk.fo m2 q hm2;refine zL K' c0 c1 hnd.v0 (by rw[hn];exact hnd.v1) ?_;rw[hlv,gT hv,e1]
   have e4:m2=m:=by
    refine Nd.ext (e3.trans vv.symm) (canon K' (Lf.lo K' hm2) hl' (fun p=>?_)) (canon K' (Lf.hi K' hm2) hi' (fun p=>?_))
    ·rw[rO K' hm2,← hq,e3,sl,rO K hm]
    ·rw[rM K' hm2,← hq,e3,si,rM K hm]
   rw[e4] at hm2;exact⟨q,kF K'.bk.kn hm2,fun p=>by rw[hq]⟩
 ·cases hr
end
def sj (n c:Nat):RS:=⟨xK n c,[0,1],[0,0]⟩
theorem Dc (n c:Nat) (w:World) (h1:1≤n) (h2:n≤64) (h3:2≤c) (h4:c≤1048576) :
  Calls Tryz.prog 40 #[.int .i64 n,.int .i64 c] w fun e w'=>∃ xb q,e=.returned (.tuple #[.pointer (some ⟨xb,0,none⟩),.bool true])∧RW (fun b=>b<w.heap.size) w' xb (sj n c) q∧Same w w':=by
 have hnw:=Ui n c h1 h2 h3 h4 w;have UX:=Lib.hid hnw;clear hnw h1 h2 h3 h4;go_enter Tryz.func40,Tryz.ntmps40;go_wp2_with (fail)
 refine UX.out.mono ?_;rintro e w1 ⟨kp,rfl,hk,hs⟩;have HK:=Lib.hid hk;have HS:=Lib.hid hs;clear hk hs;go_wp2;go_ret2;have hk:=HK.out;have hlow:=HS.out.size;have e1:(w1.alloc (.cells #[.int .u32 0,.int .u32 1] 28)).heap.size=w1.heap.size+1:=by simp
 have bA:=ax.new w1 28 #[.int .u32 0,.int .u32 1];have sA:Same w1 (w1.alloc (.cells #[.int .u32 0,.int .u32 1] 28)):=(ah.refl _ _).alloc _;generalize w1.alloc (.cells #[.int .u32 0,.int .u32 1] 28)=wA at e1 bA sA ⊢;have e2:(wA.alloc (.cells #[.int .i64 0,.int .i64 0] 3)).heap.size=wA.heap.size+1:=by simp
 have bB:=ax.new wA 3 #[.int .i64 0,.int .i64 0];have sB:Same wA (wA.alloc (.cells #[.int .i64 0,.int .i64 0] 3)):=(ah.refl _ _).alloc _;generalize wA.alloc (.cells #[.int .i64 0,.int .i64 0] 3)=wB at e2 bB sB ⊢;have bC:=ax.new wB 78 #[.pointer (some ⟨kp,0,none⟩),.slice (some ⟨w1.heap.size,0,none⟩) 2 2,.slice (some ⟨w1.heap.size+1,0,none⟩) 2 2];have sC:Same wB (wB.alloc (.cells #[.pointer (some ⟨kp,0,none⟩),.slice (some ⟨w1.heap.size,0,none⟩) 2 2,.slice (some ⟨w1.heap.size+1,0,none⟩) 2 2] 78)):=(ah.refl _ _).alloc _;generalize wB.alloc (.cells #[.pointer (some ⟨kp,0,none⟩),.slice (some ⟨w1.heap.size,0,none⟩) 2 2,.slice (some ⟨w1.heap.size+1,0,none⟩) 2 2] 78)=wC at bC sC ⊢;rw[e1] at bB;rw[e2,e1] at bC;have sBC:=sB.trans sC (fun _ _ h=>h);have sAC:=sA.trans sBC (fun _ _ h=>h);refine⟨w1.heap.size+1+1,⟨kp,some ⟨w1.heap.size,0,none⟩,2,some ⟨w1.heap.size+1,0,none⟩,2⟩,rfl,⟨bC,?_,?_,?_,?_⟩,HS.out.trans sAC (fun _ _ h=>h)⟩
 ·refine(hk.also sAC (C:=fun b=>w1.heap.size≤b) (fun b hb=>hb)).sub (fun b hb=>?_);rcases hb with hb | rfl | ⟨y,hy,rfl⟩ | ⟨y,hy,rfl⟩
  ·exact .inl hb
  ·exact .inr (by omega)
  ·injection hy with hy
   subst hy;exact .inr (Nat.le_refl _)
  ·injection hy with hy
   subst hy;exact .inr (Nat.le_succ _)
 ·exact Own.yP (f:=fun x=>[rc x]) (fun _=>rfl) (bA.ag sBC id) [0,1] (by decide) rfl
 ·exact Own.yP (f:=eU) fu (bB.ag sC id) [0,0] (by decide) rfl
 ·rintro b (rfl | ⟨y,hy,rfl⟩ | ⟨y,hy,rfl⟩)
  ·omega
  ·injection hy with hy
   subst hy;show ¬ w1.heap.size<w.heap.size;omega
  ·injection hy with hy
   subst hy;show ¬ w1.heap.size+1<w.heap.size;omega
def ps (c:Int):Int:=if 0<c then c else 0
theorem fA (refs held:List Int) (r:Int) (j:Nat):hsum refs held r (j+1)=hsum refs held r j+(if refs.getD j 0=r then ps (held.getD j 0) else 0):=by
 show(if refs.getD j 0=r∧0<held.getD j 0 then hsum refs held r j+held.getD j 0 else hsum refs held r j)=_;unfold ps;by_cases h1:refs.getD j 0=r
 ·by_cases h2:0<held.getD j 0
  ·rw[if_pos ⟨h1,h2⟩,if_pos h1,if_pos h2]
  ·rw[if_neg (fun h=>h2 h.2),if_pos h1,if_neg h2];omega
 ·rw[if_neg (fun h=>h1 h.1),if_neg h1];omega
theorem wP {refs held:List Int} {r c:Int} {i:Nat} (hi:i<held.length):∀ n,hsum refs (held.set i c) r n=hsum refs held r n+(if i<n∧refs.getD i 0=r then ps c-ps (held.getD i 0) else 0)
 | 0=>by rw[if_neg (fun h=>absurd h.1 (by omega))];rfl
 | n+1=>by
  rw[fA,fA,wP hi n,nV hi];by_cases hn:n=i
  ·subst hn;by_cases hr:refs.getD n 0=r
   ·simp only[hr,if_true,Nat.lt_irrefl,false_and,if_false,Nat.lt_succ_self,and_self];omega
   ·simp only[hr,if_false,and_false]
  ·rw[if_neg hn];by_cases hr:i<n∧refs.getD i 0=r
   ·have hr':i<n+1∧refs.getD i 0=r:=⟨by omega,hr.2⟩;rw[if_pos hr,if_pos hr'];omega
   ·have hr':¬ (i<n+1∧refs.getD i 0=r):=fun h=>hr ⟨by omega,h.2⟩
    rw[if_neg hr,if_neg hr'];omega
theorem yV {L M:List Int} {i:Nat} (h:i<L.length):(L++M).getD i 0=L.getD i 0:=by
 rw[List.getD_eq_getElem?_getD,List.getD_eq_getElem?_getD,List.getElem?_append_left h]
theorem yX {refs held:List Int} {r a c:Int} (hl:held.length=refs.length):∀ n,n≤refs.length→hsum (refs++[a]) (held++[c]) r n=hsum refs held r n
 | 0,_=>rfl
 | n+1,h=>by
  rw[fA,fA,yX hl n (by omega),yV (by omega),yV (by omega)]
theorem JL {refs held:List Int} {r a c:Int} (hl:held.length=refs.length):hsum (refs++[a]) (held++[c]) r (refs.length+1)=hsum refs held r refs.length+(if a=r then ps c else 0):=by
 have e1:(refs++[a]).getD refs.length 0=a:=by rw[List.getD_eq_getElem?_getD,List.getElem?_append_right (Nat.le_refl _)];simp
 have e2:(held++[c]).getD refs.length 0=c:=by rw[← hl,List.getD_eq_getElem?_getD,List.getElem?_append_right (Nat.le_refl _)];simp
 rw[fA,yX hl _ (Nat.le_refl _),e1,e2]
structure XI (m:Nat) (x:RS):Prop where
 hl:x.held.length=x.refs.length
 rl:x.refs.length≤60
 rg:∀ r∈x.refs,0≤r∧r<4294967296
 cb:∀ c∈x.held,0≤c∧c≤m
 hh:Held x
 tr:x.k.tr.length≤m
 tk:CP x.k
section
variable {m:Nat} {x:RS}
theorem Nr (n c:Nat):XI 0 (sj n c):=by
 refine⟨rfl,show 2≤60 by decide,?_,?_,?_,Nat.le_refl _,fun l hl=>by cases hl⟩
 ·intro r hr;simp only[sj,List.mem_cons,List.not_mem_nil,or_false] at hr;rcases hr with rfl | rfl <;> decide
 ·intro r hr;simp only[sj,List.mem_cons,List.not_mem_nil,or_false] at hr;rcases hr with rfl | rfl <;> decide
 ·intro s _;show hsum [0,1] [0,0] s 2=([]:List Int).getD s.toNat 0;rw[fA,fA];show(0:Int)+(if (0:Int)=s then ps 0 else 0)+(if (1:Int)=s then ps 0 else 0)=_
  have:ps 0=0:=rfl
  rw[this];simp
theorem XI.more (h:XI m x):XI (m+1) x:=⟨h.hl,h.rl,h.rg,fun c hc=>by have:=h.cb c hc;omega,h.hh,by have:=h.tr;omega,h.tk⟩
theorem XI.at (h:XI m x) (i:Nat):0≤x.refs.getD i 0∧x.refs.getD i 0<4294967296:=by
 rw[List.getD_eq_getElem?_getD];cases hx:x.refs[i]? with
 | none=>exact⟨by decide,by decide⟩
 | some y=>exact h.rg y (List.mem_of_getElem? hx)
theorem XI.cat (h:XI m x) (i:Nat):0≤x.held.getD i 0∧x.held.getD i 0≤m:=by
 rw[List.getD_eq_getElem?_getD];cases hx:x.held[i]? with
 | none=>exact⟨by decide,by show(0:Int)≤m;omega⟩
 | some y=>exact h.cb y (List.mem_of_getElem? hx)
theorem Ns {k k':KS} (hn:k'.n=k.n) (ht:CP k) (h:k'.tr=k.tr∨k'.tr=[]) (hl:k.tr.length≤m):k'.tr.length≤m+1∧CP k':=by
 rcases h with h | h
 ·refine⟨by rw[h];omega,fun l hl=>?_⟩;rw[h] at hl;rw[hn];exact ht l hl
 ·refine⟨by rw[h];exact Nat.zero_le _,fun l hl=>?_⟩;rw[h] at hl;cases hl
theorem Qm (K:KI x.k) (h:XI m x) (v b c:Int):XI (m+1) (gV x v b c).1:=by
 unfold gV;split
 ·rename_i hc;have hb:=h.at b.toNat;have hm:=fun s hs=>wM (s:=s) K ⟨v,x.refs.getD b.toNat 0,x.refs.getD c.toNat 0⟩ hb.1 hb.2 hs
  have hr:=(hm 2 (by decide)).2;obtain⟨t1,t2⟩:=Ns (m:=m) (mZ x.k ⟨v,x.refs.getD b.toNat 0,x.refs.getD c.toNat 0⟩).1 h.tk (Nl _) h.tr;split
  ·rename_i hE;refine⟨by show(x.held++[1]).length=(x.refs++[_]).length;rw[List.length_append,List.length_append,h.hl];rfl,by show(x.refs++[_]).length≤60;rw[List.length_append];simp <;> omega,?_,?_,?_,t1,t2⟩
   ·intro r hr';rcases List.mem_append.1 hr' with hr' | hr'
    ·exact h.rg r hr'
    ·simp at hr';subst hr';exact hr
   ·intro d hd;rcases List.mem_append.1 hd with hd | hd
    ·have:=h.cb d hd
     omega
    ·simp at hd;subst hd;omega
   ·intro s hs;show hsum (x.refs++[_]) (x.held++[1]) s (x.refs++[_]).length=_;rw[List.length_append,List.length_singleton,JL h.hl,h.hh s hs];have h1:=(hm s hs).1;show _=(ay x.k ⟨v,x.refs.getD b.toNat 0,x.refs.getD c.toNat 0⟩).2.2.hs.getD s.toNat 0;rw[h1];congr 1;by_cases he:(ay x.k ⟨v,x.refs.getD b.toNat 0,x.refs.getD c.toNat 0⟩).1=s
    ·rw[if_pos he,if_pos ⟨hE,he.symm⟩];rfl
    ·rw[if_neg he,if_neg (fun h=>he h.2.symm)]
  ·rename_i hE;refine⟨h.hl,h.rl,h.rg,fun d hd=>by have:=h.cb d hd;omega,?_,t1,t2⟩;intro s hs;show hsum x.refs x.held s x.refs.length=_;rw[h.hh s hs];have h1:=(hm s hs).1;rw[if_neg (fun h=>hE h.1)] at h1;show _=(ay x.k ⟨v,x.refs.getD b.toNat 0,x.refs.getD c.toNat 0⟩).2.2.hs.getD s.toNat 0;omega
 ·exact h.more
theorem G6 {i:Int} (hh:hasB x i=true):∃ j:Nat,i=j∧j<x.refs.length∧(2≤x.refs.getD j 0→0<x.held.getD j 0):=by
 obtain⟨j,rfl,hj⟩:=iA hh;refine⟨j,rfl,hj,fun h2=>?_⟩;unfold hasB at hh;simp only[Bool.and_eq_true,Bool.or_eq_true,decide_eq_true_eq,Int.toNat_natCast] at hh;rcases hh.2 with h | h
 ·exact h
 ·omega
theorem Qn (K:KI x.k) (h:XI m x) (i:Int):XI (m+1) (fF x i).1:=by
 unfold fF;split
 ·rename_i hc;obtain⟨j,rfl,hj,hp⟩:=G6 hc;rw[Int.toNat_natCast];have hb:=h.at j;have hcj:=h.cat j;have hk:=fun s (hs:(2:Int)≤s)=>CU (k:=x.k) (r:=x.refs.getD j 0) (fun a b=>GM K a b) hb.1 hs
  obtain⟨t1,t2⟩:=Ns (m:=m) (iO x.k (x.refs.getD j 0)).1 h.tk wN h.tr;split
  ·rename_i hE;refine⟨by show(x.held.set j _).length=_;rw[List.length_set];exact h.hl,h.rl,h.rg,?_,?_,t1,t2⟩
   ·intro d hd;rcases List.mem_or_eq_of_mem_set hd with hd | rfl
    ·have:=h.cb d hd
     omega
    ·omega
   ·intro s hs;show hsum x.refs (x.held.set j _) s x.refs.length=(aP x.k (x.refs.getD j 0)).2.hs.getD s.toNat 0;rw[wP (by rw[h.hl];exact hj),h.hh s hs,hk s hs];congr 1;by_cases he:x.refs.getD j 0=s
    ·have:=hp (by omega)
     rw[if_pos ⟨hj,he⟩,if_pos ⟨hE,he.symm⟩];unfold ps;rw[if_pos (by omega),if_pos this];omega
    ·rw[if_neg (fun h=>he h.2),if_neg (fun h=>he h.2.symm)]
  ·rename_i hE;refine⟨h.hl,h.rl,h.rg,fun d hd=>by have:=h.cb d hd;omega,?_,t1,t2⟩;intro s hs;show hsum x.refs x.held s x.refs.length=(aP x.k (x.refs.getD j 0)).2.hs.getD s.toNat 0;rw[h.hh s hs,hk s hs,if_neg (fun h=>hE h.1)];omega
 ·exact h.more
theorem Aj (h:XI m x) (i:Int):XI (m+1) (eB x i).1:=by
 unfold eB;split
 ·rename_i hc;obtain⟨j,rfl,hj,_⟩:=G6 hc.1;have hp:=hc.2;rw[Int.toNat_natCast] at hp ⊢;have hb:=h.at j;have hcj:=h.cat j;have hk:=fun s (hs:(2:Int)≤s)=>CV (k:=x.k) (r:=x.refs.getD j 0) hb.1 hs
  obtain⟨t1,t2⟩:=Ns (m:=m) (jP x.k (x.refs.getD j 0)).1 h.tk Nn h.tr;refine⟨by show(x.held.set j _).length=_;rw[List.length_set];exact h.hl,h.rl,h.rg,?_,?_,t1,t2⟩
  ·intro d hd;rcases List.mem_or_eq_of_mem_set hd with hd | rfl
   ·have:=h.cb d hd
    omega
   ·omega
  ·intro s hs;show hsum x.refs (x.held.set j _) s x.refs.length=(aD x.k (x.refs.getD j 0)).2.hs.getD s.toNat 0;rw[wP (by rw[h.hl];exact hj),h.hh s hs,hk s hs];by_cases he:x.refs.getD j 0=s
   ·have h2:=qF (refs:=x.refs) (held:=x.held) hj he hp;rw[h.hh s hs] at h2;have hE:(aD x.k (x.refs.getD j 0)).1=0:=by
     unfold aD;rw[if_pos (by omega),he,if_neg (by omega)]
    rw[if_pos ⟨hj,he⟩,if_pos ⟨hE,he.symm⟩];unfold ps;rw[if_pos hp];split <;> omega
   ·rw[if_neg (fun h=>he h.2),if_neg (fun h=>he h.2.symm)];omega
 ·exact h.more
theorem Qo (K:KI x.k) (h:XI m x) (l:Int):XI (m+1) (Fb x l).1:=by
 have hn:=(wJ x.k l).1;refine⟨h.hl,h.rl,h.rg,fun d hd=>by have:=h.cb d hd;omega,fun s hs=>?_,?_,?_⟩
 ·show hsum x.refs x.held s x.refs.length=(eX x.k l).2.hs.getD s.toNat 0;rw[Qk K,h.hh s hs]
 ·show(eX x.k l).2.tr.length≤m+1
  have:=h.tr
  rcases GU (k:=x.k) l with e | ⟨e,_⟩
  ·rw[e];omega
  ·rw[e,List.length_append,List.length_singleton];omega
 ·show CP (eX x.k l).2;intro z hz;rw[hn];rcases GU (k:=x.k) l with e | ⟨e,e1,e2⟩
  ·rw[e] at hz;exact h.tk z hz
  ·rw[e] at hz;rcases List.mem_append.1 hz with hz | hz
   ·exact h.tk z hz
   ·simp at hz;subst hz;exact⟨e1,e2⟩
theorem Qp (K:KI x.k) (h:XI m x):XI (m+1) (Fe x).1:=by
 have hn:=(wK x.k).1;refine⟨h.hl,h.rl,h.rg,fun d hd=>by have:=h.cb d hd;omega,fun s hs=>?_,?_,?_⟩
 ·show hsum x.refs x.held s x.refs.length=(fK x.k).2.2.hs.getD s.toNat 0;rw[Ql K h.tk,h.hh s hs]
 ·show(fK x.k).2.2.tr.length≤m+1
  have:=h.tr
  rcases GY (k:=x.k) with e | e
  ·rw[e];omega
  ·rw[e,List.length_dropLast];omega
 ·show CP (fK x.k).2.2;intro z hz;rw[hn];rcases GY (k:=x.k) with e | e
  ·rw[e] at hz;exact h.tk z hz
  ·rw[e] at hz;exact h.tk z ((List.dropLast_sublist _).subset hz)
def dF (x:RS) (o:Int×Int×Int×Int):RS×Int :=
 if o.1=1 then gV x o.2.1 o.2.2.1 o.2.2.2 else if o.1=2 then fF x o.2.1 else if o.1=3 then eB x o.2.1 else if o.1=4 then Fb x o.2.1 else if o.1=5 then Fe x else (x,0)
theorem G7 (K:KI x.k) (h:XI m x) (o:Int×Int×Int×Int):XI (m+1) (dF x o).1:=by
 unfold dF;split
 ·exact Qm K h _ _ _
 ·split
  ·exact Qn K h _
  ·split
   ·exact Aj h _
   ·split
    ·exact Qo K h _
    ·split
     ·exact Qp K h
     ·exact h.more
end
section
variable {w w':World} {B:Nat→Prop} {xb m:Nat} {x:RS} {q:RA}
theorem De (hX:RW B w xb x q) (hB:∀ b,B b→b<w.heap.size) (h:XI m x) (hm:m≤10000000000000) (o:Int×Int×Int×Int) :
  Calls Tryz.prog 41 #[.pointer (some ⟨xb,0,none⟩),.agg #[.int .i64 o.1,.int .i64 o.2.1,.int .i64 o.2.2.1,.int .i64 o.2.2.2]] w (ng B w xb (dF x o)):=by
 obtain⟨kd,a,b,c⟩:=o;have hcb:∀ c∈x.held,0≤c∧c≤1000000000000000:=fun c hc=>by have:=h.cb c hc;omega
 have htr:=h.tr;unfold dF;simp only;by_cases h1:kd=1
 ·rw[if_pos h1,h1];exact JI hX hB h.hl h.rg a b c (by have:=h.rl;omega)
 ·rw[if_neg h1];by_cases h2:kd=2
  ·rw[if_pos h2,h2];exact JH hX hB h.hl h.rg hcb a b c
  ·rw[if_neg h2];by_cases h3:kd=3
   ·rw[if_pos h3,h3];exact step_drop hX hB h.hl h.rg hcb a b c
   ·rw[if_neg h3];by_cases h4:kd=4
    ·rw[if_pos h4,h4];exact JD hX hB h.hl (by omega) a b c
    ·rw[if_neg h4];by_cases h5:kd=5
     ·rw[if_pos h5,h5];exact JE hX hB h.hl h.tk (by omega) a b c
     ·rw[if_neg h5];by_cases h6:kd=6
      ·rw[h6];exact JF hX hB h.hl a b c
      ·exact JG hX hB h.hl kd a b c h1 h2 h3 h4 h5 h6
end
end Go.Proofs.YtiomgckodmecbaaGreat
