/- Contracts and plain laws, put together in one file. No condition. -/
import Derived.Test.YtiomgckodmecbaaGreatJKernelNames10

set_option maxRecDepth 100000
set_option maxHeartbeats 32000000
namespace Go.Proofs.YtiomgckodmecbaaGreat
open Go.RowKit Go.Tk
def ps (c:Int):Int:=if 0<c then c else 0
theorem fq (refs held:List Int) (r:Int) (j:Nat):hsum refs held r (j+1)=hsum refs held r j+(if refs.getD j 0=r then ps (held.getD j 0) else 0):=by
 show(if refs.getD j 0=r∧0<held.getD j 0 then hsum refs held r j+held.getD j 0 else hsum refs held r j)=_;unfold ps;by_cases h1:refs.getD j 0=r
 ·by_cases h2:0<held.getD j 0
  ·rw[if_pos ⟨h1,h2⟩,if_pos h1,if_pos h2]
  ·rw[if_neg (fun h=>h2 h.2),if_pos h1,if_neg h2];omega
 ·rw[if_neg (fun h=>h1 h.1),if_neg h1];omega
theorem xX {refs held:List Int} {r c:Int} {i:Nat} (hi:i<held.length):∀ n,hsum refs (held.set i c) r n=hsum refs held r n+(if i<n∧refs.getD i 0=r then ps c-ps (held.getD i 0) else 0)
 | 0=>by rw[if_neg (fun h=>absurd h.1 (by omega))];rfl
 | n+1=>by
  rw[fq,fq,xX hi n,oU hi];by_cases hn:n=i
  ·subst hn;by_cases hr:refs.getD n 0=r
   ·simp only[hr,if_true,Nat.lt_irrefl,false_and,if_false,Nat.lt_succ_self,and_self];omega
   ·simp only[hr,if_false,and_false]
  ·rw[if_neg hn];by_cases hr:i<n∧refs.getD i 0=r
   ·have hr':i<n+1∧refs.getD i 0=r:=⟨by omega,hr.2⟩;rw[if_pos hr,if_pos hr'];omega
   ·have hr':¬ (i<n+1∧refs.getD i 0=r):=fun h=>hr ⟨by omega,h.2⟩
    rw[if_neg hr,if_neg hr'];omega
theorem zW {L M:List Int} {i:Nat} (h:i<L.length):(L++M).getD i 0=L.getD i 0:=by
 rw[List.getD_eq_getElem?_getD,List.getD_eq_getElem?_getD,List.getElem?_append_left h]
theorem zX {refs held:List Int} {r a c:Int} (hl:held.length=refs.length):∀ n,n≤refs.length→hsum (refs++[a]) (held++[c]) r n=hsum refs held r n
 | 0,_=>rfl
 | n+1,h=>by
  rw[fq,fq,zX hl n (by omega),zW (by omega),zW (by omega)]
theorem KL {refs held:List Int} {r a c:Int} (hl:held.length=refs.length):hsum (refs++[a]) (held++[c]) r (refs.length+1)=hsum refs held r refs.length+(if a=r then ps c else 0):=by
 have e1:(refs++[a]).getD refs.length 0=a:=by rw[List.getD_eq_getElem?_getD,List.getElem?_append_right (Nat.le_refl _)];simp
 have e2:(held++[c]).getD refs.length 0=c:=by rw[← hl,List.getD_eq_getElem?_getD,List.getElem?_append_right (Nat.le_refl _)];simp
 rw[fq,zX hl _ (Nat.le_refl _),e1,e2]
structure XI (m:Nat) (x:RS):Prop where
 hl:x.held.length=x.refs.length
 rl:x.refs.length≤60
 rg:∀ r∈x.refs,0≤r∧r<4294967296
 cb:∀ c∈x.held,0≤c∧c≤m
 hh:Held x
 tr:x.k.tr.length≤m
 tk:yS x.k
section
variable {m:Nat} {x:RS}
theorem VI (n c:Nat):XI 0 (BF n c):=by
 refine⟨rfl,show 2≤60 by decide,?_,?_,?_,Nat.le_refl _,fun l hl=>by cases hl⟩
 ·intro r hr;simp only[BF,List.mem_cons,List.not_mem_nil,or_false] at hr;rcases hr with rfl | rfl <;> decide
 ·intro r hr;simp only[BF,List.mem_cons,List.not_mem_nil,or_false] at hr;rcases hr with rfl | rfl <;> decide
 ·intro s _;show hsum [0,1] [0,0] s 2=([]:List Int).getD s.toNat 0;rw[fq,fq];show(0:Int)+(if (0:Int)=s then ps 0 else 0)+(if (1:Int)=s then ps 0 else 0)=_
  have:ps 0=0:=rfl
  rw[this];simp
theorem XI.more (h:XI m x):XI (m+1) x:=⟨h.hl,h.rl,h.rg,fun c hc=>by have:=h.cb c hc;omega,h.hh,by have:=h.tr;omega,h.tk⟩
theorem XI.at (h:XI m x) (i:Nat):0≤x.refs.getD i 0∧x.refs.getD i 0<4294967296:=by
 rw[List.getD_eq_getElem?_getD];cases hx:x.refs[i]? with
 | none=>exact⟨by decide,by decide⟩
 | some y=>exact h.rg y (List.mem_of_getElem? hx)
theorem XI.cat (h:XI m x) (i:Nat):0≤x.held.getD i 0∧x.held.getD i 0≤m:=by
 rw[List.getD_eq_getElem?_getD];cases hx:x.held[i]? with
 | none=>exact⟨by decide,by show(0:Int)≤m;omega⟩
 | some y=>exact h.cb y (List.mem_of_getElem? hx)
theorem OE {k k':KS} (hn:k'.n=k.n) (ht:yS k) (h:k'.tr=k.tr∨k'.tr=[]) (hl:k.tr.length≤m):k'.tr.length≤m+1∧yS k':=by
 rcases h with h | h
 ·refine⟨by rw[h];omega,fun l hl=>?_⟩;rw[h] at hl;rw[hn];exact ht l hl
 ·refine⟨by rw[h];exact Nat.zero_le _,fun l hl=>?_⟩;rw[h] at hl;cases hl
theorem Rx (K:KI x.k) (h:XI m x) (v b c:Int):XI (m+1) (jf x v b c).1:=by
 unfold jf;split
 ·rename_i hc;have hb:=h.at b.toNat;have hm:=fun s hs=>Oy (s:=s) K ⟨v,x.refs.getD b.toNat 0,x.refs.getD c.toNat 0⟩ hb.1 hb.2 hs
  have hr:=(hm 2 (by decide)).2;obtain⟨t1,t2⟩:=OE (m:=m) (rM x.k ⟨v,x.refs.getD b.toNat 0,x.refs.getD c.toNat 0⟩).1 h.tk (OA _) h.tr;split
  ·rename_i hE;refine⟨by show(x.held++[1]).length=(x.refs++[_]).length;rw[List.length_append,List.length_append,h.hl];rfl,by show(x.refs++[_]).length≤60;rw[List.length_append];simp <;> omega,?_,?_,?_,t1,t2⟩
   ·intro r hr';rcases List.mem_append.1 hr' with hr' | hr'
    ·exact h.rg r hr'
    ·simp at hr';subst hr';exact hr
   ·intro d hd;rcases List.mem_append.1 hd with hd | hd
    ·have:=h.cb d hd
     omega
    ·simp at hd;subst hd;omega
   ·intro s hs;show hsum (x.refs++[_]) (x.held++[1]) s (x.refs++[_]).length=_;rw[List.length_append,List.length_singleton,KL h.hl,h.hh s hs];have h1:=(hm s hs).1;show _=(aV x.k ⟨v,x.refs.getD b.toNat 0,x.refs.getD c.toNat 0⟩).2.2.hs.getD s.toNat 0;rw[h1];congr 1;by_cases he:(aV x.k ⟨v,x.refs.getD b.toNat 0,x.refs.getD c.toNat 0⟩).1=s
    ·rw[if_pos he,if_pos ⟨hE,he.symm⟩];rfl
    ·rw[if_neg he,if_neg (fun h=>he h.2.symm)]
  ·rename_i hE;refine⟨h.hl,h.rl,h.rg,fun d hd=>by have:=h.cb d hd;omega,?_,t1,t2⟩;intro s hs;show hsum x.refs x.held s x.refs.length=_;rw[h.hh s hs];have h1:=(hm s hs).1;rw[if_neg (fun h=>hE h.1)] at h1;show _=(aV x.k ⟨v,x.refs.getD b.toNat 0,x.refs.getD c.toNat 0⟩).2.2.hs.getD s.toNat 0;omega
 ·exact h.more
theorem IJ {i:Int} (hh:hasB x i=true):∃ j:Nat,i=j∧j<x.refs.length∧(2≤x.refs.getD j 0→0<x.held.getD j 0):=by
 obtain⟨j,rfl,hj⟩:=iL hh;refine⟨j,rfl,hj,fun h2=>?_⟩;unfold hasB at hh;simp only[Bool.and_eq_true,Bool.or_eq_true,decide_eq_true_eq,Int.toNat_natCast] at hh;rcases hh.2 with h | h
 ·exact h
 ·omega
theorem Ry (K:KI x.k) (h:XI m x) (i:Int):XI (m+1) (kM x i).1:=by
 unfold kM;split
 ·rename_i hc;obtain⟨j,rfl,hj,hp⟩:=IJ hc;rw[Int.toNat_natCast];have hb:=h.at j;have hcj:=h.cat j;have hk:=fun s (hs:(2:Int)≤s)=>Ef (k:=x.k) (r:=x.refs.getD j 0) (fun a b=>IB K a b) hb.1 hs
  obtain⟨t1,t2⟩:=OE (m:=m) (lK x.k (x.refs.getD j 0)).1 h.tk xV h.tr;split
  ·rename_i hE;refine⟨by show(x.held.set j _).length=_;rw[List.length_set];exact h.hl,h.rl,h.rg,?_,?_,t1,t2⟩
   ·intro d hd;rcases List.mem_or_eq_of_mem_set hd with hd | rfl
    ·have:=h.cb d hd
     omega
    ·omega
   ·intro s hs;show hsum x.refs (x.held.set j _) s x.refs.length=(bE x.k (x.refs.getD j 0)).2.hs.getD s.toNat 0;rw[xX (by rw[h.hl];exact hj),h.hh s hs,hk s hs];congr 1;by_cases he:x.refs.getD j 0=s
    ·have:=hp (by omega)
     rw[if_pos ⟨hj,he⟩,if_pos ⟨hE,he.symm⟩];unfold ps;rw[if_pos (by omega),if_pos this];omega
    ·rw[if_neg (fun h=>he h.2),if_neg (fun h=>he h.2.symm)]
  ·rename_i hE;refine⟨h.hl,h.rl,h.rg,fun d hd=>by have:=h.cb d hd;omega,?_,t1,t2⟩;intro s hs;show hsum x.refs x.held s x.refs.length=(bE x.k (x.refs.getD j 0)).2.hs.getD s.toNat 0;rw[h.hh s hs,hk s hs,if_neg (fun h=>hE h.1)];omega
 ·exact h.more
theorem Rz (h:XI m x) (i:Int):XI (m+1) (kN x i).1:=by
 unfold kN;split
 ·rename_i hc;obtain⟨j,rfl,hj,_⟩:=IJ hc.1;have hp:=hc.2;rw[Int.toNat_natCast] at hp ⊢;have hb:=h.at j;have hcj:=h.cat j;have hk:=fun s (hs:(2:Int)≤s)=>Ow (k:=x.k) (r:=x.refs.getD j 0) hb.1 hs
  obtain⟨t1,t2⟩:=OE (m:=m) (xO x.k (x.refs.getD j 0)).1 h.tk OB h.tr;refine⟨by show(x.held.set j _).length=_;rw[List.length_set];exact h.hl,h.rl,h.rg,?_,?_,t1,t2⟩
  ·intro d hd;rcases List.mem_or_eq_of_mem_set hd with hd | rfl
   ·have:=h.cb d hd
    omega
   ·omega
  ·intro s hs;show hsum x.refs (x.held.set j _) s x.refs.length=(dF x.k (x.refs.getD j 0)).2.hs.getD s.toNat 0;rw[xX (by rw[h.hl];exact hj),h.hh s hs,hk s hs];by_cases he:x.refs.getD j 0=s
   ·have h2:=rP (refs:=x.refs) (held:=x.held) hj he hp;rw[h.hh s hs] at h2;have hE:(dF x.k (x.refs.getD j 0)).1=0:=by
     unfold dF;rw[if_pos (by omega),he,if_neg (by omega)]
    rw[if_pos ⟨hj,he⟩,if_pos ⟨hE,he.symm⟩];unfold ps;rw[if_pos hp];split <;> omega
   ·rw[if_neg (fun h=>he h.2),if_neg (fun h=>he h.2.symm)];omega
 ·exact h.more
theorem RD (K:KI x.k) (h:XI m x) (l:Int):XI (m+1) (xS x l).1:=by
 have hn:=(xP x.k l).1;refine⟨h.hl,h.rl,h.rg,fun d hd=>by have:=h.cb d hd;omega,fun s hs=>?_,?_,?_⟩
 ·show hsum x.refs x.held s x.refs.length=(bL x.k l).2.hs.getD s.toNat 0;rw[Rv K,h.hh s hs]
 ·show(bL x.k l).2.tr.length≤m+1
  have:=h.tr
  rcases IG (k:=x.k) l with e | ⟨e,_⟩
  ·rw[e];omega
  ·rw[e,List.length_append,List.length_singleton];omega
 ·show yS (bL x.k l).2;intro z hz;rw[hn];rcases IG (k:=x.k) l with e | ⟨e,e1,e2⟩
  ·rw[e] at hz;exact h.tk z hz
  ·rw[e] at hz;rcases List.mem_append.1 hz with hz | hz
   ·exact h.tk z hz
   ·simp at hz;subst hz;exact⟨e1,e2⟩
theorem RF (K:KI x.k) (h:XI m x):XI (m+1) (xU x).1:=by
 have hn:=(xQ x.k).1;refine⟨h.hl,h.rl,h.rg,fun d hd=>by have:=h.cb d hd;omega,fun s hs=>?_,?_,?_⟩
 ·show hsum x.refs x.held s x.refs.length=(bO x.k).2.2.hs.getD s.toNat 0;rw[Rw K h.tk,h.hh s hs]
 ·show(bO x.k).2.2.tr.length≤m+1
  have:=h.tr
  rcases II (k:=x.k) with e | e
  ·rw[e];omega
  ·rw[e,List.length_dropLast];omega
 ·show yS (bO x.k).2.2;intro z hz;rw[hn];rcases II (k:=x.k) with e | e
  ·rw[e] at hz;exact h.tk z hz
  ·rw[e] at hz;exact h.tk z ((List.dropLast_sublist _).subset hz)
def eP (x:RS) (o:Int×Int×Int×Int):RS×Int :=
 if o.1=1 then jf x o.2.1 o.2.2.1 o.2.2.2 else if o.1=2 then kM x o.2.1 else if o.1=3 then kN x o.2.1 else if o.1=4 then xS x o.2.1 else if o.1=5 then xU x else (x,0)
theorem RG (K:KI x.k) (h:XI m x) (o:Int×Int×Int×Int):XI (m+1) (eP x o).1:=by
 unfold eP;split
 ·exact Rx K h _ _ _
 ·split
  ·exact Ry K h _
  ·split
   ·exact Rz h _
   ·split
    ·exact RD K h _
    ·split
     ·exact RF K h
     ·exact h.more
end
section
variable {w w':World} {B:Nat→Prop} {xb m:Nat} {x:RS} {q:RA}
theorem OG (hX:RW B w xb x q) (hB:∀ b,B b→b<w.heap.size) (h:XI m x) (hm:m≤10000000000000) (o:Int×Int×Int×Int) :
  Calls Tryz.prog 41 #[.pointer (some ⟨xb,0,none⟩),.agg #[.int .i64 o.1,.int .i64 o.2.1,.int .i64 o.2.2.1,.int .i64 o.2.2.2]] w (nW B w xb (eP x o)):=by
 obtain⟨kd,a,b,c⟩:=o;have hcb:∀ c∈x.held,0≤c∧c≤1000000000000000:=fun c hc=>by have:=h.cb c hc;omega
 have htr:=h.tr;unfold eP;simp only;by_cases h1:kd=1
 ·rw[if_pos h1,h1];exact Kv hX hB h.hl h.rg a b c (by have:=h.rl;omega)
 ·rw[if_neg h1];by_cases h2:kd=2
  ·rw[if_pos h2,h2];exact Ku hX hB h.hl h.rg hcb a b c
  ·rw[if_neg h2];by_cases h3:kd=3
   ·rw[if_pos h3,h3];exact step_drop hX hB h.hl h.rg hcb a b c
   ·rw[if_neg h3];by_cases h4:kd=4
    ·rw[if_pos h4,h4];exact Ko hX hB h.hl (by omega) a b c
    ·rw[if_neg h4];by_cases h5:kd=5
     ·rw[if_pos h5,h5];exact Kq hX hB h.hl h.tk (by omega) a b c
     ·rw[if_neg h5];by_cases h6:kd=6
      ·rw[h6];exact Kr hX hB h.hl a b c
      ·exact Kt hX hB h.hl kd a b c h1 h2 h3 h4 h5 h6
end
section
variable {x y:RS} {m i j:Nat} {r s:Int} {g:Fn} {p:Int→Bool}
theorem BG {refs held:List Int} {r:Int}:∀ (n:Nat),hsum refs held r n≠0→∃ j,j<n∧refs.getD j 0=r∧0<held.getD j 0
 | 0,h=>absurd rfl h
 | n+1,h=>by
  rw[fq] at h;by_cases h1:refs.getD n 0=r∧0<held.getD n 0
  ·exact⟨n,by omega,h1⟩
  ·have:hsum refs held r n≠0:=fun e=>h (by
    rw[e];unfold ps;by_cases h2:refs.getD n 0=r
    ·rw[if_pos h2,if_neg (fun h3=>h1 ⟨h2,h3⟩)];rfl
    ·rw[if_neg h2];rfl)
   obtain⟨j,a,b⟩:=BG n this;exact⟨j,by omega,b⟩
theorem zY {refs refs' held:List Int} {r r':Int}:∀ (n:Nat),(∀ j,j<n→0<held.getD j 0→(refs.getD j 0=r↔refs'.getD j 0=r'))→hsum refs held r n=hsum refs' held r' n
 | 0,_=>rfl
 | n+1,h=>by
  rw[fq,fq,zY n (fun j hj=>h j (by omega))];by_cases h0:0<held.getD n 0
  ·have:=h n (by omega) h0
   by_cases h1:refs.getD n 0=r
   ·rw[if_pos h1,if_pos (this.1 h1)]
   ·rw[if_neg h1,if_neg (fun e=>h1 (this.2 e))]
  ·have:ps (held.getD n 0)=0:=if_neg h0
   rw[this];simp
structure Rm (x y:RS):Prop where
 n:y.k.n=x.k.n
 ord:y.k.ord=x.k.ord
 dN:y.k.dN=x.k.dN
 rl:y.refs.length=x.refs.length
 hd:y.held=x.held
 two:∀ i,y.refs.getD i 0<2↔x.refs.getD i 0<2
 sm:∀ i,(x.refs.getD i 0<2∨0<x.held.getD i 0)→∀ p,sem y.k.L (y.refs.getD i 0) p=sem x.k.L (x.refs.getD i 0) p
 sub:∀ e∈y.k.L,e.2∈y.refs
theorem Ej (K:KI x.k) (h:XI m x) (hi:i<x.refs.length) (ho:x.refs.getD i 0<2∨0<x.held.getD i 0):Lf x.k (x.refs.getD i 0):=by
 have h0:=h.at i;by_cases h2:x.refs.getD i 0<2
 ·have:x.refs.getD i 0=0∨x.refs.getD i 0=1:=by omega
  rcases this with e | e
  ·rw[e];exact Lf.zero K
  ·rw[e];exact Lf.one K
 ·have hp:=ho.resolve_left h2;have h3:=rP (refs:=x.refs) (held:=x.held) hi rfl hp;rw[h.hh _ (by omega)] at h3;have h4:=h.cat i;exact lG K h0.1 (by omega)
theorem Gh {i:Int} (h:hasB x i=true):∃ m:Nat,i=m∧m<x.refs.length∧(x.refs.getD m 0<2∨0<x.held.getD m 0):=by
 obtain⟨m,rfl,hm⟩:=iL h;refine⟨m,rfl,hm,?_⟩;unfold hasB at h;rw[Int.toNat_natCast] at h;simp only[Bool.and_eq_true,Bool.or_eq_true,decide_eq_true_eq] at h;exact h.2.symm
theorem Rm.lfy (R:Rm x y) (Ky:KI y.k) (Y:XI m y) (hi:i<x.refs.length) (ho:x.refs.getD i 0<2∨0<x.held.getD i 0):Lf y.k (y.refs.getD i 0) :=
 Ej Ky Y (by rw[R.rl];exact hi) (by rw[R.two,R.hd];exact ho)
theorem OH {k k':KS} (K:KI k) (K':KI k') {r q:Int} (h:Lf k r) (h':Lf k' q) (hs:∀ p,sem k'.L q p=sem k.L r p):(r=0→q=0)∧(r=1→q=1)∧(q<2↔r<2):=by
 have a0:r=0→q=0:=fun e=>canon K' h' (Lf.zero K') (fun p=>by rw[hs,e,nJ K,nJ K'])
 have a1:r=1→q=1:=fun e=>canon K' h' (Lf.one K') (fun p=>by rw[hs,e,nK K,nK K'])
 have b0:q=0→r=0:=fun e=>canon K h (Lf.zero K) (fun p=>by rw[← hs,e,nJ K,nJ K'])
 have b1:q=1→r=1:=fun e=>canon K h (Lf.one K) (fun p=>by rw[← hs,e,nK K,nK K'])
 refine⟨a0,a1,?_⟩
 have:=h.h0
 have:=h'.h0
 constructor
 ·intro hq
  have:q=0∨q=1:=by omega
  rcases this with e | e
  ·have:=b0 e;omega
  ·have:=b1 e;omega
 ·intro hq
  have:r=0∨r=1:=by omega
  rcases this with e | e
  ·have:=a0 e;omega
  ·have:=a1 e;omega
theorem Rm.SC (R:Rm x y) (K:KI x.k) (Ky:KI y.k) (X:XI m x) (Y:XI m y) {r q:Int} (h:Lf x.k r) (h':Lf y.k q) (hs:∀ p,sem y.k.L q p=sem x.k.L r p) (h2:2≤r) :
  y.k.hs.getD q.toNat 0=x.k.hs.getD r.toNat 0:=by
 have h2y:2≤q:=by have:=(OH K Ky h h' hs).2.2;omega
 rw[← X.hh _ h2,← Y.hh _ h2y,R.rl,R.hd];refine(zY _ (fun j hj h0=>?_)).symm;exact⟨fun e=>canon Ky (R.lfy Ky Y hj (.inr h0)) h' (fun p=>by rw[R.sm j (.inr h0),hs,e]),fun e=>canon K (Ej K X hj (.inr h0)) h (fun p=>by rw[← R.sm j (.inr h0),← hs,e])⟩
theorem Rm.hs (R:Rm x y) (K:KI x.k) (Ky:KI y.k) (X:XI m x) (Y:XI m y) (hi:i<x.refs.length) (ho:x.refs.getD i 0<2∨0<x.held.getD i 0) (h2:2≤x.refs.getD i 0) :
  y.k.hs.getD (y.refs.getD i 0).toNat 0=x.k.hs.getD (x.refs.getD i 0).toNat 0 :=
 R.SC K Ky X Y (Ej K X hi ho) (R.lfy Ky Y hi ho) (R.sm i ho) h2
theorem Rm.hf (R:Rm x y) (K:KI x.k) (Ky:KI y.k) (X:XI m x) (Y:XI m y) (g:Fn):HF y.k g↔HF x.k g:=by
 have two:∀ {k:KS},KI k→∀ {r:Int},0≤r→k.hs.getD r.toNat 0≠0→2≤r:=fun {k} K {r} r0 hr=>by
  obtain⟨n,hn⟩:=nH K.bk r0 hr;rw[List.append_nil] at hn;exact(K.mem' hn).1
 constructor
 ·rintro⟨r,r0,hr,rfl⟩;have r2:=two Ky r0 hr;have h1:=hr;rw[← Y.hh r r2] at h1;obtain⟨j,hj,e,h0⟩:=BG _ h1;rw[R.rl] at hj;rw[R.hd] at h0;have hx2:2≤x.refs.getD j 0:=by have:=R.two j;omega
  refine⟨x.refs.getD j 0,by omega,?_,?_⟩
  ·rw[← R.hs K Ky X Y hj (.inr h0) hx2,e];exact hr
  ·funext p;rw[← R.sm j (.inr h0),e]
 ·rintro⟨r,r0,hr,rfl⟩;have r2:=two K r0 hr;have h1:=hr;rw[← X.hh r r2] at h1;obtain⟨j,hj,e,h0⟩:=BG _ h1;have hy2:2≤y.refs.getD j 0:=by have:=R.two j;omega
  refine⟨y.refs.getD j 0,by omega,?_,?_⟩
  ·rw[R.hs K Ky X Y hj (.inr h0) (by omega),e];exact hr
  ·funext p;rw[R.sm j (.inr h0),e]
end
def bitsOf (v:Nat):Int→Bool:=fun i=>v.testBit i.toNat
theorem RH (ab k:Nat):(((ab:Int) / 2 ^ k).tmod 2 == 1)=ab.testBit k:=by
 rw[Nat.testBit_eq_decide_div_mod_eq];have h1:(ab:Int) / 2 ^ k=((ab / 2 ^ k:Nat):Int):=by
  rw[Int.natCast_ediv,Int.natCast_pow];rfl
 have h:(((ab / 2 ^ k:Nat):Int)).tmod 2=((ab / 2 ^ k%2:Nat):Int):=by
  rw[Int.tmod_eq_emod_of_nonneg (Int.natCast_nonneg _),Int.natCast_emod];rfl
 rw[h1,h];by_cases hb:ab / 2 ^ k%2=1
 ·rw[hb];rfl
 ·rw[decide_eq_false hb,beq_eq_false_iff_ne];omega
section
variable {w w':World} {B:Nat→Prop} {kp:Nat} {k:KS}
theorem KM (hK:KR B w kp k) (r:Int) (hl:Lf k r) (v:Nat) :
  Calls Tryz.prog 85 #[.pointer (some ⟨kp,0,none⟩),.int .u32 r,.int .u64 v] w fun e w'=>e=.returned (.tuple #[.bool (sem k.L r (bitsOf v)),.bool true])∧Same w w':=by
 obtain⟨R,hR⟩:∃ z,sem k.L r (bitsOf v)=z:=⟨_,rfl⟩;rw[hR];have HK:=Lib.hid hK;have HR:=Lib.hid hR;have HL:=Lib.hid hl;have h64:=hK.ki.bk.n64;clear hK hR hl;go_enter Tryz.func85,Tryz.ntmps85;go_wp2_with (fail)
 go_loopw [8,1] (fun s t wr=>∃ (i:Nat) (q:Int),s=.int .i64 i∧t=.int .u32 q∧Lf k q∧(i:Int)≤bJ k q∧sem k.L q (bitsOf v)=R∧Same w wr) (fun s _ _=>70-(intOf s).toNat)
 case atStart =>
  obtain⟨d,e1,_⟩:=eO HK.out.ki HL.out;exact⟨0,r,rfl,rfl,HL.out,by omega,HR.out,ah.refl _ _⟩
 case round =>
  obtain⟨i,q,rfl,rfl,hl,hd,hs,hw⟩:=hrel;obtain⟨d,e1,e2,_⟩:=eO HK.out.ki hl;have hi:(i:Int)<70:=by omega
  have q0:=hl.h0;have q1:q<4294967296:=by have:=HK.out.ki.bk.lt q0 hl.h1;omega
  have HS:=Lib.hid hs;have HW:=Lib.hid hw;have hcs:=hl.cases HK.out.ki;clear hs hw e1 e2;by_cases h2:q<2
  ·have h01:q=0∨q=1:=by omega
   clear hcs;rcases h01 with rfl | rfl
   ·have hres:R=false:=by rw[← HS.out,nJ HK.out.ki]
    subst hres;go_wp2;go_ret2;exact⟨rfl,HW.out⟩
   ·have hres:R=true:=by rw[← HS.out,nK HK.out.ki]
    subst hres;go_wp2;go_ret2;exact⟨rfl,HW.out⟩
  ·obtain⟨n,hn⟩:∃ n,(n,q)∈k.L:=by
    rcases hcs with h | h | h
    ·omega
    ·omega
    ·exact h
   have hnd:=Ot (HK.out.same HW.out) q q0 q1 (HK.out.ki.mem' hn).2.1 (show fO k.ls q=0 by unfold fO;rw[if_pos hl.h1]);obtain⟨c0,c1,_⟩:=HK.out.ki.bk.eZ n q hn;have hsn:=fH (p:=bitsOf v) HK.out.ki hn;have hdk:=bf HK.out.ki hn;have k1:=bu HK.out.ki hn (.inl rfl);have k2:=bu HK.out.ki hn (.inr rfl);have AJ:=Lib.hid (Lf.lo HK.out.ki hn);have BQ:=Lib.hid (Lf.hi HK.out.ki hn);have HKL:Hid ((i:Int)+1≤bJ k n.lo):=Lib.hid (by omega);have Yl:Hid ((i:Int)+1≤bJ k n.hi):=Lib.hid (by omega);rw[HS.out] at hsn;have zI:=Lib.hid hsn;have Jo:=Lib.hid hnd;have nv0:¬ n.v<0:=by omega
   have nv1:¬ n.v>63:=by omega
   obtain⟨u,hu⟩:∃ u:Nat,n.v=u:=⟨n.v.toNat,by omega⟩;rw[hu] at c0 c1 nv0 nv1;have HU:=Lib.hid hu;clear hcs hsn hnd hdk k1 k2 hu hd;go_wp2_with (fail)
   refine Jo.out.mono ?_;rintro e w2 ⟨rfl,hs2⟩;rw[HU.out];have HS2:=Lib.hid (HW.out.trans hs2 (fun _ _ h=>h));clear hs2;go_upto_region 7 with fail
   refine ai fun w3 hw3=>?_
   have hT:=av.new w2 37 #[.int .i64 u,.int .u32 n.lo,.int .u32 n.hi];have hs3:Same w2 w3:=by rw[hw3];exact(ah.refl _ _).alloc _
   rw[← hw3] at hT;have dX:=Lib.hid (HS2.out.trans hs3 (fun _ _ h=>h));have t0:=hT.cell 0;have t1:=hT.cell 1;have t2:=hT.cell 2;have tl:=hT.lt;simp at t0 t1 t2;clear hw3 hs3 hT;have hbit:=RH v u;have hsn:=zI.out;have hbo:bitsOf v n.v=v.testBit u:=by unfold bitsOf;rw[HU.out,Int.toNat_natCast]
   rw[hbo] at hsn;clear hbo zI;cases hb:v.testBit u with
   | true =>
    rw[hb] at hbit hsn;have zI:=Lib.hid hsn;clear hsn hb;go_wp2;go_roundw
    case rel=>exact⟨i+1,n.hi,by go_num,rfl,BQ.out,by have:=Yl.out;omega,zI.out.symm,dX.out⟩
    case measure=>simp[intOf] <;> omega
   | false =>
    rw[hb] at hbit hsn;have zI:=Lib.hid hsn;clear hsn hb;go_wp2;go_roundw
    case rel=>exact⟨i+1,n.lo,by go_num,rfl,AJ.out,by have:=HKL.out;omega,zI.out.symm,dX.out⟩
    case measure=>simp[intOf] <;> omega
end
abbrev zZ (b:Bool):List Value:=[.bool b]
noncomputable def iM (x:RS) (pl:List Nat) (j:Nat):List Bool:=((List.range j).filter fun i:Nat=>hasB x i).flatMap fun i=>pl.map fun v=>sem x.k.L (x.refs.getD i 0) (bitsOf v)
noncomputable def nY (x:RS) (pl:List Nat):List Bool:=iM x pl x.refs.length
section
variable {w w':World} {B:Nat→Prop} {xb:Nat} {x:RS} {q:RA} {pl:List Nat}
theorem uE (j:Nat):iM x pl (j+1)=if hasB x j=true then iM x pl j++pl.map (fun v=>sem x.k.L (x.refs.getD j 0) (bitsOf v)) else iM x pl j:=by
 unfold iM;rw[List.range_succ,List.filter_append,List.flatMap_append];by_cases h:hasB x j=true
 ·simp[h]
 ·simp[h]
theorem qo (j:Nat):(iM x pl j).length≤j*pl.length:=by
 induction j with
 | zero=>simp[iM]
 | succ j ih =>
  rw[uE]
  have:(j+1)*pl.length=j*pl.length+pl.length:=Nat.succ_mul ..
  split
  ·rw[List.length_append,List.length_map];omega
  ·omega
theorem RI:(Tryz.prog.info? 4).map (fun i=>(i.zero,i.size,i.bytes))=some (some (.bool false),1,1):=by kernel_rfl
theorem kG (hX:RW B w xb x q) (hl:x.held.length=x.refs.length) (hrl:x.refs.length≤60) (hrg:∀ r∈x.refs,0≤r∧r<4294967296) (hlf:∀ i:Nat,hasB x i=true→Lf x.k (x.refs.getD i 0))
  (A:Option Addr) (n C:Nat) (hA:Sl w 1 iW A n pl) (hb:n≤1000000000000) :
  Calls Tryz.prog 43 #[.pointer (some ⟨xb,0,none⟩),.slice A n C] w fun e w'=>∃ A' C',e=.returned (.tuple #[.slice A' (nY x pl).length C',.bool true])∧Go.Tk.Own w' 4 1 zZ A' (nY x pl).length C' (nY x pl)∧bG w.heap.size A'∧Same w w':=by
 obtain rfl:=hA.len;have hxl:=hX.blk.lt;have c0:=hX.c0;have c1:=hX.c1;have HX:=Lib.hid hX;have HL:=Lib.hid hl;have Ou:=Lib.hid hrg;have HLF:=Lib.hid hlf;have HA:=Lib.hid hA;have LD:Hid (∀ j,j≤x.refs.length→(iM x pl j).length≤60*pl.length):=Lib.hid (fun j hj=>Nat.le_trans (qo j) (Nat.mul_le_mul_right _ (by omega)));clear hX hl hrg hlf hA;go_enter Tryz.func43,Tryz.ntmps43;go_wp2_with (fail)
 go_loopw [17,6] (fun s t wr=>∃ (i:Nat) (A':Option Addr) (C':Nat),i≤x.refs.length∧s=.int .i64 i∧t=.slice A' (iM x pl i).length C'∧Go.Tk.Own wr 4 1 zZ A' (iM x pl i).length C' (iM x pl i)∧bG w.heap.size A'∧Same w wr) (fun s _ _=>x.refs.length-(intOf s).toNat)
 case atStart=>exact⟨0,none,0,by omega,rfl,rfl,Go.Tk.Own.nil _ _ _ _,aL _,ah.refl _ _⟩
 case round =>
  obtain⟨i,A1,C1,hi,rfl,rfl,hO,hf,hs⟩:=hrel;have HO:=Lib.hid hO;have HF:=Lib.hid hf;have HS:=Lib.hid hs;have hX:=HX.out.same hs;have HAS:=Lib.hid (vJ hX HL.out i);have hxl:=hX.blk.lt;have c0:=hX.c0;have c1:=hX.c1;have Z4:=Lib.hid (uE (x:=x) (pl:=pl) i);clear hO hf hs hX;obtain⟨V,hV⟩:∃ z,iM x pl i=z:=⟨_,rfl⟩;have HVI:=Lib.hid (LD.out i hi);have HV0:=Lib.hid hV;rw[hV] at HO Z4 HVI ⊢;clear hV;by_cases hlt:i<x.refs.length
  ·have hI:(i:Int)<(x.refs.length:Int):=by omega
   by_cases hh:hasB x i=true
   ·obtain⟨r,hr⟩:∃ r,x.refs[i]?=some r:=⟨_,List.getElem?_eq_getElem hlt⟩;have er:x.refs.getD i 0=r:=by rw[List.getD_eq_getElem?_getD,hr];rfl
    have hlr:=HLF.out i hh;rw[er] at hlr;have has:=HAS.out;have hv1:=Z4.out;rw[hh] at has;rw[if_pos hh,er] at hv1;have VJ:=Lib.hid hv1;have VK:=Lib.hid has;have Vf:=Lib.hid hlr;have HRR:=Lib.hid (Ou.out r (List.mem_of_getElem? hr));have HR:=Lib.hid hr;clear HAS Z4 has hv1 hlr er hr hh;go_wp2_with (fail)
    refine VK.out.mono ?_;rintro e w2 ⟨rfl,rfl⟩
    rename World=>wo
    go_wp2_with (fail)
    go_loopw [26,6] (fun s t wr=>∃ (j:Nat) (A':Option Addr) (C':Nat),j≤pl.length∧s=.int .i64 j∧t=.slice A' (V++(pl.take j).map fun v=>sem x.k.L r (bitsOf v)).length C'∧Go.Tk.Own wr 4 1 zZ A' (V++(pl.take j).map fun v=>sem x.k.L r (bitsOf v)).length C' (V++(pl.take j).map fun v=>sem x.k.L r (bitsOf v))∧bG w.heap.size A'∧Same w wr) (fun s _ _=>pl.length-(intOf s).toNat)
    case atStart=>exact⟨0,A1,C1,by omega,rfl,by simp,by simpa using HO.out,HF.out,HS.out⟩
    case round =>
     clear HO HF HS;obtain⟨j,A2,C2,hj,rfl,rfl,hO,hf,hs⟩:=hrel;have HO:=Lib.hid hO;have HF:=Lib.hid hf;have HS:=Lib.hid hs;have hX:=HX.out.same hs;have hxl:=hX.blk.lt;have c0:=hX.c0;have c1:=hX.c1;by_cases hjl:j<pl.length
     ·have hJ:(j:Int)<(pl.length:Int):=by omega
      obtain⟨v,hv⟩:∃ v,pl[j]?=some v:=⟨_,List.getElem?_eq_getElem hjl⟩;obtain⟨ab,off,hA,hbl,hc⟩:=(HA.out.same hs).get j v hv;have d0:wr.cell? ⟨ab,off+j,none⟩=some (.int .u64 v):=by
       have:=hc 0 (by omega)
       simpa [iW] using this
      obtain⟨rb,hA2,rl,e0⟩:=hX.refs.dV (c:=rc) HR.out;unfold rc at e0;rw[hA2] at c1;have hev:=fun w' (hs:Same wr w')=>KM (hX.k.same hs) r Vf.out v
      have HEV:=Lib.hid hev;have hvj:(V++(pl.take (j+1)).map fun v=>sem x.k.L r (bitsOf v))=(V++(pl.take j).map fun v=>sem x.k.L r (bitsOf v))++[sem x.k.L r (bitsOf v)]:=by
       rw[List.take_add_one,hv];simp
      have hvl:(V++(pl.take j).map fun v=>sem x.k.L r (bitsOf v)).length≤61*pl.length:=by
       have:=HVI.out
       rw[List.length_append,List.length_map,List.length_take];omega
      obtain⟨V2,hV2⟩:∃ z,V++((pl.take j).map fun v=>sem x.k.L r (bitsOf v))=z:=⟨_,rfl⟩;rw[hV2] at HO hvj hvl ⊢;obtain⟨sv,hsv⟩:∃ z,sem x.k.L r (bitsOf v)=z:=⟨_,rfl⟩;rw[hsv] at hvj HEV;have HVJ:=Lib.hid hvj;have ab8:=Lib.hid hvl;subst hA;clear hO hf hs hX hv hc hA2 hev hvj hvl hV2 hsv;go_upto_region 9 with fail
      refine aG (fun _=>False) [([0,1,2,3,4,5,6,7,8,9,10,11],12),([13,14,15,16],17)] (by kernel_rfl) (by kernel_rfl) ?_;simp only[di,pick,List.map_cons,List.map_nil,List.getD_cons_zero,List.getD_cons_succ];have hsd:Same wr wr.drew:=(ah.refl _ _).drew;repeat (any_goals (first | go_big_quiet_step (fail) | quiet_step (fail)))
      refine wpQuiet_nil ?_;refine aa rfl fun K hK=>?_
      go_simp;refine(HEV.out _ hsd).mono ?_;rintro e w5 ⟨rfl,hs5⟩;have Dk:=hsd.trans hs5 (fun _ _ h=>h);refine hK _ _ (aY.bz Dk) ?_;clear hK K;have nE:=Lib.hid Dk;clear hsd hs5 Dk;repeat (any_goals (first | go_big_quiet_step (fail) | quiet_step (fail)))
      refine wpQuiet_nil ?_;go_upto_region 12 with fail
      refine aR 2 ?_;simp only[List.take_succ_cons,List.take_zero,List.drop_succ_cons,List.drop_zero];repeat (any_goals (first | go_big_quiet_step (fail) | quiet_step (fail)))
      refine wpQuiet_nil ?_;refine wpList_plain rfl fun K hK=>?_
      go_simp;refine hK _ _ ?_;clear hK K;refine aK fun wa dJ=>?_
      have hL:=av.new w5 4 #[.bool sv];have hsa:Same w5 wa:=by rw[dJ];exact(ah.refl _ _).alloc _
      rw[← dJ] at hL;clear dJ;have hs6:=nE.out.trans hsa (fun _ _ h=>h);have hrow:=HO.out.ag hs6 (fun _ _=>id);have Vb:=ab8.out;refine Go.Tk.Own.aI (f:=zZ) rfl (.tmp 48) (.tmp 50) _ rfl Tryz.underlying56 RI rfl (by omega) rfl hrow (fun _=>rfl) sv w5.heap.size 1 rfl (by simpa using hL) (by simp[Value.oneCell']) (by unfold maxLen;omega) (by omega) ?_;intro gg cap wb hOb hgb hat;have hsb:Same w wb:=(HS.out.trans hs6 (fun _ _ h=>h)).grown hgb (fun g hg=>.inr (HF.out g (af.1 hg)));have rT:bG w.heap.size (some ⟨gg,0,none⟩):=fun b hb=>by
       obtain⟨y,hy,rfl⟩:=hb;injection hy with hy
       subst hy;rcases hat with h | h
       ·exact HF.out gg (af.1 h)
       ·have h1:=HS.out.size;have h2:=hs6.size;show w.heap.size≤gg;omega
      have l7:=Lib.hid hsb;have GY:=Lib.hid rT;have Av:=Lib.hid hOb;clear hsb rT hOb hgb hat hrow hs6 hsa hL Vb HO HS HF nE;go_wp2;go_roundw
      case rel =>
       refine⟨j+1,_,cap,by omega,by go_num,?_,?_,GY.out,l7.out⟩
       ·rw[HVJ.out,List.length_append];rfl
       ·rw[HVJ.out,List.length_append];exact Av.out
      case measure=>simp[intOf] <;> omega
     ·obtain rfl:j=pl.length:=by omega
      have hJ:¬ ((pl.length:Nat):Int)<(pl.length:Int):=by omega
      have hv2:=VJ.out;rw[List.take_length] at HO ⊢;rw[← hv2] at HO ⊢;clear hv2 hX hs;go_wp2;go_roundw
      case rel=>exact⟨i+1,A2,C2,by omega,by go_num,rfl,HO.out,HF.out,HS.out⟩
      case measure=>simp[intOf] <;> omega
   ·have hv1:=Z4.out;rw[if_neg hh] at hv1;have has:=HAS.out;rw[Bool.eq_false_iff.2 hh] at has;have VK:=Lib.hid has;have VJ:=Lib.hid hv1;clear HAS Z4 has hv1 hh;go_wp2_with (fail)
    refine VK.out.mono ?_;rintro e w2 ⟨rfl,rfl⟩;go_wp2;go_roundw
    case rel=>exact⟨i+1,A1,C1,by omega,by go_num,by rw[VJ.out],by rw[VJ.out];exact HO.out,HF.out,HS.out⟩
    case measure=>simp[intOf] <;> omega
  ·obtain rfl:i=x.refs.length:=by omega
   have hI:¬ ((x.refs.length:Nat):Int)<(x.refs.length:Int):=by omega
   go_wp2;go_ret2;rw[show nY x pl=V from HV0.out];exact⟨A1,C1,rfl,HO.out,HF.out,HS.out⟩
end
section
variable {x x':RS} {m:Nat} {pl:List Nat} {k k':KS}
theorem IK (K:KI x.k) (X:XI m x) (hr:x'.refs=x.refs) (hh:x'.held=x.held) (hk:pQ x.k x'.k):nY x' pl=nY x pl:=by
 unfold nY iM;have hb:∀ i:Int,hasB x' i=hasB x i:=fun i=>by unfold hasB;rw[hr,hh]
 rw[hr];simp only[hb];rw[List.flatMap_def,List.flatMap_def];congr 1;refine List.map_congr_left (fun i hi=>?_);obtain⟨h1,h2⟩:=List.mem_filter.1 hi;obtain⟨j,hj,hjl,ho⟩:=Gh h2;obtain rfl:i=j:=by omega
 have hl:=Ej K X hjl ho;refine List.map_congr_left (fun v _=>hk.sem _ hl.h0 ?_ _);by_cases h2:x.refs.getD i 0<2
 ·exact .inl (by omega)
 ·right;have hp:=ho.resolve_left h2;have h3:=rP (refs:=x.refs) (held:=x.held) hjl rfl hp;rw[X.hh _ (by omega)] at h3;have h4:=X.cat i;omega
theorem BH (K:KI x.k) (X:XI m x):∀ i:Nat,hasB x i=true→Lf x.k (x.refs.getD i 0):=fun i h=>by
 obtain⟨j,hj,hjl,ho⟩:=Gh h;obtain rfl:i=j:=by omega
 exact Ej K X hjl ho
def Gi (p:List Int) (ls:List Int):List Int:=ls.foldl (fun p l=>swp p l.toNat) p
theorem z8 (p ls:List Int) (l:Int):Gi p (ls++[l])=swp (Gi p ls) l.toNat:=by
 unfold Gi;rw[List.foldl_append];rfl
structure Tu (x:RS) (o:Int×Int×Int×Int):Prop where
 tu:zU (eP x o).1.k
 st:(o.1=4∨o.1=5∨o.1=6∨(eP x o).2≠0)→(eP x o).1.refs=x.refs∧(eP x o).1.held=x.held∧pQ x.k (eP x o).1.k
 sm:((eP x o).2≠0∨o.1=6)→(eP x o).1.k=x.k
 ex:o.1=4→(eP x o).2=0→(0≤o.2.1∧o.2.1≤(x.k.n:Int)-2)∧(eP x o).1.k.ord=swp x.k.ord o.2.1.toNat∧(eP x o).1.k.tr=x.k.tr++[o.2.1]
 un:o.1=5→(eP x o).2=0→x.k.tr.length=(eP x o).1.k.tr.length+1
theorem KO {k:KS} (h:k.tr=[]):(bO k).2.1≠0:=by
 unfold bO;rw[h];intro h;cases h
theorem VL (K:KI x.k) (X:XI m x) (T:zU x.k) (o:Int×Int×Int×Int):Tu x o:=by
 obtain⟨kd,a,b,c⟩:=o;have same:∀ (hst:eP x (kd,a,b,c)=(x,0)) (hk:kd≠4) (hk5:kd≠5),Tu x (kd,a,b,c):=by
  intro hst hk hk5;refine⟨?_,fun _=>?_,fun _=>?_,fun h=>absurd h hk,fun h=>absurd h hk5⟩
  ·rw[hst];exact T
  ·rw[hst];exact⟨rfl,rfl,pQ.refl _⟩
  ·rw[hst]
 by_cases h1:kd=1
 ·subst h1;have e:eP x (1,a,b,c)=jf x a b c:=rfl;unfold jf at e;split at e
  ·rename_i hc;have lo0:=(X.at b.toNat).1;have hi0:=(X.at c.toNat).1;obtain⟨t1,t2⟩:=KF K T ⟨a,x.refs.getD b.toNat 0,x.refs.getD c.toNat 0⟩ lo0 hi0;split at e
   ·rename_i hE;refine⟨by rw[e];exact t1,fun h=>?_,fun h=>?_,fun h=>by simp at h,fun h=>by simp at h⟩
    ·rcases h with h | h | h | h
     ·simp at h
     ·simp at h
     ·simp at h
     ·rw[e] at h;exact absurd rfl h
    ·rcases h with h | h
     ·rw[e] at h;exact absurd rfl h
     ·simp at h
   ·rename_i hE;have e2:=t2 hE;refine⟨by rw[e];exact t1,fun _=>?_,fun _=>?_,fun h=>by simp at h,fun h=>by simp at h⟩
    ·rw[e];refine⟨rfl,rfl,?_⟩;show pQ x.k (aV x.k ⟨a,x.refs.getD b.toNat 0,x.refs.getD c.toNat 0⟩).2.2;rw[e2];exact pQ.refl _
    ·rw[e];exact e2
  ·exact same e (by decide) (by decide)
 ·by_cases h2:kd=2
  ·subst h2;have e:eP x (2,a,b,c)=kM x a:=rfl;unfold kM at e;split at e
   ·obtain⟨t1,t2⟩:=KG T (x.refs.getD a.toNat 0);split at e
    ·rename_i hE;refine⟨by rw[e];exact t1,fun h=>?_,fun h=>?_,fun h=>by simp at h,fun h=>by simp at h⟩
     ·rcases h with h | h | h | h
      ·simp at h
      ·simp at h
      ·simp at h
      ·rw[e] at h;exact absurd rfl h
     ·rcases h with h | h
      ·rw[e] at h;exact absurd rfl h
      ·simp at h
    ·rename_i hE;have e2:=t2 hE;refine⟨by rw[e];exact t1,fun _=>?_,fun _=>?_,fun h=>by simp at h,fun h=>by simp at h⟩
     ·rw[e];refine⟨rfl,rfl,?_⟩;show pQ x.k (bE x.k (x.refs.getD a.toNat 0)).2;rw[e2];exact pQ.refl _
     ·rw[e];exact e2
   ·exact same e (by decide) (by decide)
  ·by_cases h3:kd=3
   ·subst h3;have e:eP x (3,a,b,c)=kN x a:=rfl;unfold kN at e;split at e
    ·rename_i hc;obtain⟨t1,t2⟩:=KH T (x.refs.getD a.toNat 0);have hE:(dF x.k (x.refs.getD a.toNat 0)).1=0:=by
      obtain⟨j,rfl,hjl,ho⟩:=Gh hc.1;rw[Int.toNat_natCast] at hc ⊢;unfold dF;split
      ·rename_i h1;have h3:=rP (refs:=x.refs) (held:=x.held) hjl rfl hc.2;rw[X.hh _ (by omega)] at h3
       have:=hc.2
       rw[if_neg (by omega)]
      ·rfl
     have e3:(eP x (3,a,b,c)).2=0:=by rw[e];exact hE
     refine⟨by rw[e];exact t1,fun h=>?_,fun h=>?_,fun h=>by simp at h,fun h=>by simp at h⟩
     ·rcases h with h | h | h | h
      ·simp at h
      ·simp at h
      ·simp at h
      ·exact absurd e3 h
     ·rcases h with h | h
      ·exact absurd e3 h
      ·simp at h
    ·exact same e (by decide) (by decide)
   ·by_cases h4:kd=4
    ·subst h4;have e:eP x (4,a,b,c)=xS x a:=rfl;unfold xS at e;obtain⟨d1,d2,d3,d4⟩:=tQ K T a;refine⟨by rw[e];exact d2,fun _=>by rw[e];exact⟨rfl,rfl,d1⟩,fun h=>?_,fun _ h=>?_,fun h=>by simp at h⟩
     ·rcases h with h | h
      ·rw[e] at h ⊢;exact d4 h
      ·simp at h
     ·rw[e] at h ⊢;exact d3 h
    ·by_cases h5:kd=5
     ·subst h5;have e:eP x (5,a,b,c)=xU x:=rfl;unfold xU at e;obtain⟨d1,d2,d3,d4⟩:=zV K T X.tk;refine⟨by rw[e];exact d2,fun _=>by rw[e];exact⟨rfl,rfl,d1⟩,fun h=>?_,fun h=>by simp at h,fun _ h=>?_⟩
      ·rcases h with h | h
       ·rw[e] at h ⊢;exact(d3 h).1
       ·simp at h
      ·rw[e] at h ⊢;rcases List.eq_nil_or_concat x.k.tr with h0 | ⟨t,l,ht⟩
       ·exact absurd h (KO h0)
       ·rw[List.concat_eq_append] at ht;obtain⟨_,_,_,f⟩:=d4 t l ht;show _=(bO x.k).2.2.tr.length+1;rw[f,ht,List.length_append];rfl
     ·refine same ?_ h4 h5;unfold eP;rw[if_neg h1,if_neg h2,if_neg h3,if_neg h4,if_neg h5]
theorem RJ (n c:Nat):zU (xu n c):=rQ rfl
end
section
variable {k:KS} {l:List Int}
theorem OI (K:KI k) (W:Gd k (aU k) l):∀ (d:Nat) (n:Nd) (r:Int),(n,r)∈k.L→bH k n.v=d→r∈l:=by
 intro d
 induction d using Nat.strongRecOn with
 | _ d ih =>
  intro n r hm hd;have hp:=K.pos n r hm;obtain⟨h1,_⟩:=K.bk.Qe (List.mem_append_left [] hm);obtain⟨h2,_,_⟩:=K.mem' hm;by_cases h0:k.hs.getD r.toNat 0=0
  ·rw[if_pos h0] at h1;have hpar:par k.L r≠0:=fun h=>by
    rw[h] at h1;rw[h1] at hp;simp at hp
   have hex:∃ p∈k.L,p.1.lo=r∨p.1.hi=r:=by
    apply Classical.byContradiction;intro hn;refine hpar (iT.2 fun p hp=>⟨fun h=>hn ⟨p,hp,.inl h⟩,fun h=>hn ⟨p,hp,.inr h⟩⟩)
   obtain⟨⟨m,s⟩,hms,hor⟩:=hex;obtain⟨c0,c1,_⟩:=K.bk.eZ m s hms;obtain⟨i,hi,hin,_⟩:=K.lv.dK c0 c1;have MN:bH k m.v<bH k n.v:=by
    rcases hor with h | h
    ·exact K.ord.lo m s n hms (by rw[show m.lo=r from h];exact hm)
    ·exact K.ord.hi m s n hms (by rw[show m.hi=r from h];exact hm)
   have hs:=ih i (by omega) m s hms hi;have hg:=(K.mem' hms).2.1;have hc:=W.eZ s hs (by rw[hg];exact c0);rw[hg] at hc;rcases hor with h | h
   ·exact h ▸ hc.1
   ·exact h ▸ hc.2
  ·refine W.top r (.inr (.inr ?_));have hn:0<k.hs.getD r.toNat 0:=by
    rw[List.getD_eq_getElem?_getD] at h0 ⊢;cases hx:k.hs[r.toNat]? with
    | none=>rw[hx] at h0;exact absurd rfl h0
    | some y =>
     rw[hx] at h0
     have:=(K.bk.hol _ y hx).1
     simp at h0 ⊢;omega
   refine nX.2 ⟨r.toNat,by omega,?_,hn⟩;rw[List.getD_eq_getElem?_getD] at h0;cases hx:k.hs[r.toNat]? with
   | none=>rw[hx] at h0;exact absurd rfl h0
   | some y=>exact(List.getElem?_eq_some_iff.1 hx).1
theorem Ac (K:KI k) (W:Gd k (aU k) l):l.Perm (0::1::k.L.map (·.2)):=by
 have hr:(k.L.map (·.2)).Nodup:=by
  have:=K.bk.rn
  rwa [List.append_nil] at this
 have h2:∀ r∈k.L.map (·.2),2≤r:=fun r hr=>by
  obtain⟨⟨n,s⟩,h,rfl⟩:=List.mem_map.1 hr;exact(K.mem' h).1
 refine(List.perm_ext_iff_of_nodup W.nd ?_).2 fun r=>⟨fun h=>?_,fun h=>?_⟩
 ·refine List.nodup_cons.2 ⟨fun h=>?_,List.nodup_cons.2 ⟨fun h=>?_,hr⟩⟩
  ·rcases List.mem_cons.1 h with h | h
   ·cases h
   ·have:=h2 _ h
    omega
  ·have:=h2 _ h
   omega
 ·obtain⟨h0,ht⟩:=W.ll r h;rcases(K.live h0).1 ht with rfl | rfl | ⟨n,hn⟩
  ·exact List.mem_cons_self ..
  ·exact List.mem_cons_of_mem _ (List.mem_cons_self ..)
  ·exact List.mem_cons_of_mem _ (List.mem_cons_of_mem _ (List.mem_map.2 ⟨_,hn,rfl⟩))
 ·rcases List.mem_cons.1 h with rfl | h
  ·exact W.top 0 (.inl rfl)
  ·rcases List.mem_cons.1 h with rfl | h
   ·exact W.top 1 (.inr (.inl rfl))
   ·obtain⟨⟨n,s⟩,hn,rfl⟩:=List.mem_map.1 h;obtain⟨c0,c1,_⟩:=K.bk.eZ n s hn;obtain⟨i,hi,_,_⟩:=K.lv.dK c0 c1;exact OI K W i n s hn hi
theorem OJ (K:KI k) (W:Gd k (aU k) l):l.length=k.ac:=by
 have h1:=(Ac K W).length_eq;have h2:=K.bk.cnt;rw[List.append_nil] at h2;simp at h1;omega
def eH (k:KS) (l:List Int):List Nd:=(l.filter fun r=>decide (2≤r)).map (aH k.ls)
theorem BI (l:List Int) (r:Int):eH k (l++[r])=if 2≤r then eH k l++[aH k.ls r] else eH k l:=by
 unfold eH;rw[List.filter_append];by_cases h:2≤r
 ·rw[if_pos h];simp[h]
 ·rw[if_neg h];simp[h]
theorem El (l:List Int):(eH k l).length≤l.length:=by
 unfold eH;rw[List.length_map];exact List.length_filter_le _ _
def uP (nd:List Nd) (v:Int):Nat:=(nd.filter fun n=>decide (n.v=v)).length
theorem KP (nd:List Nd) (n:Nd) (v:Int):uP (nd++[n]) v=if n.v=v then uP nd v+1 else uP nd v:=by
 unfold uP;rw[List.filter_append,List.length_append];by_cases h:n.v=v
 ·rw[if_pos h];simp[h]
 ·rw[if_neg h];simp[h]
theorem RN (nd:List Nd) (v:Int):uP nd v≤nd.length:=List.length_filter_le _ _
theorem Gj (K:KI k) (W:Gd k (aU k) l):(eH k l).Perm (k.L.map (·.1)):=by
 have h1:=((Ac K W).filter (fun r=>decide (2≤r))).map (aH k.ls);have h2:((0::1::k.L.map (·.2)).filter fun r:Int=>decide (2≤r))=k.L.map (·.2):=by
  rw[List.filter_cons_of_neg (by decide),List.filter_cons_of_neg (by decide),List.filter_eq_self];intro r hr;obtain⟨⟨n,s⟩,h,rfl⟩:=List.mem_map.1 hr;simpa using (K.mem' h).1
 rw[h2,List.map_map] at h1;have h3:k.L.map (aH k.ls ∘ (·.2))=k.L.map (·.1):=List.map_congr_left fun p hp=>(K.mem' (n:=p.1) (r:=p.2) hp).2.1
 rw[h3] at h1;exact h1
theorem OL (K:KI k) (W:Gd k (aU k) l) (v:Nat) (hv:v<k.n):uP (eH k l) v=Py k v:=by
 unfold uP Py;rw[if_pos ⟨by omega,by omega⟩,((Gj K W).filter _).length_eq,List.filter_map,List.length_map];rfl
theorem oV (K:KI k) {r:Int} (h:iY k r) (h2:2≤r):(aH k.ls r,r)∈k.L:=by
 rcases(K.live h.1).1 h.2 with rfl | rfl | ⟨n,hn⟩
 ·omega
 ·omega
 ·rw[(K.mem' hn).2.1];exact hn
theorem KQ (K:KI k) {pre:List Int} {r:Int} (hp:∀ s∈pre,iY k s) (hr:iY k r) (h2:2≤r) (hn:r∉pre):∀ m∈eH k pre,m≠aH k.ls r:=by
 intro m hm he;unfold eH at hm;obtain⟨s,hs,rfl⟩:=List.mem_map.1 hm;rw[List.mem_filter] at hs;have hs2:2≤s:=by simpa using hs.2
 have h1:=oV K (hp s hs.1) hs2;have h3:=oV K hr h2;rw[he] at h1;have hk:=K.bk.kn
 have:s=r:=fP hk h1 h3
 exact hn (this ▸ hs.1)
end
end Go.Proofs.YtiomgckodmecbaaGreat
namespace Go.Tk
theorem Sl.ag {w w':World} {S:Nat→Prop} {m:Nat} {α:Type} {f:α→List Value} {A:Option Addr} {n:Nat} {xs:List α} (h:Sl w m f A n xs) (hf:ah S w w') (hs:0<xs.length→∀ b,rowOf A b→¬ S b):Sl w' m f A n xs :=
 ⟨h.len,fun i x hi=>by
  obtain⟨b,off,h1,h2,h3⟩:=h.get i x hi;have hl:=aQ hi
  exact⟨b,off,h1,Nat.lt_of_lt_of_le h2 hf.size,fun j hj=>by rw[← h3 j hj];exact hf.cell (p:=⟨b,_,none⟩) h2 (hs (by omega) b ⟨_,h1,rfl⟩)⟩⟩
end Go.Tk
namespace Go.Proofs.YtiomgckodmecbaaGreat
open Go.RowKit Go.Tk
theorem OM (A B:Option Addr) (n m C D:Nat) (xs ys:List Int) (w:World) (h:IL w A n xs) (h2:IL w B m ys) (hr:n*8≤140737488351232) (hr2:m*8≤140737488351232) :
  Calls Tryz.prog 38 #[.slice A n C,.slice B m D] w fun e w'=>e=.returned (.bool (decide (xs=ys)))∧Same w w':=by
 obtain rfl:=h.len;obtain rfl:=h2.len;have H:=Lib.hid h;have H2:=Lib.hid h2;clear h h2;by_cases hl:xs.length=ys.length
 ·have hl1:xs.length≤ys.length:=by omega
  have hl2:ys.length≤xs.length:=by omega
  have hl':((xs.length:Int) != (ys.length:Int))=false:=by simp[hl]
  have HL:=Lib.hid hl;clear hl;go_enter Tryz.func38,Tryz.ntmps38;go_wp2;go_loopw [5] (fun i wr=>∃ k:Nat,k≤xs.length∧i=.int .i64 k∧xs.take k=ys.take k∧Same w wr) (fun i _=>xs.length-(intOf i).toNat)
  case atStart=>exact⟨0,by omega,rfl,rfl,ah.refl _ _⟩
  case round =>
   obtain⟨k,hk,rfl,he,hs⟩:=hrel;by_cases hlt:k<xs.length
   ·obtain⟨x,hx⟩:∃ x,xs[k]?=some x:=⟨_,List.getElem?_eq_getElem hlt⟩;obtain⟨y,hy⟩:∃ y,ys[k]?=some y:=⟨_,List.getElem?_eq_getElem (by omega)⟩;obtain⟨b,off,rfl,hb,hc⟩:=(Sl.same H.out hs).dV hx;obtain⟨b2,off2,rfl,hb2,hc2⟩:=(Sl.same H2.out hs).dV hy;have hi0:(0:Int)≤k:=by omega
    have hi1:(k:Int)<xs.length:=by omega
    have hi2:(k:Int)<ys.length:=by omega
    have HX:=Lib.hid hx;have HY:=Lib.hid hy;have HE:=Lib.hid he;have HS:=Lib.hid hs;clear hx hy he hs;by_cases hxy:x=y
    ·subst hxy;go_wp2;refine dZ (by kernel_rfl) (by kernel_rfl) ?_;repeat (any_goals (first | go_big_quiet_step (fail) | quiet_step (fail)))
     refine wpQuiet_nil ?_;rintro _ ⟨q,rfl⟩;have HS2:=Lib.hid (HS.out.trans (ay _ q) (fun _ _ h=>h));go_wp2;go_roundw
     case rel=>exact⟨k+1,by omega,by go_num,by rw[sQ HX.out,sQ HY.out,HE.out],HS2.out⟩
     case measure=>simp[intOf] <;> omega
    ·have hne:(x != y)=true:=by simpa using hxy
     have hfin:decide (xs=ys)=false:=by
      rw[decide_eq_false_iff_not];rintro rfl;exact hxy (Option.some.inj (HX.out.symm.trans HY.out))
     have aD:=Lib.hid hfin;clear hxy hfin;go_wp2;refine dZ (by kernel_rfl) (by kernel_rfl) ?_;repeat (any_goals (first | go_big_quiet_step (fail) | quiet_step (fail)))
     refine wpQuiet_nil ?_;rintro _ ⟨q,rfl⟩;have HS2:=Lib.hid (HS.out.trans (ay _ q) (fun _ _ h=>h));go_wp2;go_ret;exact⟨gT aD.out.symm,HS2.out⟩
   ·obtain rfl:k=xs.length:=by omega
    have hfin:decide (xs=ys)=true:=by
     rw[decide_eq_true_iff];rw[List.take_of_length_le (Nat.le_refl _),List.take_of_length_le (by omega)] at he;exact he
    have aD:=Lib.hid hfin;clear he hfin;go_wp2;go_ret;exact⟨gT aD.out.symm,hs⟩
 ·have hl':((xs.length:Int) != (ys.length:Int))=true:=by simp <;> omega
  have hfin:decide (xs=ys)=false:=by
   rw[decide_eq_false_iff_not];rintro rfl;exact hl rfl
  have aD:=Lib.hid hfin;clear hl hfin;go_enter Tryz.func38,Tryz.ntmps38;go_wp2;go_ret;exact⟨gT aD.out.symm,ah.refl _ _⟩
theorem gP (A B:Option Addr) (n m C D:Nat) (xs ys:List Int) (w:World) (h:IL w A n xs) (h2:IL w B m ys) (hr:n*8≤140737488351232) (hr2:m*8≤140737488351232) :
  Calls Tryz.prog 38 #[.slice A n C,.slice B m D] w fun e w'=>e=.returned (.bool (decide (xs=ys)))∧Same w w':=OM A B n m C D xs ys w h h2 hr hr2
theorem Gl:(Tryz.prog.info? 37).map (fun i=>(i.zero,i.size,i.bytes))=some (some (.agg #[.int .i64 0,.int .u32 0,.int .u32 0]),3,16):=by kernel_rfl
theorem xY (n:Nd):n.cells.length=3:=rfl
theorem KI.perm {k:KS} (K:KI k):TI k.ord=0:=by
 refine TJ.2 ⟨⟨fun x hx=>?_,?_⟩,by rw[K.Ol];exact K.bk.n64⟩
 ·obtain⟨i,hi⟩:=List.getElem?_of_mem hx;obtain⟨m,rfl,hm,_⟩:=K.lv.o2 i x hi;rw[K.Ol];omega
 ·refine List.pairwise_iff_getElem.2 fun i j hi hj hij he=>?_
  obtain⟨m,h1,_,h2⟩:=K.lv.o2 i _ (List.getElem?_eq_getElem hi);obtain⟨m',h3,_,h4⟩:=K.lv.o2 j _ (List.getElem?_eq_getElem hj);rw[he,h3] at h1;obtain rfl:m'=m:=by omega
  rw[h2] at h4;injection h4 with h4
  omega
section
variable {w w':World} {B:Nat→Prop} {xb:Nat} {x:RS} {q:RA}
theorem Gm (hX:RW B w xb x q) (hl:x.held.length=x.refs.length) (hrg:∀ r∈x.refs,0≤r∧r<4294967296) (hcb:∀ c∈x.held,0≤c∧c≤1000000000000000) (hrl:x.refs.length≤1000000) (hh:Held x) :
  Calls Tryz.prog 42 #[.pointer (some ⟨xb,0,none⟩)] w fun e w'=>e=.returned (.bool true)∧Same w w':=by
 have K:=hX.k.ki;have hn1:=K.bk.n1;have Qh:=K.bk.n64;have hls:=K.lsl;have hc:∀ w',Same w w'→xb<w'.heap.size∧w'.cell? ⟨xb,0,none⟩=some (.pointer (some ⟨q.kp,0,none⟩)):=fun w' hs=>⟨(hX.same hs).blk.lt,(hX.same hs).c0⟩
 have HC:=Lib.hid hc;have hmk:=fun w=>eU (P:=Tryz.prog) Tryz.underlying46 iV .i64 .i64 x.k.n (show 8*x.k.n≤281474976710656 by omega) (show x.k.n≤9223372036854775807 by omega) w
 have HMK:=Lib.hid (fun w=>Own.mW (m:=1) w 3 dM (fun _=>rfl) (by decide) 0 x.k.n (show x.k.n≤9223372036854775807 by omega) rfl);have hho:=fun w' (hs:Same w w') (A:Option Addr) (C:Nat) (hA:Row1 w' 28 rc A (aU x.k).length C (aU x.k))=>Gg (hX.same hs) hl hrg hcb hrl hh A C hA
 have hrl2:=tL K;have PL:=Lib.hid (fun w' (hs:Same w w')=>hX.k.same hs);have ZE:=Lib.hid hho;have HK:=Lib.hid K;have HS:=Lib.hid (ah.refl (fun _=>False) w:Same w w);clear hX hl hrg hcb hrl hh hc hho K;go_enter Tryz.func42,Tryz.ntmps42;obtain⟨hxl,c0⟩:=HC.out _ HS.out;go_wp2_with (fail)
 refine(Om (PL.out _ HS.out)).mono ?_;rintro e w1 ⟨A3,C3,rfl,fZ,P6,hs⟩;replace HS:=Lib.hid (show Same w w1 from hs);have HR3:=Lib.hid fZ;have hlv:∀ r∈aU x.k,iY x.k r:=fun r hr=>by
  obtain⟨h2,h0⟩:=zR HK.out r hr;refine⟨by omega,(HK.out.live (by omega)).2 (.inr (.inr ?_))⟩;obtain⟨n,hn⟩:=nH (r:=r) HK.out.bk (by omega) (by omega);exact⟨n,by rwa [List.append_nil] at hn⟩
 have hwk:=Km (PL.out _ HS.out) A3 _ C3 (aU x.k) (HR3.out.sl (fun _=>rfl)) hlv (by omega);have HWK:=Lib.hid hwk;clear hxl c0 hs fZ P6 hlv hwk;obtain⟨hxl,c0⟩:=HC.out _ HS.out;go_wp2_with (fail)
 refine HWK.out.mono ?_;rintro e w2 ⟨A4,C4,l,rfl,hW,hL4,R7,hs⟩;have HR4:=Lib.hid (HR3.out.ag hs (fun _ _=>id));replace HS:=Lib.hid (HS.out.trans hs (fun _ _ h=>h));have hll:=OJ HK.out hW;have hlc:l.length≤x.k.c:=by
  have h1:=HK.out.bk.iG;have h2:=HK.out.bk.lim;omega
 have hlb:l.length≤1048576:=by
  have h1:=HK.out.acl;omega
 have hl2:2≤l.length:=by
  have h1:=HK.out.bk.cnt;omega
 have hlive:=jC (PL.out _ HS.out);rw[← hll] at hlive;have Tv:=Lib.hid hlive;have HW:=Lib.hid hW;have Rf:=Lib.hid hL4;have hcc:¬ (l.length:Int)>(x.k.c:Int):=by omega
 clear hxl c0 hs HWK hW hL4 R7 hll hlive HR3 hlc;obtain⟨hxl,c0⟩:=HC.out _ HS.out;go_wp2_with (fail)
 refine Tv.out.mono ?_;rintro e w3 ⟨rfl,rfl⟩;go_wp2_with (fail)
 refine(Oj (PL.out _ HS.out)).mono ?_;rintro e w3 ⟨rfl,rfl⟩;go_wp2_with (fail)
 refine(Rs (PL.out _ HS.out)).mono ?_;rintro e w3 ⟨rfl,rfl⟩;go_wp2_with (fail)
 refine(gD (PL.out _ HS.out)).mono ?_;rintro e w3 ⟨A7,C7,rfl,Kc,hF7,hs⟩;rw[HK.out.Ol] at Kc ⊢;replace HR4:=Lib.hid (HR4.out.ag hs (fun _ _=>id));replace Rf:=Lib.hid (Rf.out.ag hs (fun _ _=>id));replace HS:=Lib.hid (HS.out.trans hs (fun _ _ h=>h));have hdc:=AZ A7 x.k.n C7 x.k.ord w3 (Own.il (show gm w3 3 A7 x.k.n C7 x.k.ord from Kc)) (by omega);rw[HK.out.perm] at hdc;have HDC:=Lib.hid hdc;have FZ:=Lib.hid (show gm w3 3 A7 x.k.n C7 x.k.ord from Kc);clear hxl c0 hs Kc hF7 hdc Tv hcc;go_wp2_with (fail)
 refine HDC.out.mono ?_;rintro e w4 ⟨rfl,rfl⟩;go_wp2_with (fail)
 refine ai fun w5 kW=>?_
 have hr5:gm w5 3 (some ⟨w3.heap.size,0,none⟩) x.k.n x.k.n (List.replicate x.k.n 0):=by rw[kW];simpa [dM] using HMK.out w3
 have hs5:Same w3 w5:=by rw[kW];exact(ah.refl _ _).alloc _
 have hz5:w5.heap.size=w3.heap.size+1:=by rw[kW];simp
 clear kW;have hlt:∀ b,(rowOf A7 b∨rowOf A3 b∨rowOf A4 b)→b<w3.heap.size:=fun b hb=>by
  rcases hb with hb | hb | hb
  ·exact cu FZ.out hb
  ·exact cu HR4.out hb
  ·exact cu Rf.out hb
 replace HR4:=Lib.hid (HR4.out.ag hs5 (fun _ _=>id));replace Rf:=Lib.hid (Rf.out.ag hs5 (fun _ _=>id));replace FZ:=Lib.hid (FZ.out.ag hs5 (fun _ _=>id));have hlow:=HS.out.size;replace HS:=Lib.hid (HS.out.trans hs5 (fun _ _ h=>h));obtain⟨LB,hLB⟩:∃ z,w3.heap.size=z:=⟨_,rfl⟩;rw[hLB] at hr5 hz5 hlow hlt ⊢;have Z5:=Lib.hid hlt;have HR5:=Lib.hid hr5;clear hr5 hs5 hLB HDC hlt;go_loopw [88] (fun s wr=>∃ (i:Nat) (lv:List Int),i≤x.k.n∧s=.int .i64 i∧gm wr 3 (some ⟨LB,0,none⟩) x.k.n x.k.n lv∧(∀ (j:Nat) (v:Int),j<i→x.k.ord[j]?=some v→lv.getD v.toNat 0=(j:Int))∧ah (fun b=>b=LB) w5 wr) (fun s _=>x.k.n-(intOf s).toNat)
 case atStart=>exact⟨0,_,by omega,rfl,HR5.out,(fun j v h=>absurd h (by omega)),ah.refl _ _⟩
 case round =>
  as_aux_lemma =>
  obtain⟨i,lv,hi,rfl,hrow,hlv,hfr⟩:=hrel;have hO:=FZ.out.ag hfr (fun y hy hh=>by have:=Z5.out y.block (.inl ⟨y,hy,rfl⟩);omega);by_cases hlt:i<x.k.n
  ·have hI:(i:Int)<(x.k.n:Int):=by omega
   obtain⟨v,hv⟩:∃ v,x.k.ord[i]?=some v:=⟨_,List.getElem?_eq_getElem (by rw[HK.out.Ol];exact hlt)⟩;obtain⟨m,rfl,hm,Le⟩:=HK.out.lv.o2 i v hv;have hM:(m:Int)<(x.k.n:Int):=by omega
   obtain⟨ob,hA,hol,d0⟩:=hO.dV (c:=fun x:Int=>.int .i64 x) hv;have hll:=hrow.len;obtain⟨y,hy⟩:∃ y,lv[m]?=some y:=⟨_,List.getElem?_eq_getElem (by omega)⟩;obtain⟨lb',hA',hbl,d1⟩:=hrow.dV (c:=fun x:Int=>.int .i64 x) hy;injection hA' with hA'
   injection hA' with hA'
   subst hA';have fk:=Own.free hrow m;have hpt:=Own.kS (c:=fun x:Int=>.int .i64 x) hrow (i:=m) (by omega) (i:Int);have hnew:∀ (j:Nat) (v:Int),j<i+1→x.k.ord[j]?=some v→(lv.set m (i:Int)).getD v.toNat 0=(j:Int):=fun j v hj LZ=>by
    obtain⟨m',rfl,hm',hmj⟩:=HK.out.lv.o2 j v LZ;rw[Int.toNat_natCast,List.getD_eq_getElem?_getD];by_cases he:m'=m
    ·subst he;rw[Le] at hmj;injection hmj with hmj
     rw[List.getElem?_set_self (by omega)];simpa using hmj
    ·rw[List.getElem?_set_ne (fun h=>he h.symm),← List.getD_eq_getElem?_getD];have hji:j≠i:=fun h=>by
      subst h;rw[hv] at LZ;injection LZ with LZ
      omega
     have:=hlv j m' (by omega) LZ
     rwa [Int.toNat_natCast] at this
   have Xg:=Lib.hid hpt;have VM:=Lib.hid hnew;have uX:=Lib.hid (hfr.set m (.int .i64 i) rfl:ah (fun b=>b=LB) w5 (wr.setCell ⟨LB,m,none⟩ (.int .i64 i)));have hwl:LB<wr.heap.size:=hbl;clear hpt hnew hfr hrow hO hlv hv hy Le hll;subst hA;go_wp2;go_roundw
   case rel=>exact⟨i+1,_,by omega,by go_num,Xg.out,VM.out,uX.out⟩
   case measure=>simp[intOf] <;> omega
  ·obtain rfl:i=x.k.n:=by omega
   have hI:¬ ((x.k.n:Nat):Int)<(x.k.n:Int):=by omega
   have MN:∀ v:Nat,v<x.k.n→lv[v]?=some (bH x.k v):=fun v hv=>by
    obtain⟨j,h1,h2,h3⟩:=HK.out.lv.dK (v:=(v:Int)) (by omega) (by omega);have h4:=hlv j v h2 h3;rw[Int.toNat_natCast,List.getD_eq_getElem?_getD] at h4;rw[List.getElem?_eq_getElem (by have:=hrow.len;omega)] at h4 ⊢;rw[h1];simpa using h4
   have Iq:=HR4.out.ag hfr (fun y hy hh=>by have:=Z5.out y.block (.inr (.inl ⟨y,hy,rfl⟩));omega);have hL4:=Rf.out.ag hfr (fun y hy hh=>by have:=Z5.out y.block (.inr (.inr ⟨y,hy,rfl⟩));omega);have yj:Same w wr:=HS.out.trans hfr (fun b hb hh=>by omega);have HR6:=Lib.hid Iq;have YF:=Lib.hid hL4;have wN:=Lib.hid yj;have AB:=Lib.hid MN;have sM:=Lib.hid hrow;have hz6:=hfr.size;clear hrow hlv hfr hO MN Iq hL4 yj HR4 Rf FZ HS HR5;go_wp2_with (fail)
   refine ai fun w7 hw7=>?_
   have hr7:gm w7 3 (some ⟨wr.heap.size,0,none⟩) x.k.n x.k.n (List.replicate x.k.n 0):=by rw[hw7];simpa [dM] using HMK.out wr
   have hs7:Same wr w7:=by rw[hw7];exact(ah.refl _ _).alloc _
   clear hw7;replace HR6:=Lib.hid (HR6.out.ag hs7 (fun _ _=>id));replace YF:=Lib.hid (YF.out.ag hs7 (fun _ _=>id));replace sM:=Lib.hid (sM.out.ag hs7 (fun _ _=>id));replace wN:=Lib.hid (wN.out.trans hs7 (fun _ _ h=>h));obtain⟨WB,hWB⟩:∃ z,wr.heap.size=z:=⟨_,rfl⟩;rw[hWB] at hr7 hz6 ⊢;have HR7:=Lib.hid hr7;have hlw:LB<WB:=by omega
   have hww:w.heap.size≤WB:=by omega
   clear hr7 hs7 hWB hz6;go_wp2_with (fail)
   go_loopw [12,102] (fun s12 VN wr=>∃ (i:Nat) (A:Option Addr) (C:Nat) (wd:List Int),i≤l.length∧VN=.int .i64 i∧s12=.slice A (eH x.k (l.take i)).length C∧Go.Tk.Own wr 37 3 Nd.cells A (eH x.k (l.take i)).length C (eH x.k (l.take i))∧bG w7.heap.size A∧
    gm wr 3 (some ⟨WB,0,none⟩) x.k.n x.k.n wd∧(∀ v:Nat,v<x.k.n→wd[v]?=some (uP (eH x.k (l.take i)) v:Int))∧ah (fun b=>b=WB) w7 wr) (fun _ VN _=>l.length-(intOf VN).toNat)
   case atStart=>exact⟨0,none,0,_,by omega,rfl,rfl,Own.nil _ _ _ _,aL _,HR7.out,(fun v hv=>by simp[hv,uP,eH]),ah.refl _ _⟩
   case round =>
    as_aux_lemma =>
    have ab9:=Lib.hid HR7.out;clear HR7;obtain⟨i,A12,C12,wd,hi,rfl,rfl,hnd,OO,hwd,hcv,hfr⟩:=hrel;have hSr:Same w wr:=wN.out.trans hfr (fun b hb hh=>by omega);have hRr:=HR6.out.ag hfr (fun y hy hh=>by have:=Z5.out y.block (.inr (.inl ⟨y,hy,rfl⟩));omega);have Tf:=YF.out.ag hfr (fun y hy hh=>by have:=Z5.out y.block (.inr (.inr ⟨y,hy,rfl⟩));omega);have Z6:=sM.out.ag hfr (fun y hy hh=>by injection hy with hy;subst hy;exact absurd hh (by show ¬ LB=WB;omega));have hnl:=El (k:=x.k) (l.take i);rw[List.length_take] at hnl;obtain⟨nd,hne⟩:∃ z,eH x.k (l.take i)=z:=⟨_,rfl⟩;by_cases hlt:i<l.length
    ·have hI:(i:Int)<(l.length:Int):=by omega
     obtain⟨r,hr⟩:∃ r,l[i]?=some r:=⟨_,List.getElem?_eq_getElem hlt⟩;have hstep:=BI (k:=x.k) (l.take i) r;have htk:l.take (i+1)=l.take i++[r]:=by rw[List.take_add_one,hr];rfl
     rw[← htk] at hstep;have hlr:=HW.out.ll r (List.mem_of_getElem? hr);have hr0:=hlr.1;have hr1:r<4294967296:=by have:=rJ hlr.2 hr0;omega
     have VO:r∉l.take i:=fun h=>by
      obtain⟨j,hj,hjr⟩:=List.mem_take_iff_getElem.1 h;have h1:=List.pairwise_iff_getElem.1 HW.out.nd j i (by omega) hlt (by omega);rw[List.getElem?_eq_getElem hlt] at hr;injection hr with hr
      exact h1 (hjr.trans hr.symm)
     obtain⟨sb,hA4,hsb,d0⟩:=Tf.dV (c:=rc) hr;unfold rc at d0;rw[hne] at hnd hcv hstep hnl ⊢;by_cases h2:r<2
     ·rw[if_neg (by omega)] at hstep;have HST:=Lib.hid hstep;have Jo:=Lib.hid hnd;have HF:=Lib.hid OO;have QK:=Lib.hid hwd;have Ul:=Lib.hid hcv;have uX:=Lib.hid hfr;clear hstep hnd OO hwd hcv hfr hRr Tf Z6 hSr hlr VO htk hr hne;subst hA4;go_wp2;go_roundw
      case rel=>exact⟨i+1,A12,C12,wd,by omega,by go_num,by rw[HST.out],by rw[HST.out];exact Jo.out,HF.out,QK.out,by rw[HST.out];exact Ul.out,uX.out⟩
      case measure=>simp[intOf] <;> omega
     ·have h2':2≤r:=by omega
      rw[if_pos h2'] at hstep;have hmem:=oV HK.out hlr h2';have hnew:=KQ HK.out (pre:=l.take i) (r:=r) (fun s hs=>HW.out.ll s (List.mem_of_mem_take hs)) hlr h2' VO;rw[hne] at hnew;obtain⟨c0',c1',_,_,_,_,Yx⟩:=HK.out.bk.eZ _ r hmem;have hcl:=xR HK.out hlr c0';have OP:=fun m h=>HK.out.ord.lo _ r m hmem h
      have Tw:=fun m h=>HK.out.ord.hi _ r m hmem h
      have Bf:∀ c,(c=(aH x.k.ls r).lo∨c=(aH x.k.ls r).hi)→iY x.k c∧(0≤(aH x.k.ls c).v→(aH x.k.ls c).v<x.k.n∧bH x.k (aH x.k.ls r).v<bH x.k (aH x.k.ls c).v):=fun c hc=>by
       have hlc:iY x.k c:=by
        rcases hc with h | h
        ·rw[h];exact hcl.1
        ·rw[h];exact hcl.2
       refine⟨hlc,fun hv=>?_⟩;have hc2:2≤c:=by
        rcases(HK.out.live hlc.1).1 hlc.2 with h | h | ⟨n,hn⟩
        ·rw[HK.out.const (.inl h)] at hv;omega
        ·rw[HK.out.const (.inr h)] at hv;omega
        ·exact(HK.out.mem' hn).1
       have hcm:=oV HK.out hlc hc2;refine⟨(HK.out.bk.eZ _ c hcm).2.1,?_⟩;rcases hc with rfl | rfl
       ·exact OP _ hcm
       ·exact Tw _ hcm
      have hE:fO x.k.ls r=0:=by unfold fO;rw[if_pos hlr.2]
      have hkn:=vI (PL.out _ hSr) r hr0 hr1;rw[hE] at hkn;have hc1:(aH x.k.ls r).lo<4294967296:=by have:=rJ hcl.1.2 hcl.1.1;omega
      have hc2:(aH x.k.ls r).hi<4294967296:=by have:=rJ hcl.2.2 hcl.2.1;omega
      obtain⟨⟨v,lo,hi'⟩,hn⟩:∃ z,aH x.k.ls r=z:=⟨_,rfl⟩;rw[hn] at hkn hstep hnew Bf c0' c1' Yx hc1 hc2;unfold Nd.val at hkn;simp only at Bf c0' c1' Yx hc1 hc2;obtain⟨m,rfl⟩:=Int.eq_ofNat_of_zero_le c0';have hm:m<x.k.n:=by omega
      have yF:=Lib.hid hkn;have HST:=Lib.hid hstep;have VM:=Lib.hid hnew;have Z7:=Lib.hid Bf;have Jo:=Lib.hid hnd;have HF:=Lib.hid OO;have QK:=Lib.hid hwd;have Ul:=Lib.hid hcv;have uX:=Lib.hid hfr;have FP:=Lib.hid hSr;have WE:=Lib.hid Z6;clear hkn hstep hnew Bf hnd OO hwd hcv hfr hRr Tf Z6 hSr hlr VO htk hr hne hcl OP Tw hmem hE hn;subst hA4;obtain⟨hxl,c0⟩:=HC.out _ FP.out;go_wp2_with (fail)
      refine yF.out.mono ?_;rintro e w9 ⟨rfl,mP⟩;have CW:=Lib.hid mP;clear mP hxl c0 d0 hsb yF;go_upto_region 22 with fail
      refine ai fun LF VP=>?_
      have hT:=av.new w9 37 #[.int .i64 m,.int .u32 lo,.int .u32 hi'];have jT:Same w9 LF:=by rw[VP];exact(ah.refl _ _).alloc _
      rw[← VP] at hT;clear VP;obtain⟨T,hTe⟩:∃ z,w9.heap.size=z:=⟨_,rfl⟩;rw[hTe] at hT ⊢;have EA:Hid (wr.heap.size≤T):=Lib.hid (by rw[← hTe];exact CW.out.size);have HT:=Lib.hid hT;have Z8:=Lib.hid (CW.out.trans jT (fun _ _ h=>h));clear hT jT hTe CW;have t0:=HT.out.cell 0;have t1:=HT.out.cell 1;have t2:=HT.out.cell 2;have tl:=HT.out.lt;simp at t0 t1 t2;have hv0:¬ (m:Int)<0:=by omega
      have hmn:¬ (m:Int)≥(x.k.n:Int):=by omega
      have hlh:¬ lo=hi':=Yx;go_wp2_with (fail)
      refine ai fun Z9 VQ=>?_
      have BJ:Same LF Z9:=by rw[VQ];exact(ah.refl _ _).alloc _
      have hCB:=Go.Tk.Own.lit LF 28 (fun x=>[rc x]) (fun _=>rfl) [lo,hi'] (by simp[maxLen]) (cs:=#[.int .u32 lo,.int .u32 hi']) (by simp[rc]);have VR:Row1 Z9 28 rc (some ⟨LF.heap.size,0,none⟩) 2 2 [lo,hi']:=by rw[VQ];exact hCB
      clear VQ hCB;replace HT:=Lib.hid (HT.out.ag BJ id);have VS:=Lib.hid (Z8.out.trans BJ (fun _ _ h=>h));obtain⟨CB,UA⟩:∃ z,LF.heap.size=z:=⟨_,rfl⟩;rw[UA] at VR ⊢;have NG:=Lib.hid VR;clear BJ VR UA t0 t1 t2 tl Z8;have zJ:=Lib.hid (FP.out.trans VS.out (fun _ _ h=>h));go_loopw [139] (fun s wr2=>∃ j:Nat,j≤2∧s=.int .i64 j∧Same Z9 wr2) (fun s _=>2-(intOf s).toNat)
      case atStart=>exact⟨0,by omega,rfl,ah.refl _ _⟩
      case round =>
       as_aux_lemma =>
       obtain⟨j,hj,rfl,hs3⟩:=hrel;have dX:=Lib.hid hs3;clear hs3;by_cases hj2:j<2
       ·have hJ:(j:Int)<2:=by omega
        obtain⟨c,hc⟩:∃ c,[lo,hi'][j]?=some c:=⟨_,List.getElem?_eq_getElem hj2⟩;have hcc:c=lo∨c=hi':=by
         have:=List.mem_of_getElem? hc
         simpa using this
        obtain⟨hlc,hcv⟩:=Z7.out c hcc;obtain⟨cb,hA,hcl,d0⟩:=(NG.out.ag dX.out (fun _ _=>id)).dV (c:=rc) hc;injection hA with hA
        injection hA with hA
        subst hA;unfold rc at d0;have hr3:c<4294967296:=by have:=rJ hlc.2 hlc.1;omega
        have hSr:=zJ.out.trans dX.out (fun _ _ h=>h);have hkn:=vI (PL.out _ hSr) c hlc.1 hr3;have hE:fO x.k.ls c=0:=by unfold fO;rw[if_pos hlc.2]
        rw[hE] at hkn;obtain⟨⟨v2,lo2,hi2⟩,hn⟩:∃ z,aH x.k.ls c=z:=⟨_,rfl⟩;rw[hn] at hkn hcv;unfold Nd.val at hkn;simp only at hcv;have yF:=Lib.hid hkn;obtain⟨hxl,c0⟩:=HC.out _ hSr;have acd:=Lib.hid hcv;clear hkn hn hE hSr hc hcc hlc hcv;go_wp2_with (fail)
        refine yF.out.mono ?_;rintro e w12 ⟨rfl,Di⟩;have J4:=Lib.hid (dX.out.trans Di (fun _ _ h=>h));clear Di hxl c0 d0 hcl yF;go_upto_region 28 with fail
        refine ai fun w13 Gn=>?_
        have FW:=av.new w12 37 #[.int .i64 v2,.int .u32 lo2,.int .u32 hi2];have OQ:Same w12 w13:=by rw[Gn];exact(ah.refl _ _).alloc _
        rw[← Gn] at FW;clear Gn;have uF:=J4.out.trans OQ (fun _ _ h=>h);have hT1:=HT.out.ag uF id;have t0:=hT1.cell 0;have tl:=hT1.lt;have u0:=FW.cell 0;have ul:=FW.lt;simp at t0 u0;have hV:=WE.out.ag (VS.out.trans uF (fun _ _ h=>h)) (fun _ _=>id);have RO:=Lib.hid uF;obtain⟨lb1,hA1,hl1,e1⟩:=hV.dV (c:=fun x:Int=>.int .i64 x) (AB.out m hm);injection hA1 with hA1
        injection hA1 with hA1
        subst hA1;clear OQ uF hT1 FW;have hM:(m:Int)<(x.k.n:Int):=by omega
        by_cases hv2:0≤v2
        ·obtain⟨g1,g2⟩:=acd.out hv2;obtain⟨m2,rfl⟩:=Int.eq_ofNat_of_zero_le hv2;have hm2:m2<x.k.n:=by omega
         obtain⟨lb2,hA2,ace,e2⟩:=hV.dV (c:=fun x:Int=>.int .i64 x) (AB.out m2 hm2);injection hA2 with hA2
         injection hA2 with hA2
         subst hA2;have hM2:¬ (m2:Int)≥(x.k.n:Int):=by omega
         have jJ:(m2:Int)<(x.k.n:Int):=by omega
         obtain⟨y1,hy1⟩:∃ z,bH x.k (m:Int)=z:=⟨_,rfl⟩;obtain⟨y2,hy2⟩:∃ z,bH x.k (m2:Int)=z:=⟨_,rfl⟩;rw[hy1] at e1 g2;rw[hy2] at e2 g2;have PE:¬ y2≤y1:=by omega
         clear hV hy1 hy2;refine aG (fun _=>False) [([0,1,2,3,4,5,6,7,8,9,10,11,12,13,14,15,16,17,18,19,20],21)] (by kernel_rfl) (by kernel_rfl) ?_;rw[aN];simp only[pick,List.map_cons,List.map_nil,List.getD_cons_zero,List.getD_cons_succ];repeat go_big_quiet_step (fail)
         rw[ax];go_wp2;go_roundw
         case rel=>exact⟨j+1,by omega,by go_num,RO.out.trans ((ah.refl _ _).drew) (fun _ _ h=>h)⟩
         case measure=>simp[intOf] <;> omega
        ·clear hV;refine aG (fun _=>False) [([0,1,2,3,4,5,6,7,8,9,10,11,12,13,14,15,16,17,18,19,20],21)] (by kernel_rfl) (by kernel_rfl) ?_;rw[aN];simp only[pick,List.map_cons,List.map_nil,List.getD_cons_zero,List.getD_cons_succ];repeat go_big_quiet_step (fail)
         rw[ax];go_wp2;go_roundw
         case rel=>exact⟨j+1,by omega,by go_num,RO.out.trans ((ah.refl _ _).drew) (fun _ _ h=>h)⟩
         case measure=>simp[intOf] <;> omega
       ·obtain rfl:j=2:=by omega
        clear hj2 NG Z7 hj;go_wp2_with (fail)
        go_loopw [177] (fun s wr3=>∃ j:Nat,j≤nd.length∧s=.int .i64 j∧Same Z9 wr3) (fun s _=>nd.length-(intOf s).toNat)
        case atStart=>exact⟨0,by omega,rfl,dX.out⟩
        case round =>
         as_aux_lemma =>
         clear dX;obtain⟨j,hj,rfl,hs3⟩:=hrel;have dX:=Lib.hid hs3;have aaa:=Lib.hid (VS.out.trans hs3 (fun _ _ h=>h));clear hs3;by_cases hjl:j<nd.length
         ·have hJ:(j:Int)<(nd.length:Int):=by omega
          obtain⟨⟨v2,lo2,hi2⟩,hm2⟩:∃ z,nd[j]?=some z:=⟨_,List.getElem?_eq_getElem hjl⟩;have hne2:=VM.out _ (List.mem_of_getElem? hm2);have heq:∀ w,(binOp .eql 37 (.agg #[.int .i64 m,.int .u32 lo,.int .u32 hi']) (.agg #[.int .i64 v2,.int .u32 lo2,.int .u32 hi2])).run Tryz.prog w=.ok (.bool false) w:=fun w=>by
           have h:=TP ⟨m,lo,hi'⟩ ⟨v2,lo2,hi2⟩ w;rw[decide_eq_false (fun h=>hne2 h.symm)] at h;exact h
          obtain⟨nb,hA,hnb,hnc⟩:=(Jo.out.ag aaa.out (fun _ _=>id)).get xY hm2;have d0:wr.cell? ⟨nb,j*3,none⟩=some (.int .i64 v2):=hnc 0 (by omega);have d1:wr.cell? ⟨nb,j*3+1,none⟩=some (.int .u32 lo2):=hnc 1 (by omega);have d2:wr.cell? ⟨nb,j*3+2,none⟩=some (.int .u32 hi2):=hnc 2 (by omega);clear hne2 hm2 hnc;subst hA;go_upto_region 34 with fail
          refine ai fun w13 Gn=>?_
          have FW:=av.new wr 37 #[.int .i64 v2,.int .u32 lo2,.int .u32 hi2];have OQ:Same wr w13:=by rw[Gn];exact(ah.refl _ _).alloc _
          rw[← Gn] at FW;clear Gn d0 d1 d2 hnb;have uF:=dX.out.trans OQ (fun _ _ h=>h);have hT1:=HT.out.ag uF id;have t0:=hT1.cell 0;have t1:=hT1.cell 1;have t2:=hT1.cell 2;have tl:=hT1.lt;have u0:=FW.cell 0;have u1:=FW.cell 1;have u2:=FW.cell 2;have ul:=FW.lt;simp at t0 t1 t2 u0 u1 u2;have RO:=Lib.hid uF;clear OQ uF hT1 FW;go_wp2;go_roundw
          case rel=>exact⟨j+1,by omega,by go_num,RO.out⟩
          case measure=>simp[intOf] <;> omega
         ·obtain rfl:j=nd.length:=by omega
          have hJ:¬ ((nd.length:Nat):Int)<(nd.length:Int):=by omega
          have hT1:=HT.out.ag dX.out id;have t0:=hT1.cell 0;have t1:=hT1.cell 1;have t2:=hT1.cell 2;have tl:=hT1.lt;simp at t0 t1 t2;clear hT1 hjl hj;go_upto_region 37 with fail
          refine aR 2 ?_;simp only[List.take_succ_cons,List.take_zero,List.drop_succ_cons,List.drop_zero];repeat (any_goals (first | go_big_quiet_step (fail) | quiet_step (fail)))
          refine wpQuiet_nil ?_;refine wpList_plain rfl fun K hK=>?_
          go_simp;refine hK _ _ ?_;clear hK K;refine aK fun wa dJ=>?_
          have hL:=av.new wr 37 #[.int .i64 m,.int .u32 lo,.int .u32 hi'];have hsa:Same wr wa:=by rw[dJ];exact(ah.refl _ _).alloc _
          rw[← dJ] at hL;clear dJ;have OT:=aaa.out.trans hsa (fun _ _ h=>h);have hrow:=Jo.out.ag OT (fun _ _=>id);refine Own.aI (f:=Nd.cells) rfl (.tmp 185) (.tmp 187) _ rfl Tryz.underlying121 Gl rfl (by omega) rfl hrow xY ⟨m,lo,hi'⟩ wr.heap.size 1 rfl (by unfold Nd.cells;exact hL) (by simp[Value.oneCell',Nd.cells]) (by unfold maxLen;omega) (by omega) ?_;intro gg cap wb hOb hgb hat;have hWa:=QK.out.ag OT (fun _ _=>id);have hWb:=hWa.gW hgb (fun b hb hA=>hrow.aM hWa (by decide) b (af.1 hb) hA);have Pp:=(HT.out.ag dX.out id).ag hsa id;have hgrow:∀ g,(Value.slice A12 nd.length C12).ownBlock=some g→w7.heap.size≤g:=fun g hg=>HF.out g (af.1 hg)
          have rT:ah (fun b=>b=WB) w7 wb:=(uX.out.trans OT (fun _ _ h=>h.elim)).grown hgb (fun g hg=>.inr (hgrow g hg));have hnew:bG w7.heap.size (some ⟨gg,0,none⟩):=fun b hb=>by
           obtain⟨y,hy,rfl⟩:=hb;injection hy with hy
           subst hy;rcases hat with h | h
           ·exact hgrow gg h
           ·have h1:=uX.out.size;have h2:=OT.size;show w7.heap.size≤gg;omega
          have hM:(m:Int)<(x.k.n:Int):=by omega
          have hcnt:=Ul.out m hm;have hcb:uP nd m≤nd.length:=RN _ _;obtain⟨cn,hcn⟩:∃ z,uP nd (m:Int)=z:=⟨_,rfl⟩;rw[hcn] at hcnt hcb;obtain⟨wb',hA',hwl,d3⟩:=hWb.dV (c:=fun x:Int=>.int .i64 x) hcnt;injection hA' with hA'
          injection hA' with hA'
          subst hA';have fk:=Own.free hWb m;have aab:=hWb.len;have hpt:=Own.kS (c:=fun x:Int=>.int .i64 x) hWb (i:=m) (by omega) ((cn:Int)+1);have aac:∀ y,(some ⟨gg,0,none⟩:Option Addr)=some y→y.block≠WB:=fun y hy h=>by
           have h1:=hnew y.block ⟨y,hy,rfl⟩;have h2:=cu ab9.out (b:=WB) ⟨_,rfl,rfl⟩;omega
          have hOc:=Own.far (p:=⟨WB,m,none⟩) hOb aac (.int .i64 ((cn:Int)+1));have aad:∀ v:Nat,v<x.k.n→(wd.set m ((cn:Int)+1))[v]?=some (uP (nd++[⟨m,lo,hi'⟩]) v:Int):=fun v hv=>by
           rw[KP];by_cases he:m=v
           ·subst he;rw[if_pos rfl,List.getElem?_set_self (by omega),hcn];rfl
           ·rw[if_neg (show ¬ ((m:Nat):Int)=v by omega),List.getElem?_set_ne he];exact Ul.out v hv
          have Qj:=Pp.grown hgb (fun hx=>by
           obtain⟨y,hy,hyb⟩:=af.1 hx.symm;have h1:=HF.out y.block ⟨y,hy,rfl⟩;have h2:=cu Jo.out (b:=y.block) ⟨y,hy,rfl⟩;have h3:=EA.out
           omega)
          have s0:=Qj.cell 0;have sl:=Qj.lt;simp at s0;have Xg:=Lib.hid hpt;have HOC:=Lib.hid hOc;have acf:=Lib.hid aad;have Wd:=Lib.hid hnew;have GY:=Lib.hid (rT.set m (.int .i64 ((cn:Int)+1)) rfl:ah (fun b=>b=WB) w7 (wb.setCell ⟨WB,m,none⟩ (.int .i64 ((cn:Int)+1))));clear hOb hgb hat hWa hWb Pp hgrow rT hnew hcnt hcn hpt aac hOc aad Qj hrow hL hsa OT t0 t1 t2 tl aab;go_wp2;go_roundw
          case rel=>exact⟨i+1,some ⟨gg,0,none⟩,cap,_,by omega,by go_num,by rw[HST.out,List.length_append];rfl,by rw[HST.out,List.length_append];exact HOC.out,Wd.out,Xg.out,by rw[HST.out];exact acf.out,GY.out⟩
          case measure=>simp[intOf] <;> omega
    ·obtain rfl:i=l.length:=by omega
     have hI:¬ ((l.length:Nat):Int)<(l.length:Int):=by omega
     have hcw:∀ v:Nat,v<x.k.n→wd[v]?=some (Py x.k v:Int):=fun v hv=>by
      have h:=hcv v hv;rw[List.take_length,OL HK.out HW.out v hv] at h;exact h
     have aae:∀ v:Nat,v<x.k.n→lv[v]?=some (Bc x.k v):=fun v hv=>by
      rw[AB.out v hv];unfold Bc;rw[if_pos ⟨by omega,by omega⟩]
     have hle:∀ v:Nat,v<x.k.n→uI x.k v=0:=fun v hv=>by
      unfold uI;rw[if_pos ⟨by omega,by omega⟩]
     obtain⟨w20,rfl⟩:∃ z,z=wr:=⟨_,rfl⟩;have HCW:=Lib.hid hcw;have HLW:=Lib.hid aae;have Ew:=Lib.hid hle;have QK:=Lib.hid hwd;have WE:=Lib.hid Z6;have HRR:=Lib.hid hRr;have FP:=Lib.hid hSr;clear hcw aae hle hwd Z6 hRr hSr hnd OO hcv hfr Tf hnl hne hlt;go_wp2_with (fail)
     go_loopw [23] (fun s wr=>∃ v:Nat,v≤x.k.n∧s=.int .i64 v∧w20=wr) (fun s _=>x.k.n-(intOf s).toNat)
     case atStart=>exact⟨0,by omega,rfl,rfl⟩
     case round =>
      obtain⟨v,hv,rfl,rfl⟩:=hrel;obtain⟨hxl,c0⟩:=HC.out _ FP.out;by_cases hvl:v<x.k.n
      ·have hJ:(v:Int)<(x.k.n:Int):=by omega
       have h1:=Oo (PL.out _ FP.out) v;have h2:=Oq (PL.out _ FP.out) v;have g1:=HCW.out v hvl;have g2:=HLW.out v hvl;rw[Ew.out v hvl] at h1 h2;obtain⟨y1,hy1⟩:∃ z,Py x.k (v:Int)=z:=⟨_,rfl⟩;obtain⟨y2,hy2⟩:∃ z,Bc x.k (v:Int)=z:=⟨_,rfl⟩;rw[hy1] at h1 g1;rw[hy2] at h2 g2;obtain⟨b1,hA1,hl1,e1⟩:=QK.out.dV (c:=fun x:Int=>.int .i64 x) g1;injection hA1 with hA1
       injection hA1 with hA1
       subst hA1;obtain⟨b2,hA2,ace,e2⟩:=WE.out.dV (c:=fun x:Int=>.int .i64 x) g2;injection hA2 with hA2
       injection hA2 with hA2
       subst hA2;have H1:=Lib.hid h1;have H2:=Lib.hid h2;clear h1 h2 g1 g2 hy1 hy2;go_wp2_with (fail)
       refine H1.out.mono ?_;rintro e wy ⟨rfl,rfl⟩;go_wp2_with (fail)
       refine H2.out.mono ?_;rintro e wy ⟨rfl,rfl⟩;go_wp2;go_roundw
       case rel=>exact⟨v+1,by omega,by go_num,trivial⟩
       case measure=>simp[intOf] <;> omega
      ·obtain rfl:v=x.k.n:=by omega
       have hJ:¬ ((x.k.n:Nat):Int)<(x.k.n:Int):=by omega
       have hho:=ZE.out _ FP.out A3 C3 HRR.out;have RP:=Lib.hid hho;clear hho;go_wp2_with (fail)
       refine RP.out.mono ?_;rintro e wy ⟨rfl,rfl⟩;go_wp2;go_ret;exact⟨rfl,FP.out⟩
end
section
variable {w w':World} {B C:Nat→Prop} {xb m:Nat} {x:RS} {q:RA} {pl:List Nat}
theorem RW.turned (h:RW B w xb x q) {S:Nat→Prop} (hf:ah S w w') (hS:∀ b,S b→B b) (hC:∀ b,C b→B b∨w.heap.size≤b):RW C w' xb x q:=by
 obtain⟨a,k1,k2⟩:=h.k.ex;refine⟨h.blk.ag hf (fun hs=>h.base _ (.inl rfl) (hS _ hs)),⟨⟨a,k1.ag hf (fun b hb hs=>k2 b hb (.inl (hS b hs))),fun b hb hn=>?_⟩,h.k.ki⟩,h.refs.ag hf (fun y hy hs=>h.base _ (.inr (.inl ⟨y,hy,rfl⟩)) (hS _ hs)),h.held.ag hf (fun y hy hs=>h.base _ (.inr (.inr ⟨y,hy,rfl⟩)) (hS _ hs)),fun b hb hn=>?_⟩
 ·rcases hn with hn | hn
  ·rcases hC b hn with h1 | h1
   ·exact k2 b hb (.inl h1)
   ·have:=k1.lt hb
    omega
  ·exact k2 b hb (.inr hn)
 ·rcases hC b hn with h1 | h1
  ·exact h.base b hb h1
  ·have:=h.WC b hb
   omega
theorem fJ (A A':Option Addr) (C C':Nat) (V:List Bool) (w:World) (h:Sl w 1 zZ A V.length V) (h2:Sl w 1 zZ A' V.length V) (hb:V.length≤1000000000000000) :
  Calls Tryz.prog 44 #[.slice A V.length C,.slice A' V.length C'] w fun e w'=>e=.returned (.bool true)∧Same w w':=by
 have H:=Lib.hid h;have H2:=Lib.hid h2;clear h h2;go_enter Tryz.func44,Tryz.ntmps44;have hne:((V.length:Int) != (V.length:Int))=false:=by simp
 go_wp2_with (fail)
 go_loopw [13] (fun i wr=>∃ k:Nat,k≤V.length∧i=.int .i64 k∧Same w wr) (fun i _=>V.length-(intOf i).toNat)
 case atStart=>exact⟨0,by omega,rfl,ah.refl _ _⟩
 case round =>
  obtain⟨k,hk,rfl,hs⟩:=hrel;by_cases hlt:k<V.length
  ·obtain⟨v,hv⟩:∃ v,V[k]?=some v:=⟨_,List.getElem?_eq_getElem hlt⟩;obtain⟨b,off,rfl,hbl,hc⟩:=(H.out.same hs).get k v hv;obtain⟨b2,off2,rfl,hb2,hc2⟩:=(H2.out.same hs).get k v hv;have d0:wr.cell? ⟨b,off+k,none⟩=some (.bool v):=by
    have:=hc 0 (by omega)
    simpa using this
   have d1:wr.cell? ⟨b2,off2+k,none⟩=some (.bool v):=by
    have:=hc2 0 (by omega)
    simpa using this
   have hi0:(0:Int)≤k:=by omega
   have hi1:(k:Int)<V.length:=by omega
   have HS:=Lib.hid hs;have hvv:(v != v)=false:=by simp
   clear hc hc2 hv hs;go_wp2;refine dZ (by kernel_rfl) (by kernel_rfl) ?_;repeat (any_goals (first | go_big_quiet_step (fail) | quiet_step (fail)))
   refine wpQuiet_nil ?_;rintro _ ⟨q,rfl⟩;have HS2:=Lib.hid (HS.out.trans (ay _ q) (fun _ _ h=>h));go_wp2;go_roundw
   case rel=>exact⟨k+1,by omega,by go_num,HS2.out⟩
   case measure=>simp[intOf] <;> omega
  ·obtain rfl:k=V.length:=by omega
   have hi1:¬ ((V.length:Nat):Int)<V.length:=by omega
   go_wp2;go_ret;exact⟨rfl,hs⟩
end
set_option maxRecDepth 100000
theorem OU:KI st0.k:=M4 (n:=2) (c:=5) (by decide) (by decide) (by decide) (by decide)
theorem aaf:st1.k=(aV st0.k (rH st0 1 0 1)).2.2:=by
 unfold st1 countP mK;split <;> rfl
theorem aag:st2.k=(aV st1.k (rH st1 0 0 2)).2.2:=by
 unfold st2 countP mK;split <;> rfl
theorem OV:KI st1.k:=by
 rw[aaf];exact Bd OU (by decide +kernel) (by decide +kernel)
theorem OW:KI st2.k:=by
 rw[aag];exact Bd OV (by decide +kernel) (by decide +kernel)
theorem Gp:KI uO.k:=H6 OW (by decide +kernel)
structure PC (p:PS):Prop where
 ord:eT p.m
 hc:tH p.m
 hh:p.m.held.length<1500000
 hd:p.dead.length=p.ts.length
 hr:p.refs.length=p.ts.length
 hll:p.live.length≤2097152000000
 hrg:∀ x∈p.refs,0≤x∧x<4294967296
 htl:p.ts.length≤4000000000000
 hon:p.m.ord.length=p.m.n
 htm:p.m.tr.length<10000000000000
theorem nZ:PC st0:=⟨by unfold eT;decide +kernel,by unfold tH;decide +kernel,by decide +kernel,by decide +kernel,by decide +kernel,by decide +kernel,by decide +kernel,by decide +kernel,by decide +kernel,by decide +kernel⟩
theorem og:PC st1:=⟨by unfold eT;decide +kernel,by unfold tH;decide +kernel,by decide +kernel,by decide +kernel,by decide +kernel,by decide +kernel,by decide +kernel,by decide +kernel,by decide +kernel,by decide +kernel⟩
theorem xZ:PC st2:=⟨by unfold eT;decide +kernel,by unfold tH;decide +kernel,by decide +kernel,by decide +kernel,by decide +kernel,by decide +kernel,by decide +kernel,by decide +kernel,by decide +kernel,by decide +kernel⟩
theorem Gq:PC uO:=⟨by unfold eT;decide +kernel,by unfold tH;decide +kernel,by decide +kernel,by decide +kernel,by decide +kernel,by decide +kernel,by decide +kernel,by decide +kernel,by decide +kernel,by decide +kernel⟩
def KT:List (Int×Int×Int×Int):=[(1,1,0,1),(1,0,0,2),(3,2,0,0),(4,0,0,0)]
def VT (o:Int×Int×Int×Int):List Value:=[.int .i64 o.1,.int .i64 o.2.1,.int .i64 o.2.2.1,.int .i64 o.2.2.2]
theorem IM (o:Int×Int×Int×Int):(VT o).length=4:=rfl
def OX:Nat→PS
 | 0=>xM 2 5
 | 1=>mK st0 1 0 1
 | 2=>mK st1 0 0 2
 | 3=>D9 st2 2
 | _=>iD uO 0
theorem RQ (k:Nat):eT (OX k).m:=by
 match k with
 | 0=>unfold eT;decide +kernel
 | 1=>unfold eT;decide +kernel
 | 2=>unfold eT;decide +kernel
 | 3=>unfold eT;decide +kernel
 | _+4=>unfold eT;show ∀ v∈(iD uO 0).m.ord,0≤v∧v<(iD uO 0).m.n;decide +kernel
section
variable {w w':World} {B:Nat→Prop} {pp:Nat} {q:PA}
abbrev x8 (B:Nat→Prop) (w:World) (pp:Nat) (p':PS) (e:Ending) (w':World):Prop:=e=.returned (.bool true)∧(∃ q',PW B w' pp p' q')∧Up B w w'
theorem step0 (hP:PW B w pp st0 q) (hB:∀ b,B b→b<w.heap.size) :
  Calls Tryz.prog 31 #[.pointer (some ⟨pp,0,none⟩),.agg #[.int .i64 1,.int .i64 1,.int .i64 0,.int .i64 1]] w (x8 B w pp (mK st0 1 0 1)):=by
 refine(zN pp 1 0 1 (fun w' _ w''=>(∃ q',PW B w'' pp (mK st0 1 0 1) q')∧Up B w' w'') (fun w' hs=>?_)).mono ?_
 ·exact D7 (hP.same hs) (fun b hb=>Nat.lt_of_lt_of_le (hB b hb) hs.size) OU nZ.ord nZ.hc nZ.hh nZ.hd nZ.hr nZ.hll nZ.hrg nZ.htl 1 1 0 1 N9.1 N9.2 Vs (fun h=>absurd F6.2.2 h) F6.1 F6.2.1
 ·rintro e w'' ⟨rfl,w',hs,hq,hu⟩;exact⟨rfl,hq,(Up.bg hs).trans hu⟩
theorem step1 (hP:PW B w pp st1 q) (hB:∀ b,B b→b<w.heap.size) :
  Calls Tryz.prog 31 #[.pointer (some ⟨pp,0,none⟩),.agg #[.int .i64 1,.int .i64 0,.int .i64 0,.int .i64 2]] w (x8 B w pp (mK st1 0 0 2)):=by
 refine(zN pp 0 0 2 (fun w' _ w''=>(∃ q',PW B w'' pp (mK st1 0 0 2) q')∧Up B w' w'') (fun w' hs=>?_)).mono ?_
 ·exact D7 (hP.same hs) (fun b hb=>Nat.lt_of_lt_of_le (hB b hb) hs.size) OV og.ord og.hc og.hh og.hd og.hr og.hll og.hrg og.htl 1 0 0 2 Oa.1 Oa.2 Vt (fun h=>absurd F7.2.2 h) F7.1 F7.2.1
 ·rintro e w'' ⟨rfl,w',hs,hq,hu⟩;exact⟨rfl,hq,(Up.bg hs).trans hu⟩
theorem step2 (hP:PW B w pp st2 q) (hB:∀ b,B b→b<w.heap.size) :
  Calls Tryz.prog 31 #[.pointer (some ⟨pp,0,none⟩),.agg #[.int .i64 3,.int .i64 2,.int .i64 0,.int .i64 0]] w (x8 B w pp (D9 st2 2)) :=
 Ki hP hB OW.bk xZ.hc xZ.hd xZ.hr xZ.hll xZ.hrg 2 0 0 Vu Vv Ob.1 Ob.2
theorem aah (hP:PW B w pp uO q) (hB:∀ b,B b→b<w.heap.size) :
  Calls Tryz.prog 31 #[.pointer (some ⟨pp,0,none⟩),.agg #[.int .i64 4,.int .i64 0,.int .i64 0,.int .i64 0]] w (x8 B w pp (iD uO 0)):=by
 refine Kh hP hB 0 0 0 (by decide +kernel) (fun _ h1=>?_) (by decide +kernel) Gq.ord Gq.hon Gq.htm Vw Oc.1 Oc.2;obtain⟨x,y,h⟩:=zF (l:=(0:Int).toNat) Gp (by decide +kernel);exact⟨x,y,AV h Gp⟩
theorem OY (k:Nat) (o:Int×Int×Int×Int) (ho:KT[k]?=some o) (hP:PW B w pp (countP (OX k)) q) (hB:∀ b,B b→b<w.heap.size) :
  Calls Tryz.prog 31 #[.pointer (some ⟨pp,0,none⟩),.agg #[.int .i64 o.1,.int .i64 o.2.1,.int .i64 o.2.2.1,.int .i64 o.2.2.2]] w (x8 B w pp (OX (k+1))):=by
 match k with
 | 0=>injection ho with ho;subst ho;exact step0 hP hB
 | 1=>injection ho with ho;subst ho;exact step1 hP hB
 | 2=>injection ho with ho;subst ho;exact step2 hP hB
 | 3=>injection ho with ho;subst ho;exact aah hP hB
 | _+4=>cases ho
end
theorem KU:Oe (iD uO 0)=true:=by decide +kernel
structure Tx (m:Nat) (x x1:RS) (dn:List Int):Prop where
 rf:x1.refs=x.refs
 hd:x1.held=x.held
 kq:pQ x.k x1.k
 tu:zU x1.k
 tr:x1.k.tr=x.k.tr++dn
 od:x1.k.ord=Gi x.k.ord dn
 xi:XI (m+60) x1
theorem XI.le {m n:Nat} {x:RS} (h:XI m x) (hm:m≤n):XI n x:=⟨h.hl,h.rl,h.rg,fun c hc=>by have:=h.cb c hc;omega,h.hh,by have:=h.tr;omega,h.tk⟩
section
variable {w w':World} {B C:Nat→Prop} {xb m:Nat} {x x1:RS} {q:RA} {pl:List Nat} {dn:List Int}
theorem KV (X:XI m x) (T:zU x.k):Tx m x x []:=⟨rfl,rfl,pQ.refl _,T,by rw[List.append_nil],rfl,X.le (by omega)⟩
theorem XI.aai (X:XI m x) {k':KS} (hk:pQ x.k k') (ht:k'.tr.length≤m) (hto:yS k'):XI m { x with k:=k' } :=
 ⟨X.hl,X.rl,X.rg,X.cb,fun r hr=>by show hsum x.refs x.held r x.refs.length=k'.hs.getD r.toNat 0;rw[hk.hs];exact X.hh r hr,ht,hto⟩
theorem OZ (K1:KI x1.k) (h:Tx m x x1 dn) (hm:x.k.tr.length≤m) (hd:dn.length<60) {l:Int} (hE:(bL x1.k l).1=0):Tx m x { x1 with k:=(bL x1.k l).2 } (dn++[l]):=by
 obtain⟨d1,d2,d3,_⟩:=tQ K1 h.tu l;obtain⟨e1,e2,e3⟩:=d3 hE;have ht:(bL x1.k l).2.tr=x.k.tr++(dn++[l]):=by rw[e3,h.tr,List.append_assoc]
 refine⟨h.rf,h.hd,h.kq.trans d1,d2,ht,by rw[z8,← h.od];exact e2,h.xi.aai d1 (by rw[ht];simp <;> omega) (fun y hy=>?_)⟩;rw[e3] at hy;rw[d1.n];rcases List.mem_append.1 hy with hy | hy
 ·exact h.xi.tk y hy
 ·simp at hy;subst hy;omega
theorem O0 (K1:KI x1.k) (h:Tx m x x1 dn) {l:Int} (hE:(bL x1.k l).1≠0):(bL x1.k l).2=x1.k:=(tQ K1 h.tu l).2.2.2 hE
theorem O1 (K:KI x.k) (K1:KI x1.k) {l:Int} (h:Tx m x x1 (dn++[l])):(bO x1.k).1=l∧(bO x1.k).2.1=0∧Tx m x { x1 with k:=(bO x1.k).2.2 } dn:=by
 obtain⟨d1,d2,_,d4⟩:=zV K1 h.tu h.xi.tk;obtain⟨e1,e2,e3,e4⟩:=d4 (x.k.tr++dn) l (by rw[h.tr,List.append_assoc]);have hl:=h.xi.tk l (by rw[h.tr];simp);have ho:(Gi x.k.ord dn).length=x.k.ord.length:=by
  have:∀ (ls p:List Int),(Gi p ls).length=p.length:=by
   intro ls
   induction ls with
   | nil=>intro p;rfl
   | cons a ls ih=>intro p;show(Gi (swp p a.toNat) ls).length=_;rw[ih,eY]
  exact this _ _
 refine⟨e1,e2,h.rf,h.hd,h.kq.trans d1,d2,e4,?_,h.xi.aai d1 ?_ (fun y hy=>?_)⟩
 ·show(bO x1.k).2.2.ord=_;rw[e3,h.od,z8];exact Ei (by rw[ho,K.lv.ol];have:=h.kq.n;omega)
 ·have:=h.xi.tr
  rw[h.tr] at this;rw[e4];simp at this ⊢;omega
 ·rw[e4] at hy;rw[d1.n];exact h.xi.tk y (by rw[h.tr];simp at hy ⊢;exact hy.elim .inl (fun h=>.inr (.inl h)))
theorem RU:(Tryz.prog.info? 3).map (fun i=>(i.zero,i.size,i.bytes))=some (some (.int .i64 0),1,8):=by kernel_rfl
theorem KX (hX:RW B w xb x q) (hB:∀ b,B b→b<w.heap.size) (X:XI m x) (T:zU x.k) (hm:m≤100000000000) (As:Option Addr) (Cs:Nat) (ops:List (Int×Int×Int×Int)) (hs:∀ w',Up B w w'→Sl w' 4 VT As ops.length ops) (hol:ops.length≤100000000000)
  (Ap:Option Addr) (Cp:Nat) (hp:∀ w',Up B w w'→Sl w' 1 iW Ap pl.length pl) (hpl:pl.length≤1000000000000) :
  Calls Tryz.prog 45 #[.pointer (some ⟨xb,0,none⟩),.slice As ops.length Cs,.slice Ap pl.length Cp] w fun e w'=>e=.returned (.bool true)∧Up B w w':=by
 have HX:=Lib.hid hX;have HB:=Lib.hid hB;have Em:=Lib.hid X;have HT:=Lib.hid T;have HSC:=Lib.hid hs;have HPL:=Lib.hid hp;have acg:=X.tr;have Qh:=hX.k.ki.bk.n64;have Ti:Hid (x.k.ord.length≤64):=Lib.hid (by rw[hX.k.ki.lv.ol];exact Qh);have hac:=hX.k.ki.acl;have LD:Hid ((nY x pl).length≤60*pl.length):=Lib.hid (Nat.le_trans (qo _) (Nat.mul_le_mul_right _ X.rl));have hva:=fun w' (hw:Same w w')=>kG (hX.same hw) X.hl X.rl X.rg (BH hX.k.ki X) Ap pl.length Cp (hp w' (Up.bg hw)) hpl
 have vL:=Lib.hid hva;clear hX hB X T hs hp hva;go_enter Tryz.func45,Tryz.ntmps45;go_wp2_with (fail)
 refine(vL.out _ (ah.refl _ _)).mono ?_;rintro e w1 ⟨A1,C1,rfl,hV,hf1,hs1⟩;have HV:=Lib.hid hV;have SS:=Lib.hid hf1;have aW:=Lib.hid hs1;clear vL;have hX1:=HX.out.same hs1;have hxl:=hX1.blk.lt;have c0:=hX1.c0;have BK:=Lib.hid (fun w' (hw:Same w1 w')=>gD (hX1.k.same hw));have mJ:=Lib.hid (fun w' (hw:Same w1 w')=>gu (hX1.k.same hw));have En:=Lib.hid (fun w' (hw:Same w1 w')=>jC (hX1.k.same hw));clear hV hf1 hs1 hX1;go_upto_region 2 with fail
 refine aG (fun _=>False) [([0,1,2,3,5,6,7,8,10,11,12,13],4),([],9),([],14),([],15),([],16),([],17)] (by kernel_rfl) (by kernel_rfl) ?_;simp only[di,pick,List.map_cons,List.map_nil,List.getD_cons_zero,List.getD_cons_succ];have hsd:Same w1 w1.drew:=(ah.refl _ _).drew;repeat (any_goals (first | go_big_quiet_step (fail) | quiet_step (fail)))
 refine wpQuiet_nil ?_;refine aa rfl fun K hK=>?_
 go_simp;refine(BK.out _ hsd).mono ?_;rintro e w2 ⟨A2,C2,rfl,Im⟩;have hs2:=hsd.trans Im.2.2 (fun _ _ h=>h);refine hK _ _ (aY.bz hs2) ?_;clear hK K;repeat (any_goals (first | go_big_quiet_step (fail) | quiet_step (fail)))
 refine wpQuiet_nil ?_;refine aa rfl fun K hK=>?_
 go_simp;refine(mJ.out _ hs2).mono ?_;rintro e wy ⟨rfl,rfl⟩;refine hK _ _ (aY.bz hs2) ?_;clear hK K;repeat (any_goals (first | go_big_quiet_step (fail) | quiet_step (fail)))
 refine wpQuiet_nil ?_;refine aa rfl fun K hK=>?_
 go_simp;refine(En.out _ hs2).mono ?_;rintro e wy ⟨rfl,rfl⟩;refine hK _ _ (aY.bz hs2) ?_;clear hK K;repeat (any_goals (first | go_big_quiet_step (fail) | quiet_step (fail)))
 refine wpQuiet_nil ?_;refine aa rfl fun K hK=>?_
 go_simp;refine hK _ _ (aY.bz hs2) ?_;clear hK K;repeat (any_goals (first | go_big_quiet_step (fail) | quiet_step (fail)))
 refine wpQuiet_nil ?_;refine aa rfl fun K hK=>?_
 go_simp;refine hK _ _ (aY.bz hs2) ?_;clear hK K;repeat (any_goals (first | go_big_quiet_step (fail) | quiet_step (fail)))
 refine wpQuiet_nil ?_;have HS2:=Lib.hid (aW.out.trans hs2 (fun _ _ h=>h));have Zw:=Lib.hid Im.1;have Pq:bG w.heap.size A2:=fun b hb=>by have:=Im.2.1 b hb;have:=aW.out.size;have:=hsd.size;omega
 have VJ:=Lib.hid (HV.out.ag hs2 (fun _ _=>id));obtain⟨B1,hB1⟩:∃ z:Nat→Prop,z=fun b=>B b∨rowOf A1 b∨rowOf A2 b:=⟨_,rfl⟩
 have hX2:RW B1 w2 xb x q:=HX.out.turned HS2.out (fun _ h=>h.elim) (fun b hb=>by
  rw[hB1] at hb;rcases hb with h | h | h
  ·exact .inl h
  ·exact .inr (SS.out b h)
  ·exact .inr (Pq b h))
 have HBS:Hid (∀ b,B1 b→b<w2.heap.size):=Lib.hid (fun b hb=>by
  rw[hB1] at hb;rcases hb with h | h | h
  ·exact Nat.lt_of_lt_of_le (HB.out b h) HS2.out.size
  ·exact cu VJ.out h
  ·exact cu Zw.out h)
 have qP:Hid (∀ b,B b→B1 b):=Lib.hid (fun b hb=>by rw[hB1];exact .inl hb);have HBV:Hid (∀ b,rowOf A1 b→B1 b):=Lib.hid (fun b hb=>by rw[hB1];exact .inr (.inl hb));have HBO:Hid (∀ b,rowOf A2 b→B1 b):=Lib.hid (fun b hb=>by rw[hB1];exact .inr (.inr hb));have uk:=Lib.hid hX2;clear hX2 hB1 Pq hs2 hsd Im BK mJ En aW SS HV hxl c0;go_wp2_with (fail)
 go_loopw [43,12] (fun s t wr=>∃ (i:Nat) (A:Option Addr) (C:Nat) (dn:List Int) (x1:RS),i≤ops.length∧s=.int .i64 i∧t=.slice A dn.length C∧gm wr 3 A dn.length C dn∧dn.length≤30∧bG w2.heap.size A∧RW (fun b=>B1 b∨rowOf A b) wr xb x1 q∧Tx m x x1 dn∧Up B1 w2 wr) (fun s _ _=>ops.length-(intOf s).toNat)
 case atStart=>exact⟨0,none,0,[],x,by omega,rfl,rfl,Go.Tk.Own.nil _ _ _ _,by simp,aL _,uk.out.turned (ah.refl (fun _=>False) _) (fun _ h=>h.elim) (fun b hb=>hb.elim .inl (fun h=>by obtain⟨y,hy,_⟩:=h;cases hy)),KV Em.out HT.out,ah.refl _ _⟩
 case round =>
  as_aux_lemma =>
  obtain⟨i,A3,C3,dn,x1,hi,rfl,rfl,hO,hdl,hf,hX,hst,hup⟩:=hrel;have HO:=Lib.hid hO;have HF:=Lib.hid hf;have Ty:=Lib.hid hX;have HST:=Lib.hid hst;have pO:=Lib.hid hup;have HUB:=Lib.hid ((Up.bg HS2.out:Up B w w2).trans (ah.mono hup (fun b _ hn hb=>hn (qP.out b hb))));clear hO hf hX hst hup;by_cases hlt:i<ops.length
  ·have hI:(i:Int)<(ops.length:Int):=by omega
   obtain⟨⟨kd,va,b,c⟩,ho⟩:∃ o,ops[i]?=some o:=⟨_,List.getElem?_eq_getElem hlt⟩;obtain⟨ab,off,hA,hbl,hc⟩:=(HSC.out _ HUB.out).get i _ ho;have d0:wr.cell? ⟨ab,off+i*4,none⟩=some (.int .i64 kd):=hc 0 (by show 0<4;omega);have d1:wr.cell? ⟨ab,off+i*4+1,none⟩=some (.int .i64 va):=hc 1 (by show 1<4;omega);have d2:wr.cell? ⟨ab,off+i*4+2,none⟩=some (.int .i64 b):=hc 2 (by show 2<4;omega);have d3:wr.cell? ⟨ab,off+i*4+3,none⟩=some (.int .i64 c):=hc 3 (by show 3<4;omega);clear ho hc;subst hA;go_upto_region 7 with fail
   refine ai fun w3 hw3=>?_
   have hT:=av.new wr 60 #[.int .i64 kd,.int .i64 va,.int .i64 b,.int .i64 c];have hs3:Same wr w3:=by rw[hw3];exact(ah.refl _ _).alloc _
   rw[← hw3] at hT;clear hw3;obtain⟨T,hTe⟩:∃ z,wr.heap.size=z:=⟨_,rfl⟩;have yh:=Lib.hid (Ty.out.turned hs3 (fun _ h=>h.elim) (C:=fun b=>(B1 b∨rowOf A3 b)∨b=T) (fun b hb=>hb.elim .inl (fun h=>.inr (by rw[h,hTe];exact Nat.le_refl _))));have Cx:=Lib.hid (HO.out.ag hs3 (fun _ _=>id));have sS:=Lib.hid (pO.out.trans (Up.bg hs3));have hsz:=pO.out.size;rw[hTe] at hT
   have HB3:Hid (∀ b,((B1 b∨rowOf A3 b)∨b=T)→b<w3.heap.size):=Lib.hid (fun b hb=>by
    have h3:=hs3.size;rcases hb with(h | h) | h
    ·have:=HBS.out b h;omega
    ·exact cu Cx.out h
    ·rw[h];exact hT.lt)
   have t1:=hT.cell 1;have tl:=hT.lt;simp at t1;have hxl:=yh.out.blk.lt;have c0:=yh.out.c0;have n1:¬ iA (fun b=>(B1 b∨rowOf A3 b)∨b=T) xb q xb:=fun h=>h (.inr (.inl rfl))
   have n2:¬ iA (fun b=>(B1 b∨rowOf A3 b)∨b=T) xb q T:=fun h=>h (.inl (.inr rfl))
   have HT3:=Lib.hid hT;have aaj:(x1.k.tr.length+1)*8≤140737488355328:=by have:=HST.out.xi.tr;omega
   have Pv:=Lib.hid (fun w' (hw:Same w3 w')=>Iu (yh.out.k.same hw) (fun b hb=>Nat.lt_of_lt_of_le (yh.out.all HB3.out b hb) hw.size) va aaj);rw[hTe];clear hT hs3 d0 d1 d2 d3 hbl hTe aaj;refine aG (iA (fun b=>(B1 b∨rowOf A3 b)∨b=T) xb q) [([0,1,2,3,4,5,6,7,8,9,10,11,12,13,14],15),([16],17)] (by kernel_rfl) (by kernel_rfl) ?_;have qp:Same w3 w3.drew:=(ah.refl _ _).drew;rw[aB];simp only[pick,List.map_cons,List.map_nil,List.getD_cons_zero,List.getD_cons_succ];by_cases hv0:va≥0
   ·by_cases h30:(dn.length:Int)<30
    ·repeat go_big_quiet_step (fail)
     refine wpQuiet_nil ?_;refine bF (by rfl) fun K hK=>?_
     go_simp;refine(Pv.out _ qp).mono ?_;rintro e w4 ⟨rfl,hk4,WN⟩;refine hK _ _ (aY.bz ((qp.mono (fun _ _ h=>h.elim)).trans WN (fun _ _ h=>h))) ?_;clear hK K;have kP:=(yh.out.same qp).kernel hk4 WN;have hO4:=(Cx.out.ag qp (fun _ _=>id)).ag kP.2 (fun y hy hn=>hn (.inl (.inr ⟨y,hy,rfl⟩)));have EB:=Lib.hid ((sS.out.trans (Up.bg qp)).trans (ah.mono kP.2 (fun _ _ hn hb=>hn (.inl (.inl hb)))));have uY:=Lib.hid kP.1;have j6:=Lib.hid hO4;have HT4:=Lib.hid (Up.kept (kP.2) (HT3.out.ag qp id) (.inr rfl));have hB4:∀ b,B1 b→b<w4.heap.size:=fun b hb=>Nat.lt_of_lt_of_le (HBS.out b hb) EB.out.size
     have qw:=Lib.hid hB4;rw[aN];simp only[pick,List.map_cons,List.map_nil,List.getD_cons_zero,List.getD_cons_succ];clear kP hO4 hk4 WN qp yh Cx sS hB4 t1 tl hxl c0 n1 n2;obtain⟨E,hE⟩:∃ z,(bL x1.k va).1=z:=⟨_,rfl⟩;rw[hE];have HE:=Lib.hid hE;clear hE;by_cases hE0:E=0
     ·subst hE0;repeat go_big_quiet_step (fail)
      refine wpQuiet_nil ?_;have t1:=HT4.out.cell 1;have tl:=HT4.out.lt;simp at t1;have nE:=Lib.hid (OZ Ty.out.k.ki HST.out acg (by omega) HE.out);go_upto_region 8 with fail
      refine aR 3 ?_;simp only[List.take_succ_cons,List.take_zero,List.drop_succ_cons,List.drop_zero];repeat (any_goals (first | go_big_quiet_step (fail) | quiet_step (fail)))
      refine wpQuiet_nil ?_;refine wpList_plain rfl fun K hK=>?_
      go_simp;refine hK _ _ ?_;clear hK K;refine aK fun wa dJ=>?_
      have hL:=av.new w4 3 #[.int .i64 va];have hsa:Same w4 wa:=by rw[dJ];exact(ah.refl _ _).alloc _
      rw[← dJ] at hL;clear dJ;have hrow:=j6.out.ag hsa (fun _ _=>id);refine Go.Tk.Own.aI (f:=dM) rfl (.tmp 65) (.tmp 68) _ rfl Tryz.underlying46 RU rfl (by omega) rfl hrow (fun _=>rfl) va w4.heap.size 1 rfl (by simpa [dM] using hL) (by simp[Value.oneCell',dM]) (by unfold maxLen;omega) (by omega) ?_;intro gg cap wb hOb hgb hat;have hgf:ah (rowOf A3) wa wb:=(ah.refl _ _).grown hgb (fun g hg=>.inl (af.1 hg));have hga:w2.heap.size≤gg:=by
       have h1:=EB.out.size;have h2:=hsa.size;rcases hat with h | h
       ·exact HF.out gg (af.1 h)
       ·omega
      have rT:bG w2.heap.size (some ⟨gg,0,none⟩):=fun b hb=>by
       obtain⟨y,hy,rfl⟩:=hb;injection hy with hy
       subst hy;exact hga
      have LC:=uY.out.turned hsa (fun _ h=>h.elim) (C:=fun b=>B1 b∨rowOf A3 b) (fun b hb=>.inl (.inl hb))
      have Ie:=LC.turned hgf (fun b hb=>.inr hb) (C:=fun b=>B1 b∨rowOf (some ⟨gg,0,none⟩) b) (fun b hb=>hb.elim (fun h=>.inl (.inl h)) (fun h=>by
       obtain⟨y,hy,rfl⟩:=h;injection hy with hy
       subst hy;rcases hat with h | h
       ·exact .inl (.inr (af.1 h))
       ·exact .inr (Nat.le_of_eq h.symm)))
      have HUb:=Lib.hid ((EB.out.trans (Up.bg hsa)).trans (ah.mono hgf (fun b _ hr hb=>by
       have h1:=HBS.out b hb;have h2:=HF.out b hr
       omega)):Up B1 w2 wb)
      have HXb:=Lib.hid Ie;have HFb:=Lib.hid rT;have HOb:=Lib.hid hOb;clear LC Ie rT hOb hga hgf hat hgb hrow hL hsa t1 tl uY j6 EB HT4;go_wp2;go_roundw
      case rel=>exact⟨i+1,some ⟨gg,0,none⟩,cap,dn++[va],{ x1 with k:=(bL x1.k va).2 },by omega,by go_num,by rw[List.length_append];rfl,by rw[List.length_append];exact HOb.out,by simp <;> omega,HFb.out,HXb.out,nE.out,HUb.out⟩
      case measure=>simp[intOf] <;> omega
     ·have hk:=O0 Ty.out.k.ki HST.out (by rw[HE.out];exact hE0);have hx:=uY.out;rw[hk] at hx;have Mw:=Lib.hid (hx.sub (B':=fun b=>B1 b∨rowOf A3 b) (fun b hb=>.inl hb));clear hx hk uY;repeat go_big_quiet_step (fail)
      refine wpQuiet_nil ?_;go_wp2;go_roundw
      case rel=>exact⟨i+1,A3,C3,dn,x1,by omega,by go_num,rfl,j6.out,hdl,HF.out,Mw.out,HST.out,EB.out⟩
      case measure=>simp[intOf] <;> omega
    ·repeat go_big_quiet_step (fail)
     rw[ax];rw[bK];rotate_left
     ·rfl
     rw[aN];simp only[pick,List.map_cons,List.map_nil,List.getD_cons_zero,List.getD_cons_succ,Act.put,List.setIfInBounds_toArray,List.set_cons_succ,List.set_cons_zero];repeat go_big_quiet_step (fail)
     rw[ax];have uY:=Lib.hid (yh.out.turned qp (fun _ h=>h.elim) (C:=fun b=>B1 b∨rowOf A3 b) (fun b hb=>.inl (.inl hb)));have j6:=Lib.hid (Cx.out.ag qp (fun _ _=>id));have EB:=Lib.hid (sS.out.trans (Up.bg qp));clear yh Cx sS qp;go_wp2;go_roundw
     case rel=>exact⟨i+1,A3,C3,dn,x1,by omega,by go_num,rfl,j6.out,hdl,HF.out,uY.out,HST.out,EB.out⟩
     case measure=>simp[intOf] <;> omega
   ·repeat go_big_quiet_step (fail)
    rw[ax];rw[bK];rotate_left
    ·rfl
    rw[aN];simp only[pick,List.map_cons,List.map_nil,List.getD_cons_zero,List.getD_cons_succ,Act.put,List.setIfInBounds_toArray,List.set_cons_succ,List.set_cons_zero];repeat go_big_quiet_step (fail)
    rw[ax];have uY:=Lib.hid (yh.out.turned qp (fun _ h=>h.elim) (C:=fun b=>B1 b∨rowOf A3 b) (fun b hb=>.inl (.inl hb)));have j6:=Lib.hid (Cx.out.ag qp (fun _ _=>id));have EB:=Lib.hid (sS.out.trans (Up.bg qp));clear yh Cx sS qp;go_wp2;go_roundw
    case rel=>exact⟨i+1,A3,C3,dn,x1,by omega,by go_num,rfl,j6.out,hdl,HF.out,uY.out,HST.out,EB.out⟩
    case measure=>simp[intOf] <;> omega
  ·obtain rfl:i=ops.length:=by omega
   have hI:¬ ((ops.length:Nat):Int)<(ops.length:Int):=by omega
   have Mw:=Lib.hid Ty.out;have HA3:=Lib.hid (HO.out.sl (fun _=>rfl):Sl wr 1 dM A3 dn.length dn);have hsz0:=pO.out.size;have VU:=Lib.hid pO.out
   rename World=>wo
   go_wp2_with (fail)
   go_loopw [15] (fun s wr=>∃ (j:Nat) (x2:RS),j≤dn.length∧s=.int .i64 ((j:Int)-1)∧RW (fun b=>B1 b∨rowOf A3 b) wr xb x2 q∧Tx m x x2 (dn.take j)∧Up (fun b=>B1 b∨rowOf A3 b) wo wr) (fun s _=>((intOf s)+1).toNat)
   case atStart=>exact⟨dn.length,x1,Nat.le_refl _,rfl,Mw.out,by rw[List.take_length];exact HST.out,ah.refl _ _⟩
   case round =>
    obtain⟨j,x2,hj,rfl,hX,hst,hup⟩:=hrel;have Ty:=Lib.hid hX;have HST:=Lib.hid hst;have pO:=Lib.hid hup;have hxl:=hX.blk.lt;have c0:=hX.c0;cases j with
    | succ j =>
     obtain⟨l,hl⟩:∃ l,dn[j]?=some l:=⟨_,List.getElem?_eq_getElem (by omega)⟩;have htk:dn.take (j+1)=dn.take j++[l]:=by rw[List.take_add_one,hl];rfl
     rw[htk] at hst;obtain⟨u1,u2,u3⟩:=O1 HX.out.k.ki hX.k.ki hst;obtain⟨b3,aak,hA3,hb3,hc3⟩:=(HA3.out.ag hup (fun _ b hr hn=>hn (.inr hr))).get j l hl;have d0:wr.cell? ⟨b3,aak+j,none⟩=some (.int .i64 l):=by
      have:=hc3 0 (by omega)
      simpa [dM] using this
     have hB2:∀ b,(B1 b∨rowOf A3 b)→b<wr.heap.size:=fun b hb=>by
      refine Nat.lt_of_lt_of_le ?_ hup.size;rcases hb with h | h
      ·have:=HBS.out b h
       omega
      ·exact cu HO.out h
     have hun:=Iw hX.k (hX.all hB2) hst.xi.tk (by have:=hst.xi.tr;omega);rw[u1,u2] at hun;have HUN:=Lib.hid hun;have sS:=Lib.hid u3;have e1:(((j+1:Nat):Int)-1)=(j:Int):=by omega
     have hjl:(j:Int)<(dn.length:Int):=by omega
     have hj0:(j:Int)≥0:=by omega
     have hll:(l != l)=false:=by simp
     have HL:=Lib.hid hl;rw[e1];subst hA3;clear hX hst hup htk u1 u2 u3 hc3 hl hun e1 hB2;go_wp2_with (fail)
     refine HUN.out.mono ?_;rintro e w4 ⟨rfl,hk4,WN⟩;have kP:=Ty.out.kernel hk4 WN;have uY:=Lib.hid kP.1;have EB:=Lib.hid (pO.out.trans kP.2);have d4:=pO.out;have dx:w4.cell? ⟨b3,aak+j,none⟩=some (.int .i64 l):=by
      obtain⟨b5,adm,ZU,_,hc5⟩:=(HA3.out.ag EB.out (fun _ b hr hn=>hn (.inr hr))).get j l HL.out;injection ZU with ZU
      injection ZU with e1 e2
      subst e1 e2
      have:=hc5 0 (by omega)
      simpa [dM] using this
     have hb4:b3<w4.heap.size:=Nat.lt_of_lt_of_le hb3 kP.2.size;clear kP hk4 WN d4 d0 hb3 hxl c0;go_wp2;go_roundw
     case rel=>exact⟨j,_,by omega,rfl,uY.out,sS.out,EB.out⟩
     case measure=>simp[intOf] <;> omega
    | zero =>
     have e1:((((0:Nat):Int)-1)) = -1:=rfl;rw[e1];have hS2:=HST.out;rw[List.take_zero] at hS2;have hm1:¬ (-1:Int)≥0:=by decide
     have WO:=IK (x':=x2) (pl:=pl) HX.out.k.ki Em.out hS2.rf hS2.hd hS2.kq;have aal:=Lib.hid (((Up.bg HS2.out:Up B w w2).trans (ah.mono VU.out (fun b _ hn hb=>hn (qP.out b hb)))).trans (ah.mono pO.out (fun b _ hn hb=>hn (.inl (qP.out b hb)))):Up B w wr);have hva:=fun w' (hw:Same wr w')=>kG (Ty.out.same hw) hS2.xi.hl hS2.xi.rl hS2.xi.rg (BH hX.k.ki hS2.xi) Ap pl.length Cp (HPL.out w' (aal.out.trans (Up.bg hw))) hpl
     rw[WO] at hva;have vL:=Lib.hid hva;have NY:=Lib.hid hS2;clear hX hst hup WO hva hS2 e1;go_wp2_with (fail)
     refine(vL.out _ (ah.refl _ _)).mono ?_;rintro e w4 ⟨A4,C4,rfl,hV4,hf4,hs4⟩;have HV4:=Lib.hid hV4;have gH:=Lib.hid hs4;clear hV4 hf4 hs4;have hv2:=((VJ.out.ag VU.out (fun y hy hn=>hn (HBV.out _ ⟨y,hy,rfl⟩))).ag pO.out (fun y hy hn=>hn (.inl (HBV.out _ ⟨y,hy,rfl⟩)))).ag gH.out (fun _ _=>id);have ho2:=((Zw.out.ag VU.out (fun y hy hn=>hn (HBO.out _ ⟨y,hy,rfl⟩))).ag pO.out (fun y hy hn=>hn (.inl (HBO.out _ ⟨y,hy,rfl⟩)))).ag gH.out (fun _ _=>id);have j6:=Lib.hid ho2;have sJ:=Lib.hid (fJ A1 A4 C1 C4 (nY x pl) w4 (hv2.sl (fun _=>rfl)) (HV4.out.sl (fun _=>rfl)) (by have:=LD.out;omega));have kP:=Ty.out.same gH.out;have hxl:=kP.blk.lt;have c0:=kP.c0;have uY:=Lib.hid kP;clear hv2 ho2 vL;go_wp2_with (fail)
     refine sJ.out.mono ?_;rintro e w5 ⟨rfl,hs5⟩;have O3:=Lib.hid (uY.out.same hs5);have nU:=Lib.hid (j6.out.ag hs5 (fun _ _=>id));have nE:=Lib.hid (gH.out.trans hs5 (fun _ _ h=>h));have hxl:=O3.out.blk.lt;have c0:=O3.out.c0;clear hs5;have hS2:=NY.out;have eo:x2.k.ord=x.k.ord:=hS2.od;have et:x2.k.tr=x.k.tr:=by rw[hS2.tr,List.append_nil]
     have ea:=(JL HX.out.k.ki O3.out.k.ki hS2.kq.n eo hS2.kq.hf).2;have hor:=gD O3.out.k;rw[eo] at hor;have BK:=Lib.hid hor;have HTE:=Lib.hid et;have HAE:=Lib.hid ea;clear hor eo et ea hS2;go_wp2_with (fail)
     refine BK.out.mono ?_;rintro e w6 ⟨A6,C6,rfl,jW⟩;have hps:=gP A2 A6 x.k.ord.length x.k.ord.length C2 C6 x.k.ord x.k.ord w6 (nU.out.ag jW.2.2 (fun _ _=>id)).il jW.1.il (by have:=Ti.out;omega) (by have:=Ti.out;omega);rw[decide_eq_true rfl] at hps;have O4:=Lib.hid hps;have qK:=Lib.hid (O3.out.same jW.2.2);have wN:=Lib.hid (nE.out.trans jW.2.2 (fun _ _ h=>h));clear hps jW hxl c0;go_wp2_with (fail)
     refine O4.out.mono ?_;rintro e w7 ⟨rfl,hs7⟩;have Ld:=Lib.hid (qK.out.same hs7);have jZ:=Lib.hid (wN.out.trans hs7 (fun _ _ h=>h));have hxl:=Ld.out.blk.lt;have c0:=Ld.out.c0;clear hs7;have htr:=gu Ld.out.k;rw[HTE.out] at htr;have mJ:=Lib.hid htr;have uJ:=jC Ld.out.k;rw[HAE.out] at uJ;have En:=Lib.hid uJ;have HSO:=Lib.hid (Gm Ld.out NY.out.xi.hl NY.out.xi.rg (fun c hc=>by have:=NY.out.xi.cb c hc;omega) (by have:=NY.out.xi.rl;omega) NY.out.xi.hh);clear htr uJ;go_wp2_with (fail)
     refine mJ.out.mono ?_;rintro e wz ⟨rfl,rfl⟩;go_wp2_with (fail)
     refine En.out.mono ?_;rintro e wz ⟨rfl,rfl⟩;go_wp2_with (fail)
     refine HSO.out.mono ?_;rintro e w8 ⟨rfl,oD⟩;have HU8:=Lib.hid (aal.out.trans (Up.bg (jZ.out.trans oD (fun _ _ h=>h))));clear oD;go_wp2;go_ret;exact⟨rfl,HU8.out⟩
end
def iZ (p:PS) (k:Nat):List Bool:=((List.range k).map fun i:Nat=>!cz (countP p) i)++p.dead.drop k
theorem tT {p:PS} {k:Nat} (h:k≤p.dead.length):(iZ p k).length=p.dead.length:=by
 unfold iZ;simp;omega
theorem KY {p:PS} {k:Nat}:(iZ p k).getD k true=p.dead.getD k true:=by
 unfold iZ;rw[List.getD_eq_getElem?_getD,List.getD_eq_getElem?_getD,List.getElem?_append_right (by simp)];simp
theorem KZ {p:PS} {k:Nat} (h:k<p.dead.length):(iZ p k).set k (!cz (countP p) k)=iZ p (k+1):=by
 unfold iZ;rw[List.set_append_right _ _ (by simp),List.length_map,List.length_range,Nat.sub_self,List.range_succ,List.map_append];rw[List.drop_eq_getElem_cons h,List.set_cons_zero,List.append_assoc];rfl
theorem K3 {p:PS} (h:p.dead.length=p.ts.length):{ countP p with dead:=iZ p p.ts.length }=fU p:=by
 unfold iZ fU;rw[List.drop_of_length_le (by omega)];simp
theorem Eo {p:PS} {k:Nat}:cz { countP p with dead:=iZ p k } k=cz (countP p) k:=by
 unfold cz;simp only[Int.toNat_natCast];rw[KY];rfl
section
variable {w w':World} {B:Nat→Prop} {pp:Nat} {p:PS} {q:PA} {n:Nat} {t:Tb} {kp:Nat} {k:KS} {a:KA}
theorem K4 (hP:PW B w pp p q) (hB:∀ b,B b→b<w.heap.size) (K:KI p.k) (hg:Vx p.k) (ho:eT p.m) (hd:p.dead.length=p.ts.length) (hr:p.refs.length=p.ts.length) (hrg:∀ x∈p.refs,0≤x∧x<4294967296)
  (htl:p.ts.length≤4000000000000) (hol:p.k.ord.length≤64) (hac:p.k.ac≤4000000) (L:Og p) :
  Calls Tryz.prog 28 #[.pointer (some ⟨pp,0,none⟩)] w fun e w'=>e=.returned (.bool true)∧(∃ q',PW B w' pp (fU p) q')∧Up B w w':=by
 have hcl:=zM hP ho hB;have hn16:=hP.m.n16;have hl3:=DY p.m (by have:=hP.m.hl;omega) hP.m.ol p.m.ord.length hP.m.ol;rw[List.take_of_length_le (by unfold aO;rw[eG];simp)] at hl3;have vk:=Lib.hid hcl;have Pw:=Lib.hid (show(rG p.m).length≤2097152000000 from hl3);have HD:=Lib.hid hd;have HR:=Lib.hid hr;have Ou:=Lib.hid hrg;have adn:=Lib.hid htl;have HL:=Lib.hid L;have HK:=Lib.hid K;have HG:=Lib.hid hg;have HO:=Lib.hid ho;have Ti:=Lib.hid hol;have HAC:=Lib.hid hac;have O5:=Lib.hid hn16;clear hP hcl hl3 hd hr hrg L K hg ho hol hac hn16;go_enter Tryz.func28,Tryz.ntmps28;go_wp2_with (fail)
 refine vk.out.mono ?_;rintro e w1 ⟨rfl,⟨q1,hP1⟩,Uu⟩;have hB1:∀ b,B b→b<w1.heap.size:=fun b hb=>by have:=hB b hb;have:=Uu.size;omega
 have hpl:=hP1.blk.lt;have c3:=hP1.c3;rw[hP1.tl] at c3;replace c3:w1.cell? ⟨pp,3,none⟩=some (.slice q1.tA p.ts.length q1.tC):=c3;have BP:=Lib.hid hP1;have UD:=Lib.hid Uu;clear hP1 Uu;go_upto_region 3 with fail
 clear c3 hpl;go_loopw [25] (fun i wr=>∃ k:Nat,k≤p.ts.length∧i=.int .i64 k∧(∃ q',PW B wr pp { countP p with dead:=iZ p k } q')∧Up B w wr∧w.heap.size≤wr.heap.size) (fun i _=>p.ts.length-(intOf i).toNat)
 case atStart=>exact⟨0,Nat.zero_le _,rfl,⟨q1,by have:=BP.out;exact this⟩,UD.out,UD.out.size⟩
 case round =>
  as_aux_lemma =>
  obtain⟨k,hk,rfl,⟨q',lI⟩,hU,hsz⟩:=hrel;by_cases hlt:k<p.ts.length
  ·have hI:(k:Int)<(p.ts.length:Int):=by omega
   have hlv:=fun w' (hs:Same wr w')=>lJ (lI.same hs) (by rw[tT (by rw[HD.out];exact hk)];exact HD.out) Pw.out k
   rw[Eo] at hlv;obtain⟨lb,hlb⟩:∃ z,cz (countP p) k=z:=⟨_,rfl⟩;rw[hlb] at hlv;have hdl:(iZ p k).length=p.ts.length:=by rw[tT (by rw[HD.out];exact hk),HD.out]
   obtain⟨d,hdd⟩:∃ d,(iZ p k)[k]?=some d:=⟨_,List.getElem?_eq_getElem (by rw[hdl];exact hlt)⟩;obtain⟨db,hdb,Vg,d0⟩:=lI.ds.dV (c:=fun b:Bool=>.bool b) hdd;have hpl:=lI.blk.lt;have c5:=lI.c5;simp only at c5 hdb;rw[hdl,hdb] at c5;have f5:=lI.ds;have hst:iZ p (k+1)=(iZ p k).set k (!lb):=by rw[← hlb,KZ (by rw[HD.out];exact hlt)]
   have AB:=Lib.hid hlv;have DZ:=Lib.hid lI;have HU:=Lib.hid hU;have HST:=Lib.hid hst;have ZV:=Lib.hid hdb;have Ex:=Lib.hid hdl;have HDD:=Lib.hid hdd;clear hlv lI hU hst hdb hdl hlb hdd f5;go_upto_region 5 with fail
   refine aG (fun _=>False) [([0,1,2,3,4,5,6],7),([8,9],10)] (by kernel_rfl) (by kernel_rfl) ?_;simp only[di,pick,List.map_cons,List.map_nil,List.getD_cons_zero,List.getD_cons_succ];have hs:Same wr wr.drew:=(ah.refl _ _).drew;repeat (any_goals (first | go_big_quiet_step (fail) | quiet_step (fail)))
   refine wpQuiet_nil ?_;refine aa rfl fun K hK=>?_
   go_simp;refine(AB.out _ hs).mono ?_;rintro e w2 ⟨rfl,hs2⟩;have kX:=hs.trans hs2 (fun _ _ h=>h);refine hK _ _ (aY.bz kX) ?_;clear hK K;have hP2:=DZ.out.same kX;have O6:=ZV.out;have hds:=hP2.ds;have hB2:∀ b,B b→b<w2.heap.size:=fun b hb=>by have:=hB b hb;have:=kX.size;omega
   have hsz2:=kX.size;clear d0 Vg;have hne:pp≠db:=fun h=>hP2.ds.au hP2.blk (by decide) _ O6 h.symm
   have VV:(iZ p (k+1)).length=p.ts.length:=by rw[tT (by rw[HD.out];exact hlt),HD.out]
   simp only at hds;rw[O6] at hds;have fk:=Own.free hds k;obtain⟨db',O7,Vg,d0⟩:=hds.dV (c:=fun b:Bool=>.bool b) HDD.out;injection O7 with O7
   injection O7 with O7
   subst O7;have hpt:=Own.kS (c:=fun b:Bool=>.bool b) hds (i:=k) (by rw[Ex.out];exact hlt) (!lb);rw[← HST.out,Ex.out,← VV,← O6] at hpt
   have hto:=hP2.Tm (w':=w2.setCell ⟨db,k,none⟩ (.bool (!lb))) (ds:=iZ p (k+1)) (A2:=q'.dA) (C2:=q'.dC) ((ah.refl _ _).set k _ (.inr ⟨_,O6,rfl⟩)) (by
    have hb:=hP2.blk.far (p:=⟨db,k,none⟩) hne (.bool (!lb))
    simpa [gG,Ex.out,VV] using hb) hpt (fun b hb=>.inl hb) hB2
   have pJ:=Lib.hid hto;have HS2:=Lib.hid kX;clear hto hpt hds hP2 hne O6 hB2 hs hs2 kX VV c5 hpl;repeat (any_goals (first | go_big_quiet_step (fail) | quiet_step (fail)))
   refine wpQuiet_nil ?_;go_wp2;go_roundw
   case rel=>exact⟨k+1,by omega,by go_num,⟨_,pJ.out.1⟩,(HU.out.trans (Up.bg HS2.out)).trans pJ.out.2,by rw[size_setCell];omega⟩
   case measure=>simp[intOf] <;> omega
  ·obtain rfl:k=p.ts.length:=by omega
   have hI:¬ ((p.ts.length:Nat):Int)<(p.ts.length:Int):=by omega
   rw[K3 HD.out] at lI;obtain⟨w5,rfl⟩:∃ z,z=wr:=⟨_,rfl⟩;have hcells:∀ w',Same w5 w'→pp<w'.heap.size∧q'.mp<w'.heap.size∧w'.cell? ⟨pp,0,none⟩=some (.pointer (some ⟨q'.kp,0,none⟩))∧w'.cell? ⟨pp,1,none⟩=some (.pointer (some ⟨q'.mp,0,none⟩))∧w'.cell? ⟨pp,2,none⟩=some (.slice q'.rA p.ts.length q'.rC)∧w'.cell? ⟨pp,3,none⟩=some (.slice q'.tA p.ts.length q'.tC)∧w'.cell? ⟨pp,4,none⟩=some (.slice q'.vA (rG p.m).length q'.vC)∧
     w'.cell? ⟨q'.mp,0,none⟩=some (.int .i64 p.m.n)∧w'.cell? ⟨q'.mp,2,none⟩=some (.slice q'.b.oA p.k.ord.length q'.b.oC)∧w'.cell? ⟨q'.mp,3,none⟩=some (.slice q'.b.hA (aU p.k).length q'.b.hC)∧w'.cell? ⟨q'.mp,4,none⟩=some (.slice q'.b.tA p.k.tr.length q'.b.tC):=by
    intro w' hs;have h:=lI.same hs;refine⟨h.blk.lt,h.m.blk.lt,h.c0,h.c1,?_,?_,?_,h.m.c0,?_,?_,?_⟩
    ·have:=h.c2
     rw[show(fU p).refs.length=p.ts.length from HR.out] at this;exact this
    ·have:=h.c3
     rw[h.tl] at this;exact this
    ·have:=h.c4
     rw[h.vl] at this;exact this
    ·have:=h.m.c2
     rw[HL.out.ord];exact this
    ·have:=h.m.c3
     rw[h.m.hsl] at this;rw[HL.out.rl];exact this
    ·have:=h.m.c4
     rw[HL.out.tr];exact this
   have HC:=Lib.hid hcells;have OP:∀ w',Same w5 w'→Calls Tryz.prog 25 #[.pointer (some ⟨q'.kp,0,none⟩)] w' (Fz w' p.k.ord):=fun w' hs=>xk (lI.same hs).k Ti.out
   have hsm:=fun w' (hs:Same w5 w') (A:Option Addr) (C:Nat) (ho:gm w' 3 A p.k.ord.length C p.k.ord)=>gP A q'.b.oA p.k.ord.length p.k.ord.length C q'.b.oC p.k.ord p.k.ord w' ho.il (by have:=(lI.same hs).m.ord.il;rw[HL.out.ord];exact this) (by have:=Ti.out;omega) (by have:=Ti.out;omega)
   simp only[decide_true] at hsm;have htr:∀ w',Same w5 w'→Calls Tryz.prog 35 #[.pointer (some ⟨q'.kp,0,none⟩)] w' fun e w''=>e=.returned (.int .i64 p.k.tr.length)∧w'=w'':=fun w' hs=>qb (lI.same hs).k
   have hlv:∀ w',Same w5 w'→Calls Tryz.prog 18 #[.pointer (some ⟨q'.kp,0,none⟩)] w' fun e w''=>e=.returned (.int .i64 ((rG p.m).length:Nat))∧w'=w'':=fun w' hs=>by
    have h:=qa (lI.same hs).k HAC.out;rw[show(((fU p).k.ac:Nat):Int)-2=((rG p.m).length:Nat) from HL.out.live] at h;exact h
   have hwd:∀ (v:Nat),v<p.m.n→∀ w',Same w5 w'→Calls Tryz.prog 32 #[.pointer (some ⟨q'.kp,0,none⟩),.int .i64 v] w' fun e w''=>e=.returned (.tuple #[.int .i64 (nN p.m v),.int .i64 0])∧w'=w'':=fun v hv w' hs=>by
    have h:=xq (lI.same hs).k v;rw[show Py (fU p).k v=nN p.m v from(HL.out.wd v hv).1,show uI (fU p).k v=0 from(HL.out.wd v hv).2.2] at h;exact h
   have hle:∀ (v:Nat),v<p.m.n→∀ w',Same w5 w'→Calls Tryz.prog 33 #[.pointer (some ⟨q'.kp,0,none⟩),.int .i64 v] w' fun e w''=>e=.returned (.tuple #[.int .i64 (dY p.m.ord v),.int .i64 0])∧w'=w'':=fun v hv w' hs=>by
    have h:=xm (lI.same hs).k HK.out.lv v;rw[show Bc (fU p).k v=dY p.m.ord v from(HL.out.wd v hv).2.1,show uI (fU p).k v=0 from(HL.out.wd v hv).2.2] at h;exact h
   have ZI:∀ (v:Nat) w',Same w5 w'→Calls Tryz.prog 67 #[.pointer (some ⟨q'.mp,0,none⟩),.int .i64 v] w' fun e w''=>e=.returned (.int .i64 (nN p.m v))∧Same w' w'':=fun v w' hs=>FV (lI.same hs).m HO.out v
   have hlm:∀ (v:Nat) w',Same w5 w'→Calls Tryz.prog 68 #[.pointer (some ⟨q'.mp,0,none⟩),.int .i64 v] w' fun e w''=>e=.returned (.int .i64 (dY p.m.ord v))∧Same w' w'':=fun v w' hs=>kF (lI.same hs).m v
   have hrt:∀ w',Same w5 w'→Calls Tryz.prog 22 #[.pointer (some ⟨q'.kp,0,none⟩)] w' fun e w''=>∃ A C,e=.returned (.slice A (aU p.k).length C)∧Row1 w'' 28 rc A (aU p.k).length C (aU p.k)∧bG w'.heap.size A∧Same w' w'':=fun w' hs=>xh (lI.same hs).k HK.out.bk
   have hhd:∀ (r:Int),0≤r→r<4294967296→∀ w',Same w5 w'→Calls Tryz.prog 17 #[.pointer (some ⟨q'.kp,0,none⟩),.int .u32 r] w' fun e w''=>e=.returned (.int .i64 (p.k.hs.getD r.toNat 0))∧w'=w'':=fun r h0 h1 w' hs=>sN (lI.same hs).k r h0 h1 (fun x hx=>⟨(HK.out.bk.hol _ x hx).1,(HK.out.bk.hol _ x hx).2.1⟩)
   have htb:∀ (r:Int) (t:List Nat),0≤r→r<4294967296→je p.k p.m.n (p.m.n+1) r=some t→∀ w',Same w5 w'→Calls Tryz.prog 69 #[.pointer (some ⟨q'.kp,0,none⟩),.int .u32 r,.int .i64 p.m.n,.int .i64 0] w' fun e w''=>∃ A C,e=.returned (.tuple #[.agg #[.int .i64 p.m.n,.slice A t.length C],.bool true])∧yM w' t A C w'':=fun r t h0 h1 ht w' hs=>by
    have h:=Kk (lI.same hs).k HG.out O5.out (p.m.n+1) r h0 h1 (Nat.le_refl _) w' (ah.refl _ _);rw[show je (fU p).k p.m.n (p.m.n+1) r=some t from ht,Nat.sub_self] at h;exact h
   have hho:∀ (A:Option Addr) (C:Nat) (t:List Nat),mF p.m.n t→Small t→∀ w',Same w5 w'→dU w' A t.length C t→Calls Tryz.prog 70 #[.pointer (some ⟨q'.mp,0,none⟩),.agg #[.int .i64 p.m.n,.slice A t.length C]] w' fun e w''=>e=.returned (.int .i64 (iJ p.m.held t))∧Same w' w'':=fun A C t h1 h2 w' hs hO=>by
    have h:=zK (t:=⟨p.m.n,A,C,t⟩) (lI.same hs).m ⟨rfl,hO,h1,h2⟩;exact h
   have hls:=fun (i:Int) w' (hs:Same w5 w')=>lJ (lI.same hs) (by unfold fU;simp[countP]) (show(rG p.m).length≤2097152000000 from Pw.out) i
   have uy:=fun w' (hs:Same w5 w')=>(lI.same hs).tt
   have hrows:∀ w',Same w5 w'→Row1 w' 28 rc q'.rA p.refs.length q'.rC p.refs:=fun w' hs=>(lI.same hs).refs
   have htab:∀ w',Same w5 w'→Go.Tk.Own w' 108 2 Tb.cells q'.tA q'.tt.length q'.tC q'.tt∧∀ t∈q'.tt,TW w' p.m.n t:=fun w' hs=>⟨(lI.same hs).ts,(lI.same hs).tt⟩
   have aam:q'.tt.map Tb.ws=p.ts:=lI.te;have ach:=Lib.hid OP;have uK:=Lib.hid hsm;have mJ:=Lib.hid htr;have AB:=Lib.hid hlv;have QK:=Lib.hid hwd;have Ew:=Lib.hid hle;have HWM:=Lib.hid ZI;have HLM:=Lib.hid hlm;have HRT:=Lib.hid hrt;have HHD:=Lib.hid hhd;have Sv:=Lib.hid htb;have ZE:=Lib.hid hho;have HLS:=Lib.hid hls;have sM:=Lib.hid hrows;have x9:=Lib.hid htab;have RV:=Lib.hid aam;have aD:=Lib.hid (⟨_,lI⟩:∃ q',PW B w5 pp (fU p) q');have HUF:=Lib.hid hU;have HS:=Lib.hid (ah.refl (fun _=>False) w5:Same w5 w5);clear OP hsm htr hlv hwd hle ZI hlm hrt hhd htb hho hls uy hrows htab aam lI hU hcells;go_upto_region 7 with fail
   obtain⟨hpl,hml,c0,c1,c2,c3,c4,m0,m2,m3,m4⟩:=HC.out _ HS.out;refine aG (fun _=>False) [([0,1,2,3,5,6,7,8,9,10,11],4),([],12),([13,14,15,16,17,18,20,21,22,23,24,25,26,27],19),([28,29,30,31,32,33,34,36,37,38,39,40],35),([41],42)] (by kernel_rfl) (by kernel_rfl) ?_;have hs:Same w5 w5.drew:=(ah.refl _ _).drew;rw[aB];simp only[pick,List.map_cons,List.map_nil,List.getD_cons_zero,List.getD_cons_succ];repeat go_big_quiet_step (fail)
   refine wpQuiet_nil ?_;refine aa rfl fun K hK=>?_
   go_simp;refine(ach.out _ hs).mono ?_;rintro e w6 ⟨Ao,Co,rfl,hO6,hF6,hs6⟩;have wN:=Lib.hid (hs.trans hs6 (fun _ _ h=>h));refine hK _ _ (aY.bz wN.out) ?_;clear hK K;have vH:=Lib.hid hO6;clear hO6 hF6 hs6 hs;rw[aB];simp only[pick,List.map_nil,List.getD_cons_zero,List.getD_cons_succ];repeat go_big_quiet_step (fail)
   refine wpQuiet_nil ?_;refine aa rfl fun K hK=>?_
   go_simp;refine(uK.out _ wN.out Ao Co vH.out).mono ?_;rintro e w7 ⟨rfl,hs7⟩;have jZ:=Lib.hid (wN.out.trans hs7 (fun _ _ h=>h));refine hK _ _ (aY.bz jZ.out) ?_;clear hK K hs7;rw[aB];simp only[pick,List.map_cons,List.map_nil,List.getD_cons_zero,List.getD_cons_succ];repeat go_big_quiet_step (fail)
   refine wpQuiet_nil ?_;refine bF (by rfl) fun K hK=>?_
   go_simp;refine(mJ.out _ jZ.out).mono ?_;rintro e w8 ⟨rfl,rfl⟩;refine hK _ _ (aY.bz jZ.out) ?_;clear hK K;rw[aB];simp only[pick,List.map_cons,List.map_nil,List.getD_cons_zero,List.getD_cons_succ];repeat go_big_quiet_step (fail)
   refine wpQuiet_nil ?_;refine bF (by rfl) fun K hK=>?_
   go_simp;refine(AB.out _ jZ.out).mono ?_;rintro e w8 ⟨rfl,rfl⟩;refine hK _ _ (aY.bz jZ.out) ?_;clear hK K;rw[aN];simp only[pick,List.map_cons,List.map_nil,List.getD_cons_zero,List.getD_cons_succ];repeat go_big_quiet_step (fail)
   rw[ax];clear hpl hml c0 c1 c2 c3 c4 m0 m2 m3 m4 vH wN;go_wp2_with (fail)
   go_loopw [4] (fun i wx=>∃ v:Nat,v≤p.m.n∧i=.int .i64 v∧Same w5 wx) (fun i _=>p.m.n-(intOf i).toNat)
   case atStart=>exact⟨0,Nat.zero_le _,rfl,jZ.out⟩
   case round =>
    as_aux_lemma =>
    obtain⟨v,hv,rfl,hsx⟩:=hrel;by_cases hlt:v<p.m.n
    ·have hJ:(v:Int)<(p.m.n:Int):=by omega
     have hn16:=O5.out;have RX:=Lib.hid hsx;clear hsx;obtain⟨hpl,hml,c0,c1,c2,c3,c4,m0,m2,m3,m4⟩:=HC.out _ RX.out;have h1:=QK.out v hlt;have h2:=Ew.out v hlt;have h3:=HWM.out v;have h4:=HLM.out v;obtain⟨a1,ha1⟩:∃ z,nN p.m v=z:=⟨_,rfl⟩;obtain⟨a2,ha2⟩:∃ z,dY p.m.ord v=z:=⟨_,rfl⟩;replace h3:∀ w',Same w5 w'→Calls Tryz.prog 67 #[.pointer (some ⟨q'.mp,0,none⟩),.int .i64 v] w' fun e w''=>e=.returned (.int .i64 a1)∧Same w' w'':=by rw[← ha1];exact h3
     replace h4:∀ w',Same w5 w'→Calls Tryz.prog 68 #[.pointer (some ⟨q'.mp,0,none⟩),.int .i64 v] w' fun e w''=>e=.returned (.int .i64 a2)∧Same w' w'':=by rw[← ha2];exact h4
     rw[ha1] at h1;rw[ha2] at h2;have H1:=Lib.hid h1;have H2:=Lib.hid h2;have H3:=Lib.hid h3;have H4:=Lib.hid h4;clear h1 h2 h3 h4 ha1 ha2;go_wp2_with (fail)
     refine(H1.out _ RX.out).mono ?_;rintro e wy ⟨rfl,rfl⟩;go_wp2_with (fail)
     refine(H2.out _ RX.out).mono ?_;rintro e wy ⟨rfl,rfl⟩;go_wp2_with (fail)
     refine(H3.out _ RX.out).mono ?_;rintro e wy ⟨rfl,hsy⟩;have PK:=Lib.hid (RX.out.trans hsy (fun _ _ h=>h));clear hsy hpl hml c0 c1 c2 c3 c4 m0 m2 m3 m4;obtain⟨hpl,hml,c0,c1,c2,c3,c4,m0,m2,m3,m4⟩:=HC.out _ PK.out;go_wp2_with (fail)
     refine(H4.out _ PK.out).mono ?_;rintro e wz ⟨rfl,hsz⟩;have iC:=Lib.hid (PK.out.trans hsz (fun _ _ h=>h));clear hsz hpl hml c0 c1 c2 c3 c4 m0 m2 m3 m4;go_wp2;go_roundw
     case rel=>exact⟨v+1,by omega,by go_num,iC.out⟩
     case measure=>simp[intOf] <;> omega
    ·obtain rfl:v=p.m.n:=by omega
     have hJ:¬ ((p.m.n:Nat):Int)<(p.m.n:Int):=by omega
     have RX:=Lib.hid hsx;clear hsx;obtain⟨hpl,hml,c0,c1,c2,c3,c4,m0,m2,m3,m4⟩:=HC.out _ RX.out;go_wp2_with (fail)
     refine(HRT.out _ RX.out).mono ?_;rintro e wa ⟨Ar,Cr,rfl,hRr,hFr,yj⟩;have zJ:=Lib.hid (RX.out.trans yj (fun _ _ h=>h));have HRR:=Lib.hid (show Row1 wa 28 rc Ar (aU p.k).length Cr (aU p.k) from hRr);clear yj hRr hFr hpl hml c0 c1 c2 c3 c4 m0 m2 m3 m4;obtain⟨hpl,hml,c0,c1,c2,c3,c4,m0,m2,m3,m4⟩:=HC.out _ zJ.out;have aan:∀ x∈aU p.k,0≤x∧x<4294967296:=uD HK.out;have aao:=Lib.hid aan;have aap:=Lib.hid HL.out.rt;have aci:(aU p.k).length≤1048576:=tL HK.out;clear aan;obtain⟨RL,ZZ⟩:∃ z,aU p.k=z:=⟨_,rfl⟩;rw[ZZ] at HRR aao aap m3 aci ⊢;clear ZZ;have e7:(RL.length != RL.length)=false:=by simp
     go_wp2_with (fail)
     go_loopw [155] (fun i wx=>∃ k:Nat,k≤RL.length∧i=.int .i64 k∧Same wa wx) (fun i _=>RL.length-(intOf i).toNat)
     case atStart=>exact⟨0,Nat.zero_le _,rfl,ah.refl _ _⟩
     case round =>
      as_aux_lemma =>
      clear hpl hml c0 c1 c2 c3 c4 m0 m2 m3 m4;obtain⟨k,hk,rfl,hsk⟩:=hrel;have HSK:=Lib.hid (zJ.out.trans hsk (fun _ _ h=>h));by_cases hlt:k<RL.length
      ·have hI3:(k:Int)<(RL.length:Int):=by omega
       obtain⟨r,hr⟩:∃ r,RL[k]?=some r:=⟨_,List.getElem?_eq_getElem hlt⟩;have hRk:=HRR.out.ag hsk (fun _ _=>id);obtain⟨sb,hA1,hsb,d0⟩:=hRk.dV (c:=rc) hr;obtain⟨t,ht,hnz,yD,hup⟩:=aap.out k hlt;have hrd:RL.getD k 0=r:=by rw[List.getD_eq_getElem?_getD,hr];rfl
       rw[hrd] at ht yD hup;obtain⟨hr0,hr1⟩:=aao.out r (List.mem_of_getElem? hr);obtain⟨hf1,hf2⟩:=zP O5.out _ _ _ ht;have htb:=Sv.out r t hr0 hr1 ht;have hho:=fun A C=>ZE.out A C t hf1 hf2
       have hhd:=HHD.out r hr0 hr1;rw[yD] at hhd;obtain⟨hc,WM⟩:∃ z,iJ p.m.held t=z:=⟨_,rfl⟩;rw[WM] at hho hhd hnz;have e0:(hc == 0)=false:=by simpa using hnz
       have e1:(hc != hc)=false:=by simp
       unfold rc at d0;have Ee:k=0∨∃ k' r',k=k'+1∧RL[k']?=some r'∧¬ r≤r':=by
        rcases hup with h | h
        ·exact .inl h
        ·by_cases h0:k=0
         ·exact .inl h0
         ·refine .inr ⟨k-1,RL.getD (k-1) 0,by omega,?_,by rw[List.getD_eq_getElem?_getD] at h ⊢;omega⟩;rw[List.getD_eq_getElem?_getD,List.getElem?_eq_getElem (by omega)];rfl
       have K5:=Lib.hid htb;have RP:=Lib.hid hho;have acj:=Lib.hid hhd;have Rt:=Lib.hid Ee;have HRK:=Lib.hid hRk;have ack:=Lib.hid hsk;have HA1:=Lib.hid hA1;clear htb hho hhd Ee hRk hsk yD WM hup hrd hr ht hf1 hf2;subst hA1;obtain⟨hpl,hml,c0,c1,c2,c3,c4,m0,m2,m3,m4⟩:=HC.out _ HSK.out;go_upto_region 22 with fail
       go_cut [12,13] (fun s1 s2 wx=>∃ (T:Nat) (A:Option Addr) (C:Nat),s1=.pointer (some ⟨T,0,none⟩)∧s2=.bool true∧av wx T 108 #[.int .i64 p.m.n,.slice A t.length C]∧dU wx A t.length C t∧Same wr wx)
       case first =>
        as_aux_lemma =>
        refine Ci (fun _=>False) (.q [0,1,2,3,4,5,6,7,8,9,10,11] (.fork 12 (.q [13,14,15] (.step 16 (.step 17 (.last 18)))) 16 (.step 12 (.q [13,14,15] (.step 17 (.last 18)))))) (by kernel_rfl) (by kernel_rfl) ?_;simp only[Et,pick,List.map_cons,List.map_nil,List.getD_cons_zero,List.getD_cons_succ];have hs:Same wr wr.drew:=(ah.refl _ _).drew;repeat go_big_quiet_step (fail)
        refine wpQuiet_nil ?_;refine⟨?_,?_⟩
        ·refine aa rfl fun K hK=>?_
         go_simp;refine(K5.out _ (HSK.out.trans hs (fun _ _ h=>h))).mono ?_;rintro e wa ⟨A5,C5,rfl,nR,D6,hs5⟩;have hsa:=hs.trans hs5 (fun _ _ h=>h);refine hK _ _ (aY.bz hsa) ?_;clear hK K;have zJ:=Lib.hid hsa;have nU:=Lib.hid nR;clear hsa nR hs5 D6 hs;repeat go_big_quiet_step (fail)
         refine wpQuiet_nil ?_;refine aa rfl fun K hK=>?_
         go_simp;refine hK _ _ (aY.bz (zJ.out.alloc _)) ?_;clear hK K;refine aa rfl fun K hK=>?_
         go_simp;refine hK _ _ (aY.bz (zJ.out.alloc _)) ?_;clear hK K;go_wp2_with fail
         go_meet
         exact⟨wa.heap.size,A5,C5,rfl,rfl,av.new wa _ _,nU.out.ag (S:=fun _=>False) ((ah.refl _ _).alloc _) (fun _ _=>id),zJ.out.alloc _⟩
        ·refine aa rfl fun K hK=>?_
         go_simp;have hT:=(av.new wr 108 #[.int .i64 0,.slice none 0 0]).drew;have hsa:Same wr (wr.alloc (.cells #[.int .i64 0,.slice none 0 0] 108)).drew:=((ah.refl _ _).alloc _).drew;refine hK _ _ (aY.bz hsa) ?_;clear hK K;generalize (wr.alloc (.cells #[.int .i64 0,.slice none 0 0] 108)).drew=wa at hT hsa ⊢;refine aa rfl fun K hK=>?_
         go_simp;refine(K5.out _ (HSK.out.trans hsa (fun _ _ h=>h))).mono ?_;rintro e wb ⟨A5,C5,rfl,nR,D6,hs5⟩;have hsb:=hsa.trans hs5 (fun _ _ h=>h);refine hK _ _ (aY.bz hsb) ?_;clear hK K;have qy:=hT.ag hs5 id;have D8:∀ x,A5=some x→x.block≠wr.heap.size:=fun x hx h=>nR.au qy (by decide) x hx h
         have t0:=qy.cell 0;have t1:=qy.cell 1;have tl:=qy.lt;have u0:=qy.free 0;have u1:=qy.free 1;simp at t0 t1;have l7:=Lib.hid hsb;have nU:=Lib.hid nR;have Ir:=Lib.hid qy;have Tn:=Lib.hid D8;clear hsb nR hs5 D6 hT qy hsa hs D8;repeat go_big_quiet_step (fail)
         refine wpQuiet_nil ?_;refine aa rfl fun K hK=>?_
         go_simp;refine hK _ _ (aY.bz ((l7.out.aj 0 _ (Nat.le_refl _)).aj 1 _ (Nat.le_refl _))) ?_;clear hK K;go_wp2_with fail
         go_meet
         refine⟨wr.heap.size,A5,C5,rfl,rfl,?_,(Own.far (p:=⟨wr.heap.size,0,none⟩) nU.out Tn.out _).far (p:=⟨wr.heap.size,1,none⟩) Tn.out _,(l7.out.aj 0 _ (Nat.le_refl _)).aj 1 _ (Nat.le_refl _)⟩
         have:=(Ir.out.set 0 (.int .i64 p.m.n)).set 1 (.slice A5 t.length C5)
         simpa using this
       case rest =>
        as_aux_lemma =>
        obtain⟨T,A5,C5,rfl,rfl,hT,nR,hs5⟩:=hcut;have nE:=Lib.hid (HSK.out.trans hs5 (fun _ _ h=>h));have aaq:=Lib.hid (ack.out.trans hs5 (fun _ _ h=>h));have HT:=Lib.hid hT;have nU:=Lib.hid nR;clear hpl hml c0 c1 c2 c3 c4 m0 m2 m3 m4 d0 hsb hs5 hT nR;obtain⟨hpl,hml,c0,c1,c2,c3,c4,m0,m2,m3,m4⟩:=HC.out _ nE.out;have t0:=HT.out.cell 0;have t1:=HT.out.cell 1;have tl:=HT.out.lt;simp at t0 t1;go_upto_region 23 with fail
        have hs:Same wc wc.drew:=(ah.refl _ _).drew;have key:∀ (G:Prop),(k=0→G)→(∀ k' r',k=k'+1→RL[k']?=some r'→¬ r≤r'→G)→G:=fun G h1 h2=>by
         rcases Rt.out with h | ⟨k',r',a,b,c⟩
         ·exact h1 h
         ·exact h2 k' r' a b c
        refine aG (fun _=>False) [([0,1,2,3,4,5,6,7],8),([9,10,11,12,13,14,15,16,18,19,20,21,22],17),([],23),([24,25,26,27,28,29,30,31,32,33,34,35,36,37],38)] (by kernel_rfl) (by kernel_rfl) ?_;rw[aB];simp only[pick,List.map_cons,List.map_nil,List.getD_cons_zero,List.getD_cons_succ];repeat go_big_quiet_step (fail)
        refine wpQuiet_nil ?_;refine bF (by rfl) fun K hK=>?_
        go_simp;refine(RP.out A5 C5 _ (nE.out.trans hs (fun _ _ h=>h)) (nU.out.ag hs (fun _ _=>id))).mono ?_;rintro e wd ⟨rfl,hsd⟩;have yT:=hs.trans hsd (fun _ _ h=>h);refine hK _ _ (aY.bz yT) ?_;clear hK K;have Pj:=Lib.hid yT;have wN:=Lib.hid (nE.out.trans yT (fun _ _ h=>h));have EC:=Lib.hid (HT.out.ag yT id);have vH:=Lib.hid (nU.out.ag yT (fun _ _=>id));clear hsd yT hs;rw[aB];simp only[pick,List.map_cons,List.map_nil,List.getD_cons_zero,List.getD_cons_succ];repeat go_big_quiet_step (fail)
        refine wpQuiet_nil ?_;refine bF (by rfl) fun K hK=>?_
        go_simp;refine(acj.out _ wN.out).mono ?_;rintro e we ⟨rfl,rfl⟩;refine hK _ _ (aY.bz Pj.out) ?_;clear hK K;rw[aB];simp only[pick,List.map_nil,List.getD_cons_zero,List.getD_cons_succ];repeat go_big_quiet_step (fail)
        refine wpQuiet_nil ?_;refine bF (by rfl) fun K hK=>?_
        go_simp;refine(RP.out A5 C5 _ wN.out vH.out).mono ?_;rintro e wf ⟨rfl,Xf⟩;have HSF:=Lib.hid (Pj.out.trans Xf (fun _ _ h=>h));have jZ:=Lib.hid (wN.out.trans Xf (fun _ _ h=>h));have aar:=Lib.hid (aaq.out.trans HSF.out (fun _ _ h=>h));refine hK _ _ (aY.bz HSF.out) ?_;clear hK K Xf;rcases Rt.out with rfl | ⟨k',r',rfl,hr',hrr⟩
        ·clear key;rw[aN];simp only[pick,List.map_cons,List.map_nil,List.getD_cons_zero,List.getD_cons_succ];repeat go_big_quiet_step (fail)
         rw[ax];go_wp2;go_roundw
         case rel=>exact⟨1,by omega,by go_num,aar.out⟩
         case measure=>simp[intOf] <;> omega
        ·clear key;obtain⟨sb',hA',hsb,d0⟩:=(HRR.out.ag aaq.out (fun _ _=>id)).dV (c:=rc) hr';injection hA' with hA'
         injection hA' with hA'
         subst hA';unfold rc at d0;have hk1:(0:Int)<(k':Int)+1:=by omega
         have hk2:(k':Int)<RL.length:=by omega
         rw[aN];simp only[pick,List.map_cons,List.map_nil,List.getD_cons_zero,List.getD_cons_succ];repeat go_big_quiet_step (fail)
         rw[ax];go_wp2;go_roundw
         case rel=>exact⟨k'+2,by omega,by go_num,aar.out⟩
         case measure=>simp[intOf] <;> omega
      ·obtain rfl:k=RL.length:=by omega
       have hI3:¬ ((RL.length:Nat):Int)<(RL.length:Int):=by omega
       clear hsk;go_wp2_with (fail)
       go_loopw [14] (fun i wx=>∃ k:Nat,k≤p.ts.length∧i=.int .i64 k∧Same w5 wx) (fun i _=>p.ts.length-(intOf i).toNat)
       case atStart=>exact⟨0,Nat.zero_le _,rfl,HSK.out⟩
       case round =>
        as_aux_lemma =>
        obtain⟨k,hk,rfl,hsk⟩:=hrel;have RY:=Lib.hid hsk;obtain⟨hpl,hml,c0,c1,c2,c3,c4,m0,m2,m3,m4⟩:=HC.out _ hsk;clear hsk;by_cases hlt:k<p.ts.length
        ·have hI4:(k:Int)<(p.ts.length:Int):=by omega
         have hls:=HLS.out k;obtain⟨lb,hlb⟩:∃ z,cz (fU p) k=z:=⟨_,rfl⟩;rw[hlb] at hls;have EY:=Lib.hid hls;clear hls;go_wp2_with (fail)
         refine(EY.out _ RY.out).mono ?_;rintro e wl ⟨rfl,hsl⟩;have WQ:=Lib.hid (RY.out.trans hsl (fun _ _ h=>h));clear hsl hpl hml c0 c1 c2 c3 c4 m0 m2 m3 m4;cases lb with
         | false =>
          clear hlb;go_wp2;go_roundw
          case rel=>exact⟨k+1,by omega,by go_num,WQ.out⟩
          case measure=>simp[intOf] <;> omega
         | true =>
          obtain⟨ht,hfn⟩:=HL.out.fn k hlt hlb;obtain⟨r,hr⟩:∃ r,p.refs[k]?=some r:=⟨_,List.getElem?_eq_getElem (by rw[HR.out];exact hlt)⟩;obtain⟨u,hu⟩:∃ u,q'.tt[k]?=some u:=⟨_,List.getElem?_eq_getElem (by have:=congrArg List.length RV.out;rw[List.length_map] at this;omega)⟩;have hur:p.ts.getD k []=u.ws:=by rw[List.getD_eq_getElem?_getD,← RV.out,List.getElem?_map,hu];rfl
          have hrd:p.refs.getD k 0=r:=by rw[List.getD_eq_getElem?_getD,hr];rfl
          rw[hur] at ht hfn;rw[hrd] at ht hfn;obtain⟨hr0,hr1⟩:=Ou.out r (List.mem_of_getElem? hr);have htb:=Sv.out r u.ws hr0 hr1 ht;obtain⟨hpl,hml,c0,c1,c2,c3,c4,m0,m2,m3,m4⟩:=HC.out _ WQ.out;obtain⟨rb,hrb,NV,d0⟩:=(sM.out _ WQ.out).dV (c:=rc) hr;rw[hrb] at c2;unfold rc at d0;have K5:=Lib.hid htb;have HHR:=Lib.hid hr;have WR:=Lib.hid hu;have HFN:=Lib.hid hfn;have WA:=Lib.hid hrb;clear htb hr hu hfn hrb ht hur hrd hlb;go_upto_region 30 with fail
          go_cut [15,16] (fun s1 s2 wx=>∃ (T:Nat) (A:Option Addr) (C:Nat),s1=.pointer (some ⟨T,0,none⟩)∧s2=.bool true∧av wx T 108 #[.int .i64 p.m.n,.slice A u.ws.length C]∧dU wx A u.ws.length C u.ws∧Same wl wx)
          case first =>
           as_aux_lemma =>
           refine Ci (fun _=>False) (.q [0,1,2,3,4,5,6,7,8,9,10,11,12,13,14,15,16,17] (.fork 18 (.q [19,20,21] (.step 22 (.step 23 (.last 24)))) 22 (.step 18 (.q [19,20,21] (.step 23 (.last 24)))))) (by kernel_rfl) (by kernel_rfl) ?_;simp only[Et,pick,List.map_cons,List.map_nil,List.getD_cons_zero,List.getD_cons_succ];have hs:Same wl wl.drew:=(ah.refl _ _).drew;repeat go_big_quiet_step (fail)
           refine wpQuiet_nil ?_;refine⟨?_,?_⟩
           ·refine aa rfl fun K hK=>?_
            go_simp;refine(K5.out _ (WQ.out.trans hs (fun _ _ h=>h))).mono ?_;rintro e wa ⟨A5,C5,rfl,nR,D6,hs5⟩;have hsa:=hs.trans hs5 (fun _ _ h=>h);refine hK _ _ (aY.bz hsa) ?_;clear hK K;have zJ:=Lib.hid hsa;have nU:=Lib.hid nR;clear hsa nR hs5 D6 hs;repeat go_big_quiet_step (fail)
            refine wpQuiet_nil ?_;refine aa rfl fun K hK=>?_
            go_simp;refine hK _ _ (aY.bz (zJ.out.alloc _)) ?_;clear hK K;refine aa rfl fun K hK=>?_
            go_simp;refine hK _ _ (aY.bz (zJ.out.alloc _)) ?_;clear hK K;go_wp2_with fail
            go_meet
            exact⟨wa.heap.size,A5,C5,rfl,rfl,av.new wa _ _,nU.out.ag (S:=fun _=>False) ((ah.refl _ _).alloc _) (fun _ _=>id),zJ.out.alloc _⟩
           ·refine aa rfl fun K hK=>?_
            go_simp;have hT:=(av.new wl 108 #[.int .i64 0,.slice none 0 0]).drew;have hsa:Same wl (wl.alloc (.cells #[.int .i64 0,.slice none 0 0] 108)).drew:=((ah.refl _ _).alloc _).drew;refine hK _ _ (aY.bz hsa) ?_;clear hK K;generalize (wl.alloc (.cells #[.int .i64 0,.slice none 0 0] 108)).drew=wa at hT hsa ⊢;refine aa rfl fun K hK=>?_
            go_simp;refine(K5.out _ (WQ.out.trans hsa (fun _ _ h=>h))).mono ?_;rintro e wb ⟨A5,C5,rfl,nR,D6,hs5⟩;have hsb:=hsa.trans hs5 (fun _ _ h=>h);refine hK _ _ (aY.bz hsb) ?_;clear hK K;have qy:=hT.ag hs5 id;have D8:∀ x,A5=some x→x.block≠wl.heap.size:=fun x hx h=>nR.au qy (by decide) x hx h
            have t0:=qy.cell 0;have t1:=qy.cell 1;have tl:=qy.lt;have u0:=qy.free 0;have u1:=qy.free 1;simp at t0 t1;have l7:=Lib.hid hsb;have nU:=Lib.hid nR;have Ir:=Lib.hid qy;have Tn:=Lib.hid D8;clear hsb nR hs5 D6 hT qy hsa hs D8;repeat go_big_quiet_step (fail)
            refine wpQuiet_nil ?_;refine aa rfl fun K hK=>?_
            go_simp;refine hK _ _ (aY.bz ((l7.out.aj 0 _ (Nat.le_refl _)).aj 1 _ (Nat.le_refl _))) ?_;clear hK K;go_wp2_with fail
            go_meet
            refine⟨wl.heap.size,A5,C5,rfl,rfl,?_,(Own.far (p:=⟨wl.heap.size,0,none⟩) nU.out Tn.out _).far (p:=⟨wl.heap.size,1,none⟩) Tn.out _,(l7.out.aj 0 _ (Nat.le_refl _)).aj 1 _ (Nat.le_refl _)⟩
            have:=(Ir.out.set 0 (.int .i64 p.m.n)).set 1 (.slice A5 u.ws.length C5)
            simpa using this
          case rest =>
           as_aux_lemma =>
           obtain⟨T,A5,C5,rfl,rfl,hT,nR,hs5⟩:=hcut;have nE:=Lib.hid (WQ.out.trans hs5 (fun _ _ h=>h));have HT:=Lib.hid hT;have nU:=Lib.hid nR;clear hpl hml c0 c1 c2 c3 c4 m0 m2 m3 m4 d0 NV hs5 hT nR;obtain⟨hpl,hml,c0,c1,c2,c3,c4,m0,m2,m3,m4⟩:=HC.out _ nE.out;have t0:=HT.out.cell 0;have t1:=HT.out.cell 1;have tl:=HT.out.lt;simp at t0 t1;obtain⟨tb,htb,Kb,y0,y1⟩:=Gb (x9.out _ nE.out).1 (x9.out _ nE.out).2 WR.out;rw[htb] at c3;have hwl:=((x9.out _ nE.out).2 u (List.mem_of_getElem? WR.out)).fm.len;have hsm:=fun w' (hs:Same wc w')=>fQ p.m.n A5 u.ws.length C5 u.ws p.m.n u.A u.ws.length u.C u.ws w' ((nU.out.ag hs (fun _ _=>id)).sl jI) (((x9.out _ (nE.out.trans hs (fun _ _ h=>h))).2 u (List.mem_of_getElem? WR.out)).ok.wl) (by rw[hwl];have:=iO O5.out;omega)
           have esm:sm p.m.n p.m.n u.ws u.ws=true:=by unfold sm;simp
           rw[esm] at hsm;have aas:=Lib.hid hsm;have ado:=Lib.hid htb;clear esm hsm hwl htb;go_upto_region 31 with fail
           have hs:Same wc wc.drew:=(ah.refl _ _).drew;refine aG (fun _=>False) [([0,1,2,3,4,5,6,7,8,9,10],11),([12],13)] (by kernel_rfl) (by kernel_rfl) ?_;rw[aB];simp only[pick,List.map_cons,List.map_nil,List.getD_cons_zero,List.getD_cons_succ];repeat go_big_quiet_step (fail)
           refine wpQuiet_nil ?_;refine bF (by rfl) fun K hK=>?_
           go_simp;refine(aas.out _ hs).mono ?_;rintro e wd ⟨rfl,hsd⟩;have yT:=hs.trans hsd (fun _ _ h=>h);refine hK _ _ (aY.bz yT) ?_;clear hK K;have Pj:=Lib.hid (nE.out.trans yT (fun _ _ h=>h));clear hsd yT hs aas HT nU K5 EY;rw[aN];simp only[pick,List.map_cons,List.map_nil,List.getD_cons_zero,List.getD_cons_succ];repeat go_big_quiet_step (fail)
           rw[ax];clear hpl hml c0 c1 c2 c3 c4 m0 m2 m3 m4 t0 t1 tl Kb y0 y1;go_wp2_with (fail)
           go_loopw [17] (fun i wx=>∃ j:Nat,j≤k∧i=.int .i64 j∧Same w5 wx) (fun i _=>k-(intOf i).toNat)
           case atStart=>exact⟨0,Nat.zero_le _,rfl,Pj.out⟩
           case round =>
            as_aux_lemma =>
            obtain⟨j,hj,rfl,hsj⟩:=hrel;have IP:=Lib.hid hsj;clear hsj;by_cases hjk:j<k
            ·have hI5:(j:Int)<(k:Int):=by omega
             have hI6:(j:Int)<(p.ts.length:Int):=by omega
             have hjt:j<p.ts.length:=by omega
             have hls:=HLS.out j;obtain⟨lj,hlj⟩:∃ z,cz (fU p) j=z:=⟨_,rfl⟩;rw[hlj] at hls;have HLJ:=Lib.hid hls;obtain⟨rj,hrj⟩:∃ r,p.refs[j]?=some r:=⟨_,List.getElem?_eq_getElem (by rw[HR.out];exact hjt)⟩;obtain⟨v,hv⟩:∃ u,q'.tt[j]?=some u:=⟨_,List.getElem?_eq_getElem (by have:=congrArg List.length RV.out;rw[List.length_map] at this;omega)⟩;have Qw:p.ts.getD j []=v.ws:=by rw[List.getD_eq_getElem?_getD,← RV.out,List.getElem?_map,hv];rfl
             have aat:p.refs.getD j 0=rj:=by rw[List.getD_eq_getElem?_getD,hrj];rfl
             have hfj:=HFN.out j hjk;rw[Qw,aat,hlj] at hfj;have hwl:=((x9.out _ IP.out).2 u (List.mem_of_getElem? WR.out)).fm.len;have hsm:=fun w' (hs:Same w5 w')=>fQ p.m.n u.A u.ws.length u.C u.ws p.m.n v.A v.ws.length v.C v.ws w' (((x9.out _ hs).2 u (List.mem_of_getElem? WR.out)).ok.wl) (((x9.out _ hs).2 v (List.mem_of_getElem? hv)).ok.wl) (by rw[hwl];have:=iO O5.out;omega)
             have esm:sm p.m.n p.m.n u.ws v.ws=decide (u.ws=v.ws):=by unfold sm;simp
             rw[esm] at hsm;have WE:=Lib.hid Qw;have HFJ:=Lib.hid hfj;have aau:=Lib.hid hsm;have HRJ:=Lib.hid hrj;have HHV:=Lib.hid hv;clear hls hlj hrj hv Qw aat hfj hwl hsm esm;obtain⟨hpl,hml,c0,c1,c2,c3,c4,m0,m2,m3,m4⟩:=HC.out _ IP.out;go_upto_region 36 with fail
             have hs:Same wr wr.drew:=(ah.refl _ _).drew;cases lj with
             | false =>
              refine aG (fun _=>False) [([0,1],2),([3,4,5,6,7,8,9,10,11,12,13,14,15,16,17,19,20,21,22,23,24,25,26,27,28,29,30,31,32,33],18),([34],35)] (by kernel_rfl) (by kernel_rfl) ?_;rw[aB];simp only[pick,List.map_cons,List.map_nil,List.getD_cons_zero,List.getD_cons_succ];repeat go_big_quiet_step (fail)
              refine wpQuiet_nil ?_;refine aa rfl fun K hK=>?_
              go_simp;refine(HLJ.out _ (IP.out.trans hs (fun _ _ h=>h))).mono ?_;rintro e wy ⟨rfl,hsy⟩;have Ep:=hs.trans hsy (fun _ _ h=>h);refine hK _ _ (aY.bz Ep) ?_;clear hK K;have PK:=Lib.hid (IP.out.trans Ep (fun _ _ h=>h));clear hsy Ep hs;rw[aB];simp only[pick,List.map_cons,List.map_nil,List.getD_cons_zero,List.getD_cons_succ];repeat go_big_quiet_step (fail)
              rw[ax];rw[bK];rotate_left
              ·rfl
              rw[aN];simp only[pick,List.map_cons,List.map_nil,List.getD_cons_zero,List.getD_cons_succ,Act.put,List.setIfInBounds_toArray,List.set_cons_succ,List.set_cons_zero];repeat go_big_quiet_step (fail)
              rw[ax];go_wp2;go_roundw
              case rel=>exact⟨j+1,by omega,by go_num,PK.out⟩
              case measure=>simp[intOf] <;> omega
             | true =>
              have hfj:=HFJ.out rfl;obtain⟨bj,hbj⟩:∃ z,decide (u.ws=v.ws)=z:=⟨_,rfl⟩;rw[hbj] at aau hfj;have aav:=Lib.hid hfj;clear hfj hbj;obtain⟨tb2,aaw,Kb,y0,y1⟩:=Gb (x9.out _ IP.out).1 (x9.out _ IP.out).2 WR.out;obtain⟨tb3,K6,_,z0,z1⟩:=Gb (x9.out _ IP.out).1 (x9.out _ IP.out).2 HHV.out;rw[aaw] at K6 c3;injection K6 with K6
              injection K6 with K6
              subst K6;obtain⟨rb2,aax,NV,d0⟩:=(sM.out _ IP.out).dV (c:=rc) HHR.out;obtain⟨rb3,K7,_,d1⟩:=(sM.out _ IP.out).dV (c:=rc) HRJ.out;rw[aax] at K7 c2;injection K7 with K7
              injection K7 with K7
              subst K7;unfold rc at d0 d1;clear aaw aax;refine aG (fun _=>False) [([0,1],2),([3,4,5,6,7,8,9,10,11,12,13,14,15,16,17,19,20,21,22,23,24,25,26,27,28,29,30,31,32,33],18),([34],35)] (by kernel_rfl) (by kernel_rfl) ?_;rw[aB];simp only[pick,List.map_cons,List.map_nil,List.getD_cons_zero,List.getD_cons_succ];repeat go_big_quiet_step (fail)
              refine wpQuiet_nil ?_;refine aa rfl fun K hK=>?_
              go_simp;refine(HLJ.out _ (IP.out.trans hs (fun _ _ h=>h))).mono ?_;rintro e wy ⟨rfl,hsy⟩;have Ep:=hs.trans hsy (fun _ _ h=>h);refine hK _ _ (aY.bz Ep) ?_;clear hK K;have VC:=Lib.hid Ep;have PK:=Lib.hid (IP.out.trans Ep (fun _ _ h=>h));clear hsy Ep hs;rw[aB];simp only[pick,List.map_cons,List.map_nil,List.getD_cons_zero,List.getD_cons_succ];repeat go_big_quiet_step (fail)
              refine wpQuiet_nil ?_;refine bF (by rfl) fun K hK=>?_
              go_simp;refine(aau.out _ PK.out).mono ?_;rintro e wz ⟨rfl,hsz⟩;have iC:=Lib.hid (PK.out.trans hsz (fun _ _ h=>h));refine hK _ _ (aY.bz (VC.out.trans hsz (fun _ _ h=>h))) ?_;clear hK K hsz;by_cases hrr:r=rj
              ·have hb:bj=true:=by rw[aav.out];simpa using hrr
               subst hb;subst hrr;rw[aN];simp only[pick,List.map_cons,List.map_nil,List.getD_cons_zero,List.getD_cons_succ];repeat go_big_quiet_step (fail)
               rw[ax];go_wp2;go_roundw
               case rel=>exact⟨j+1,by omega,by go_num,iC.out⟩
               case measure=>simp[intOf] <;> omega
              ·have hb:bj=false:=by rw[aav.out];simpa using hrr
               subst hb;rw[aN];simp only[pick,List.map_cons,List.map_nil,List.getD_cons_zero,List.getD_cons_succ];repeat go_big_quiet_step (fail)
               rw[ax];go_wp2;go_roundw
               case rel=>exact⟨j+1,by omega,by go_num,iC.out⟩
               case measure=>simp[intOf] <;> omega
            ·obtain rfl:j=k:=by omega
             have hI5:¬ (j:Int)<(j:Int):=by omega
             obtain⟨hpl,hml,c0,c1,c2,c3,c4,m0,m2,m3,m4⟩:=HC.out _ IP.out;go_wp2;go_roundw
             case rel=>exact⟨j+1,by omega,by go_num,IP.out⟩
             case measure=>simp[intOf] <;> omega
        ·obtain rfl:k=p.ts.length:=by omega
         have hI4:¬ ((p.ts.length:Nat):Int)<(p.ts.length:Int):=by omega
         go_wp2;go_ret;obtain⟨q9,h9⟩:=aD.out;exact⟨rfl,⟨q9,h9.same RY.out⟩,HUF.out.trans (Up.bg RY.out)⟩
end
end Go.Proofs.YtiomgckodmecbaaGreat
