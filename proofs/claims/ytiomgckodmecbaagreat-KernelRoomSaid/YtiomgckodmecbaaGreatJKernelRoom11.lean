/- Contracts and plain laws, put together in one file. No condition. -/
import Derived.Test.YtiomgckodmecbaaGreatJKernelRoom10

set_option maxRecDepth 100000
set_option maxHeartbeats 32000000
namespace Go.Proofs.YtiomgckodmecbaaGreat
open Go.RowKit Go.Tk
section
variable {x y:RS} {m i j:Nat} {r s:Int} {g:Fn} {p:Int→Bool}
theorem Ak {refs held:List Int} {r:Int}:∀ (n:Nat),hsum refs held r n≠0→∃ j,j<n∧refs.getD j 0=r∧0<held.getD j 0
 | 0,h=>absurd rfl h
 | n+1,h=>by
  rw[fA] at h;by_cases h1:refs.getD n 0=r∧0<held.getD n 0
  ·exact⟨n,by omega,h1⟩
  ·have:hsum refs held r n≠0:=fun e=>h (by
    rw[e];unfold ps;by_cases h2:refs.getD n 0=r
    ·rw[if_pos h2,if_neg (fun h3=>h1 ⟨h2,h3⟩)];rfl
    ·rw[if_neg h2];rfl)
   obtain⟨j,a,b⟩:=Ak n this;exact⟨j,by omega,b⟩
theorem yY {refs refs' held:List Int} {r r':Int}:∀ (n:Nat),(∀ j,j<n→0<held.getD j 0→(refs.getD j 0=r↔refs'.getD j 0=r'))→hsum refs held r n=hsum refs' held r' n
 | 0,_=>rfl
 | n+1,h=>by
  rw[fA,fA,yY n (fun j hj=>h j (by omega))];by_cases h0:0<held.getD n 0
  ·have:=h n (by omega) h0
   by_cases h1:refs.getD n 0=r
   ·rw[if_pos h1,if_pos (this.1 h1)]
   ·rw[if_neg h1,if_neg (fun e=>h1 (this.2 e))]
  ·have:ps (held.getD n 0)=0:=if_neg h0
   rw[this];simp
structure Rm (x y:RS):Prop where
 n:y.k.n=x.k.n
 ord:y.k.ord=x.k.ord
 bH:y.k.bH=x.k.bH
 rl:y.refs.length=x.refs.length
 hd:y.held=x.held
 two:∀ i,y.refs.getD i 0<2↔x.refs.getD i 0<2
 sm:∀ i,(x.refs.getD i 0<2∨0<x.held.getD i 0)→∀ p,sem y.k.L (y.refs.getD i 0) p=sem x.k.L (x.refs.getD i 0) p
 sub:∀ e∈y.k.L,e.2∈y.refs
theorem Rm.has (R:Rm x y) (i:Int):hasB y i=hasB x i:=by
 unfold hasB;rw[R.rl,R.hd];congr 1;simp only[R.two]
theorem lZ (K:KI x.k) (h:XI m x) (hi:i<x.refs.length) (ho:x.refs.getD i 0<2∨0<x.held.getD i 0):Lf x.k (x.refs.getD i 0):=by
 have h0:=h.at i;by_cases h2:x.refs.getD i 0<2
 ·have:x.refs.getD i 0=0∨x.refs.getD i 0=1:=by omega
  rcases this with e | e
  ·rw[e];exact Lf.zero K
  ·rw[e];exact Lf.one K
 ·have hp:=ho.resolve_left h2;have h3:=qF (refs:=x.refs) (held:=x.held) hi rfl hp;rw[h.hh _ (by omega)] at h3;have h4:=h.cat i;exact rP K h0.1 (by omega)
theorem Al {i:Int} (h:hasB x i=true):∃ m:Nat,i=m∧m<x.refs.length∧(x.refs.getD m 0<2∨0<x.held.getD m 0):=by
 obtain⟨m,rfl,hm⟩:=iA h;refine⟨m,rfl,hm,?_⟩;unfold hasB at h;rw[Int.toNat_natCast] at h;simp only[Bool.and_eq_true,Bool.or_eq_true,decide_eq_true_eq] at h;exact h.2.symm
theorem Rm.G8 (R:Rm x y) (Ky:KI y.k) (Y:XI m y) (hi:i<x.refs.length) (ho:x.refs.getD i 0<2∨0<x.held.getD i 0):Lf y.k (y.refs.getD i 0) :=
 lZ Ky Y (by rw[R.rl];exact hi) (by rw[R.two,R.hd];exact ho)
theorem wQ {k k':KS} (K:KI k) (K':KI k') {r q:Int} (h:Lf k r) (h':Lf k' q) (hs:∀ p,sem k'.L q p=sem k.L r p):(r=0→q=0)∧(r=1→q=1)∧(q<2↔r<2):=by
 have a0:r=0→q=0:=fun e=>canon K' h' (Lf.zero K') (fun p=>by rw[hs,e,ja K,ja K'])
 have a1:r=1→q=1:=fun e=>canon K' h' (Lf.one K') (fun p=>by rw[hs,e,oG K,oG K'])
 have b0:q=0→r=0:=fun e=>canon K h (Lf.zero K) (fun p=>by rw[← hs,e,ja K,ja K'])
 have b1:q=1→r=1:=fun e=>canon K h (Lf.one K) (fun p=>by rw[← hs,e,oG K,oG K'])
 refine⟨a0,a1,?_⟩
 have:=h.h0
 have:=h'.h0
 constructor
 ·intro hq
  have:q=0∨q=1:=by omega
  rcases this with e | e
  ·have:=b0 e;omega
  ·have:=b1 e;omega
 ·intro hq
  have:r=0∨r=1:=by omega
  rcases this with e | e
  ·have:=a0 e;omega
  ·have:=a1 e;omega
theorem Rm.J9 (R:Rm x y) (K:KI x.k) (Ky:KI y.k) (X:XI m x) (Y:XI m y) {r q:Int} (h:Lf x.k r) (h':Lf y.k q) (hs:∀ p,sem y.k.L q p=sem x.k.L r p) (h2:2≤r) :
  y.k.hs.getD q.toNat 0=x.k.hs.getD r.toNat 0:=by
 have h2y:2≤q:=by have:=(wQ K Ky h h' hs).2.2;omega
 rw[← X.hh _ h2,← Y.hh _ h2y,R.rl,R.hd];refine(yY _ (fun j hj h0=>?_)).symm;exact⟨fun e=>canon Ky (R.G8 Ky Y hj (.inr h0)) h' (fun p=>by rw[R.sm j (.inr h0),hs,e]),fun e=>canon K (lZ K X hj (.inr h0)) h (fun p=>by rw[← R.sm j (.inr h0),← hs,e])⟩
theorem Rm.hs (R:Rm x y) (K:KI x.k) (Ky:KI y.k) (X:XI m x) (Y:XI m y) (hi:i<x.refs.length) (ho:x.refs.getD i 0<2∨0<x.held.getD i 0) (h2:2≤x.refs.getD i 0) :
  y.k.hs.getD (y.refs.getD i 0).toNat 0=x.k.hs.getD (x.refs.getD i 0).toNat 0 :=
 R.J9 K Ky X Y (lZ K X hi ho) (R.G8 Ky Y hi ho) (R.sm i ho) h2
theorem Rm.hf (R:Rm x y) (K:KI x.k) (Ky:KI y.k) (X:XI m x) (Y:XI m y) (g:Fn):HF y.k g↔HF x.k g:=by
 have two:∀ {k:KS},KI k→∀ {r:Int},0≤r→k.hs.getD r.toNat 0≠0→2≤r:=fun {k} K {r} r0 hr=>by
  obtain⟨n,hn⟩:=jL K.bk r0 hr;rw[List.append_nil] at hn;exact(K.mem' hn).1
 constructor
 ·rintro⟨r,r0,hr,rfl⟩;have r2:=two Ky r0 hr;have h1:=hr;rw[← Y.hh r r2] at h1;obtain⟨j,hj,e,h0⟩:=Ak _ h1;rw[R.rl] at hj;rw[R.hd] at h0;have hx2:2≤x.refs.getD j 0:=by have:=R.two j;omega
  refine⟨x.refs.getD j 0,by omega,?_,?_⟩
  ·rw[← R.hs K Ky X Y hj (.inr h0) hx2,e];exact hr
  ·funext p;rw[← R.sm j (.inr h0),e]
 ·rintro⟨r,r0,hr,rfl⟩;have r2:=two K r0 hr;have h1:=hr;rw[← X.hh r r2] at h1;obtain⟨j,hj,e,h0⟩:=Ak _ h1;have hy2:2≤y.refs.getD j 0:=by have:=R.two j;omega
  refine⟨y.refs.getD j 0,by omega,?_,?_⟩
  ·rw[R.hs K Ky X Y hj (.inr h0) (by omega),e];exact hr
  ·funext p;rw[R.sm j (.inr h0),e]
theorem Rm.live (R:Rm x y) (K:KI x.k) (Ky:KI y.k) (X:XI m x) (Y:XI m y):y.k.L.length=x.k.L.length∧y.k.ac=x.k.ac :=
 I4 K Ky R.n R.ord (R.hf K Ky X Y)
theorem Rm.few (R:Rm x y) (Ky:KI y.k) (Y:XI m y):y.k.ac≤62:=by
 have h1:=Ky.bk.rn;rw[List.append_nil] at h1;have h2:=Ky.bk.cnt;rw[List.append_nil] at h2
 have h3:=gm h1 (m:=y.refs) (fun r hr=>by
  obtain⟨e,he,rfl⟩:=List.mem_map.1 hr
  exact R.sub e he)
 rw[List.length_map] at h3
 have:=Y.rl
 omega
theorem G9 {k:KS} {r:Int} (h:tk k.ls r=true):(aP k r).1=if 1<r then (if k.hs.getD r.toNat 0=65535 then 8 else 0) else 0:=by
 unfold aP;rw[if_neg (by rw[h];simp)];split
 ·split <;> rfl
 ·rfl
theorem Rm.Rt (R:Rm x y) (K:KI x.k) (Ky:KI y.k) (X:XI m x) (Y:XI m y) {r q:Int} (h:Lf x.k r) (h':Lf y.k q) (hs:∀ p,sem y.k.L q p=sem x.k.L r p):(aP y.k q).1=(aP x.k r).1:=by
 have h2:=(wQ K Ky h h' hs).2.2;rw[G9 h.h1,G9 h'.h1];by_cases h3:2≤r
 ·rw[R.J9 K Ky X Y h h' hs h3,if_pos (show 1<q by omega),if_pos (show 1<r by omega)]
 ·rw[if_neg (show ¬ 1<q by omega),if_neg (show ¬ 1<r by omega)]
inductive Both (x y:RS) (n m:Nd):Prop
 | bad:(ay x.k n).2.1=(ay y.k m).2.1→(ay y.k m).2.1≠0→(ay y.k m).2.1≠9→(ay x.k n).2.2=x.k→(ay y.k m).2.2=y.k→Both x y n m
 | old:(ay x.k n).2.1=0→(ay y.k m).2.1=0→(ay x.k n).2.2.ac=x.k.ac→(ay y.k m).2.2.ac=y.k.ac→Both x y n m
 | new:x.k.ac+1≤x.k.c→(ay x.k n).2.1=0→(ay y.k m).2.1=0→(ay x.k n).2.2.ac=x.k.ac+1→(ay y.k m).2.2.ac=y.k.ac+1→Both x y n m
 | full:¬ x.k.ac+1≤x.k.c→(ay x.k n).2.1=9→(ay y.k m).2.1=0→(ay x.k n).2.2=x.k→(ay y.k m).2.2.ac=y.k.ac+1→eD y.k m=none→Both x y n m
theorem wR {k:KS} (K:KI k) {n:Nd} (l0:0≤n.lo) (h0:0≤n.hi) {r:Int} (hf:eD k n=some r):(ay k n).2.1=(aP k r).1∧((aP k r).1=0→ay k n=(r,0,(aP k r).2))∧((aP k r).1≠0→(ay k n).2.2=k):=by
 rcases kP K n l0 h0 with⟨e,h,h1⟩ | ⟨s,h,⟨hk,e⟩ | ⟨he,e⟩⟩ | ⟨h,_⟩ | ⟨h,_⟩
 ·rw[h1] at hf;cases hf
 ·rw[h] at hf;injection hf with hf
  subst hf;rw[e];exact⟨hk.symm,fun _=>rfl,fun h=>absurd hk h⟩
 ·rw[h] at hf;injection hf with hf
  subst hf;rw[e];exact⟨rfl,fun h=>absurd h he,fun _=>rfl⟩
 ·rw[h] at hf;cases hf
 ·rw[h] at hf;cases hf
theorem su {k:KS} (K:KI k) {n:Nd} (l0:0≤n.lo) (h0:0≤n.hi) (hf:eD k n=none) :
  (di k n≠0∧(ay k n).2.1=di k n∧(ay k n).2.2=k)∨(di k n=0∧k.ac+1≤k.c∧(ay k n).2.1=0∧(ay k n).2.2.ac=k.ac+1∧(ay k n).2.2.L=k.L++[(n,(ay k n).1)])∨(di k n=0∧¬ k.ac+1≤k.c∧(ay k n).2.1=9∧(ay k n).2.2=k):=by
 rcases kP K n l0 h0 with⟨e,h,h1⟩ | ⟨s,h,_⟩ | ⟨_,hfit,hs,hc,e⟩ | ⟨_,e⟩
 ·rw[e];exact .inl ⟨h,rfl,rfl⟩
 ·rw[h] at hf;cases hf
 ·have hE:(ay k n).2.1=0:=by rw[e]
  obtain⟨_,_,_,_,_,_,_,_,_,hL⟩:=nk K l0 h0 hE;rcases hL with⟨_,_,h⟩ | ⟨h1,h2,_⟩
  ·rw[h] at hf;cases hf
  ·exact .inr (.inl ⟨hfit,hc,hE,h2,h1⟩)
 ·have hfit:di k n=0∨di k n≠0:=by omega
  rcases hfit with hfit | hfit
  ·refine .inr (.inr ⟨hfit,?_,by rw[e],by rw[e]⟩);intro hc;have e':=e;unfold ay at e';rw[if_pos hfit] at e';unfold eD at hf;rw[if_pos hfit] at hf;rw[hf] at e';have e2:mM k n none=bI (aH k n) (au k):=by show(if k.ac+1≤k.c then _ else _)=_;rw[if_pos hc]
   rw[e2] at e';have hn:=jY hfit l0 h0
   have:(bI (aH k n) (au k)).2.1=0:=by unfold bI;rw[oZ K hn hf hc,if_pos rfl]
   rw[e'] at this;cases this
  ·have e':=e;unfold ay at e';rw[if_neg hfit] at e'
   have:di k n=9:=congrArg (fun t=>t.2.1) e'
   unfold di at this;split at this
   ·cases this
   ·split at this
    ·cases this
    ·split at this
     ·cases this
     ·cases this
theorem Uq {k:KS} {n:Nd}:di k n≠9:=by
 intro this;unfold di at this;split at this
 ·cases this
 ·split at this
  ·cases this
  ·split at this
   ·cases this
   ·cases this
theorem Rm.make (R:Rm x y) (K:KI x.k) (Ky:KI y.k) (X:XI m x) (Y:XI m y) (hc:y.k.ac+1≤y.k.c) (v:Int) (hi:i<x.refs.length) (hoi:x.refs.getD i 0<2∨0<x.held.getD i 0) (hj:j<x.refs.length) (hoj:x.refs.getD j 0<2∨0<x.held.getD j 0) :
  Both x y ⟨v,x.refs.getD i 0,x.refs.getD j 0⟩ ⟨v,y.refs.getD i 0,y.refs.getD j 0⟩:=by
 have a:=lZ K X hi hoi;have b:=lZ K X hj hoj;have a':=R.G8 Ky Y hi hoi;have b':=R.G8 Ky Y hj hoj;obtain⟨f1,f2⟩:=qG (n:=⟨v,x.refs.getD i 0,x.refs.getD j 0⟩) (m:=⟨v,y.refs.getD i 0,y.refs.getD j 0⟩) K Ky R.n R.ord R.bH (R.hf K Ky X Y) rfl a a' (R.sm i hoi) b b' (R.sm j hoj);obtain⟨_,g2⟩:=qG (n:=⟨v,y.refs.getD i 0,y.refs.getD j 0⟩) (m:=⟨v,x.refs.getD i 0,x.refs.getD j 0⟩) Ky K R.n.symm R.ord.symm R.bH.symm (fun g=>(R.hf K Ky X Y g).symm) rfl a' a (fun p=>(R.sm i hoi p).symm) b' b (fun p=>(R.sm j hoj p).symm);cases hf:eD x.k ⟨v,x.refs.getD i 0,x.refs.getD j 0⟩ with
 | some r =>
  obtain⟨q,hq,hs⟩:=f2 r hf;obtain⟨e1,e2,e3⟩:=wR K (n:=⟨v,x.refs.getD i 0,x.refs.getD j 0⟩) a.h0 b.h0 hf;obtain⟨e4,e5,e6⟩:=wR Ky (n:=⟨v,y.refs.getD i 0,y.refs.getD j 0⟩) a'.h0 b'.h0 hq;have hk:=R.Rt K Ky X Y (r9 K a.h0 b.h0 hf).1 (r9 Ky a'.h0 b'.h0 hq).1 hs;by_cases hE:(aP x.k r).1=0
  ·have hE':=hk.trans hE;refine .old (e1.trans hE) (e4.trans hE') ?_ ?_
   ·rw[e2 hE];exact(lQ (k:=x.k) (r:=r)).2.2.2.2
   ·rw[e5 hE'];exact(lQ (k:=y.k) (r:=q)).2.2.2.2
  ·have hE':(aP y.k q).1≠0:=by rw[hk];exact hE
   refine .bad (by rw[e1,e4,hk]) (by rw[e4];exact hE') ?_ (e3 hE) (e6 hE')
   have:=(rZ hE').2
   rw[e4];omega
 | none =>
  have hq:eD y.k ⟨v,y.refs.getD i 0,y.refs.getD j 0⟩=none:=by
   cases hq:eD y.k ⟨v,y.refs.getD i 0,y.refs.getD j 0⟩ with
   | none=>rfl
   | some q =>
    obtain⟨r,hr,_⟩:=g2 q hq;rw[hf] at hr;cases hr
  rcases su Ky (n:=⟨v,y.refs.getD i 0,y.refs.getD j 0⟩) a'.h0 b'.h0 hq with⟨y1,y2,y3⟩ | ⟨y1,_,y2,y3,_⟩ | ⟨_,y1,_⟩
  ·rcases su K (n:=⟨v,x.refs.getD i 0,x.refs.getD j 0⟩) a.h0 b.h0 hf with⟨x1,x2,x3⟩ | ⟨x1,_⟩ | ⟨x1,_⟩
   ·exact .bad (by rw[x2,y2,f1]) (by rw[y2];exact y1) (by rw[y2];exact Uq) x3 y3
   ·rw[f1] at y1;exact absurd x1 y1
   ·rw[f1] at y1;exact absurd x1 y1
  ·rcases su K (n:=⟨v,x.refs.getD i 0,x.refs.getD j 0⟩) a.h0 b.h0 hf with⟨x1,_⟩ | ⟨_,x1,x2,x3,_⟩ | ⟨_,x1,x2,x3⟩
   ·rw[f1] at y1;exact absurd y1 x1
   ·exact .new x1 x2 y2 x3 y3
   ·exact .full x1 x2 y2 x3 y3 hq
  ·exact absurd hc y1
end
section
variable {k k':KS} {n m:Nd} {r q s:Int} {p:Int→Bool} {b b':Bool} {l x y i:Nat} {g:Fn} {H H':Fn→Prop} {ord ord':List Int}
structure YX (k k':KS):Prop where
 n:k'.n=k.n
 c:k'.c=k.c
 hs:∀ m,k'.hs.getD m 0=k.hs.getD m 0
 sem:∀ r,0≤r→(r≤1∨k.hs.getD r.toNat 0≠0)→∀ p,sem k'.L r p=sem k.L r p
theorem YX.symm {k1 k2:KS} (h:YX k1 k2):YX k2 k1 :=
 ⟨h.n.symm,h.c.symm,fun m=>(h.hs m).symm,fun r r0 hr p=>(h.sem r r0 (hr.imp id (fun hr=>by rw[← h.hs];exact hr)) p).symm⟩
theorem YX.hf (h:YX k k') (g:Fn):HF k' g↔HF k g:=by
 constructor
 ·rintro⟨r,r0,hr,rfl⟩;rw[h.hs] at hr;exact⟨r,r0,hr,funext fun p=>h.sem r r0 (.inr hr) p⟩
 ·rintro⟨r,r0,hr,rfl⟩;exact⟨r,r0,by rw[h.hs];exact hr,funext fun p=>(h.sem r r0 (.inr hr) p).symm⟩
end
section
variable {w w':World} {B:Nat→Prop} {kp:Nat} {k:KS}
end
section
variable {w w':World} {B:Nat→Prop} {xb:Nat} {x:RS} {q:RA} {pl:List Nat}
end
section
variable {x x':RS} {m:Nat} {pl:List Nat} {k k':KS}
end
section
variable {x y:RS} {m i j:Nat} {r s:Int} {g:Fn} {p:Int→Bool}
theorem kR {l:List Int} {a:Int} {i:Nat}:(l++[a]).getD i 0=if i=l.length then a else l.getD i 0:=by
 rw[List.getD_eq_getElem?_getD,List.getD_eq_getElem?_getD,List.getElem?_append];by_cases h:i<l.length
 ·rw[if_pos h,if_neg (by omega)]
 ·rw[if_neg h];by_cases h2:i=l.length
  ·subst h2;simp
  ·rw[if_neg h2,List.getElem?_eq_none (by simp <;> omega),List.getElem?_eq_none (by omega)]
theorem Rm.made (R:Rm x y) (K:KI x.k) (Ky:KI y.k) (X:XI m x) (Y:XI m y) {v:Int} (hi:i<x.refs.length) (hoi:x.refs.getD i 0<2∨0<x.held.getD i 0) (hj:j<x.refs.length) (hoj:x.refs.getD j 0<2∨0<x.held.getD j 0)
  (hE:(ay x.k ⟨v,x.refs.getD i 0,x.refs.getD j 0⟩).2.1=0) (hF:(ay y.k ⟨v,y.refs.getD i 0,y.refs.getD j 0⟩).2.1=0) :
  Rm ⟨(ay x.k ⟨v,x.refs.getD i 0,x.refs.getD j 0⟩).2.2,x.refs++[(ay x.k ⟨v,x.refs.getD i 0,x.refs.getD j 0⟩).1],x.held++[1]⟩
   ⟨(ay y.k ⟨v,y.refs.getD i 0,y.refs.getD j 0⟩).2.2,y.refs++[(ay y.k ⟨v,y.refs.getD i 0,y.refs.getD j 0⟩).1],y.held++[1]⟩:=by
 have a:=lZ K X hi hoi;have b:=lZ K X hj hoj;have a':=R.G8 Ky Y hi hoi;have b':=R.G8 Ky Y hj hoj;have M:=nk (n:=⟨v,x.refs.getD i 0,x.refs.getD j 0⟩) K a.h0 b.h0 hE;have M':=nk (n:=⟨v,y.refs.getD i 0,y.refs.getD j 0⟩) Ky a'.h0 b'.h0 hF;obtain⟨qx,hqx⟩:∃ z,(ay x.k ⟨v,x.refs.getD i 0,x.refs.getD j 0⟩).1=z:=⟨_,rfl⟩;obtain⟨qy,Ur⟩:∃ z,(ay y.k ⟨v,y.refs.getD i 0,y.refs.getD j 0⟩).1=z:=⟨_,rfl⟩;obtain⟨kx,hkx⟩:∃ z,(ay x.k ⟨v,x.refs.getD i 0,x.refs.getD j 0⟩).2.2=z:=⟨_,rfl⟩;obtain⟨ky,KM⟩:∃ z,(ay y.k ⟨v,y.refs.getD i 0,y.refs.getD j 0⟩).2.2=z:=⟨_,rfl⟩;rw[hqx,hkx] at M;rw[Ur,KM] at M';rw[hqx,Ur,hkx,KM];have J9:∀ p,sem ky.L qy p=sem kx.L qx p:=fun p=>by
  rw[M.sq,M'.sq];simp only;rw[R.sm i hoi,R.sm j hoj]
 have abJ:=(wQ M.ki M'.ki M.ql M'.ql J9).2.2;refine⟨by show ky.n=kx.n;rw[M.vn,M'.vn,R.n],by show ky.ord=kx.ord;rw[M.ord,M'.ord,R.ord],by show ky.bH=kx.bH;rw[M.bH,M'.bH,R.bH],by simp[R.rl],by show y.held++[1]=x.held++[1];rw[R.hd],?_,?_,?_⟩
 ·intro t;show(y.refs++[qy]).getD t 0<2↔(x.refs++[qx]).getD t 0<2;rw[kR,kR,R.rl];by_cases h:t=x.refs.length
  ·rw[if_pos h,if_pos h];exact abJ
  ·rw[if_neg h,if_neg h];exact R.two t
 ·intro t ht p;show sem ky.L ((y.refs++[qy]).getD t 0) p=sem kx.L ((x.refs++[qx]).getD t 0) p;replace ht:(x.refs++[qx]).getD t 0<2∨0<(x.held++[1]).getD t 0:=ht;rw[kR] at ht;rw[kR,kR,R.rl];by_cases h:t=x.refs.length
  ·rw[if_pos h,if_pos h];exact J9 p
  ·rw[if_neg h] at ht;rw[if_neg h,if_neg h];rw[kR,X.hl,if_neg h] at ht;by_cases htl:t<x.refs.length
   ·rw[M'.sm _ (R.G8 Ky Y htl ht),M.sm _ (lZ K X htl ht),R.sm t ht]
   ·have e1:x.refs.getD t 0=0:=by rw[List.getD_eq_getElem?_getD,List.getElem?_eq_none (by omega)];rfl
    have e2:y.refs.getD t 0=0:=by rw[List.getD_eq_getElem?_getD,List.getElem?_eq_none (by rw[R.rl];omega)];rfl
    rw[e1,e2,ja M.ki,ja M'.ki]
 ·intro e he;show e.2∈y.refs++[qy];rcases M'.L with⟨h1,_⟩ | ⟨h1,_⟩
  ·rw[h1] at he;exact List.mem_append_left _ (R.sub e he)
  ·rw[h1] at he;rcases List.mem_append.1 he with he | he
   ·exact List.mem_append_left _ (R.sub e he)
   ·simp at he;rw[he];simp
theorem Rm.Us (R:Rm x y) (K:KI x.k) (Ky:KI y.k) (Y:XI m y) {v:Int} (hi:i<x.refs.length) (hoi:x.refs.getD i 0<2∨0<x.held.getD i 0) (hj:j<x.refs.length) (hoj:x.refs.getD j 0<2∨0<x.held.getD j 0)
  (hF:(ay y.k ⟨v,y.refs.getD i 0,y.refs.getD j 0⟩).2.1=0) (hn:eD y.k ⟨v,y.refs.getD i 0,y.refs.getD j 0⟩=none) :
  2≤(ay y.k ⟨v,y.refs.getD i 0,y.refs.getD j 0⟩).1∧(aD (ay y.k ⟨v,y.refs.getD i 0,y.refs.getD j 0⟩).2.2 (ay y.k ⟨v,y.refs.getD i 0,y.refs.getD j 0⟩).1).1=0∧
  Rm x ⟨(aD (ay y.k ⟨v,y.refs.getD i 0,y.refs.getD j 0⟩).2.2 (ay y.k ⟨v,y.refs.getD i 0,y.refs.getD j 0⟩).1).2,y.refs,y.held⟩∧
  KI (aD (ay y.k ⟨v,y.refs.getD i 0,y.refs.getD j 0⟩).2.2 (ay y.k ⟨v,y.refs.getD i 0,y.refs.getD j 0⟩).1).2∧
  XI m ⟨(aD (ay y.k ⟨v,y.refs.getD i 0,y.refs.getD j 0⟩).2.2 (ay y.k ⟨v,y.refs.getD i 0,y.refs.getD j 0⟩).1).2,y.refs,y.held⟩:=by
 have a':=R.G8 Ky Y hi hoi;have b':=R.G8 Ky Y hj hoj;have held:∀ t,t<x.refs.length→(x.refs.getD t 0<2∨0<x.held.getD t 0)→y.refs.getD t 0≤1∨y.k.hs.getD (y.refs.getD t 0).toNat 0≠0:=fun t ht ho=>by
  rw[← R.two t,← R.hd] at ho;by_cases h2:y.refs.getD t 0<2
  ·exact .inl (by omega)
  ·right;have hp:=ho.resolve_left h2;have h3:=qF (refs:=y.refs) (held:=y.held) (n:=y.refs.length) (by rw[R.rl];exact ht) rfl hp;rw[Y.hh _ (by omega)] at h3;have h4:=Y.cat t;omega
 have M:=nk (n:=⟨v,y.refs.getD i 0,y.refs.getD j 0⟩) Ky a'.h0 b'.h0 hF;obtain⟨u1,u2,u3,u4,u5⟩:=CZ Ky ⟨v,y.refs.getD i 0,y.refs.getD j 0⟩ a'.h0 b'.h0 hF hn (held i hi hoi) (held j hj hoj);have hmh:=fun s (hs:2≤s)=>(wM (s:=s) Ky ⟨v,y.refs.getD i 0,y.refs.getD j 0⟩ a'.h0 (Y.at i).2 hs).1
 rw[hF] at hmh;obtain⟨qy,Ur⟩:∃ z,(ay y.k ⟨v,y.refs.getD i 0,y.refs.getD j 0⟩).1=z:=⟨_,rfl⟩;obtain⟨ky,KM⟩:∃ z,(ay y.k ⟨v,y.refs.getD i 0,y.refs.getD j 0⟩).2.2=z:=⟨_,rfl⟩;rw[Ur,KM] at M u3 u4 u5;rw[Ur] at u1;rw[KM] at u2;simp only[Ur,KM] at hmh;rw[Ur,KM];have WX:=fun s (hs:2≤s)=>CV (k:=ky) (r:=qy) (s:=s) (by omega) hs
 rw[u3] at WX;have pW:∀ s:Int,2≤s→(aD ky qy).2.hs.getD s.toNat 0=y.k.hs.getD s.toNat 0:=fun s hs=>by
  rw[WX s hs,hmh s hs];simp
 have K2:=lH M.ki (r:=qy) (by omega);have hst:=jP ky qy;have hks:=kQ (k:=ky) (r:=qy);have hL:∀ e∈(aD ky qy).2.L,e∈y.k.L:=fun e he=>by
  have h1:=Ai M.ki (r:=qy) (by omega) e he;rcases M.L with⟨h2,_⟩ | ⟨h2,_,_,_⟩
  ·rw[← h2];exact h1
  ·rw[h2] at h1;rcases List.mem_append.1 h1 with h1 | h1
   ·exact h1
   ·exfalso;have h1:=List.mem_singleton.1 h1
    have:=Np K2 (n:=⟨v,y.refs.getD i 0,y.refs.getD j 0⟩) (r:=qy) (by rw[← h1];exact he)
    rw[u4] at this;cases this
 have hlf:∀ t,t<x.refs.length→(x.refs.getD t 0<2∨0<x.held.getD t 0)→Lf (aD ky qy).2 (y.refs.getD t 0):=fun t ht ho=>by
  rcases held t ht ho with h1 | h1
  ·have h0:=(Y.at t).1
   have:y.refs.getD t 0=0∨y.refs.getD t 0=1:=by omega
   rcases this with e | e
   ·rw[e];exact Lf.zero K2
   ·rw[e];exact Lf.one K2
  ·by_cases h2:2≤y.refs.getD t 0
   ·exact rP K2 (by omega) (by rw[pW _ h2];exact h1)
   ·have h0:=(Y.at t).1
    have:y.refs.getD t 0=0∨y.refs.getD t 0=1:=by omega
    rcases this with e | e
    ·rw[e];exact Lf.zero K2
    ·rw[e];exact Lf.one K2
 refine⟨u1,u3,⟨?_,?_,?_,R.rl,R.hd,R.two,?_,fun e he=>R.sub e (hL e he)⟩,K2,Y.hl,Y.rl,Y.rg,Y.cb,?_,?_,?_⟩
 ·show(aD ky qy).2.n=_;rw[hst.1,M.vn,R.n]
 ·show(aD ky qy).2.ord=_;rw[hks.1,M.ord,R.ord]
 ·show(aD ky qy).2.bH=_;rw[hks.2,M.bH,R.bH]
 ·intro t ht p;show sem (aD ky qy).2.L (y.refs.getD t 0) p=_;by_cases htl:t<x.refs.length
  ·rw[← R.sm t ht];exact zM Ky K2 hL (R.G8 Ky Y htl ht) (hlf t htl ht)
  ·have e1:x.refs.getD t 0=0:=by rw[List.getD_eq_getElem?_getD,List.getElem?_eq_none (by omega)];rfl
   have e2:y.refs.getD t 0=0:=by rw[List.getD_eq_getElem?_getD,List.getElem?_eq_none (by rw[R.rl];omega)];rfl
   rw[e1,e2,ja K,ja K2]
 ·intro s hs;show hsum y.refs y.held s y.refs.length=(aD ky qy).2.hs.getD s.toNat 0;rw[pW s hs];exact Y.hh s hs
 ·show(aD ky qy).2.tr.length≤m
  have:(aD ky qy).2.tr=[]:=by
   have h3:¬ (aD ky qy).1=3:=by rw[u3];decide
   unfold aD at h3 ⊢;split
   ·rename_i h1;rw[if_pos h1] at h3;split
    ·rename_i h2;rw[if_pos h2] at h3;exact absurd rfl h3
    ·rfl
   ·rfl
  rw[this];exact Nat.zero_le _
 ·intro l hl;replace hl:l∈(aD ky qy).2.tr:=hl
  have:(aD ky qy).2.tr=[]:=by
   have h3:¬ (aD ky qy).1=3:=by rw[u3];decide
   unfold aD at h3 ⊢;split
   ·rename_i h1;rw[if_pos h1] at h3;split
    ·rename_i h2;rw[if_pos h2] at h3;exact absurd rfl h3
    ·rfl
   ·rfl
  rw[this] at hl;cases hl
theorem Df {l:List Int} {a:Nat} {c:Int} (t:Nat) (h:0<(l.set a c).getD t 0):(t=a∧0<c∧a<l.length)∨(t≠a∧0<l.getD t 0):=by
 rw[List.getD_eq_getElem?_getD,List.getElem?_set] at h;by_cases ht:a=t
 ·rw[if_pos ht] at h;by_cases hl:a<l.length
  ·rw[if_pos hl] at h;exact .inl ⟨ht.symm,h,hl⟩
  ·rw[if_neg hl] at h;exact absurd h (by decide)
 ·rw[if_neg ht] at h;exact .inr ⟨fun e=>ht e.symm,by rw[List.getD_eq_getElem?_getD];exact h⟩
theorem Rm.kept (R:Rm x y) (K:KI x.k) (Ky:KI y.k) (X:XI m x) (Y:XI m y) (a:Int):(fF y a).2=(fF x a).2∧Rm (fF x a).1 (fF y a).1:=by
 unfold fF;rw[R.has];by_cases hh:hasB x a=true
 ·obtain⟨i,rfl,hi,ho⟩:=Al hh;rw[if_pos hh,if_pos hh,Int.toNat_natCast];have l1:=lZ K X hi ho;have l2:=R.G8 Ky Y hi ho;have hk:=R.Rt K Ky X Y l1 l2 (R.sm i ho);obtain⟨_,b1,b2,b3,b4,b5⟩:=C9 K l1.h0;obtain⟨_,c1,c2,c3,c4,c5⟩:=C9 Ky l2.h0;have n1:=(iO x.k (x.refs.getD i 0)).1;have n2:=(iO y.k (y.refs.getD i 0)).1;have base:∀ (hx hy:List Int),hy=hx→(∀ t,0<hx.getD t 0→x.refs.getD t 0<2∨0<x.held.getD t 0)→Rm ⟨(aP x.k (x.refs.getD i 0)).2,x.refs,hx⟩ ⟨(aP y.k (y.refs.getD i 0)).2,y.refs,hy⟩:=fun hx hy he hsub =>
   ⟨by show _=_;rw[n1,n2,R.n],by show _=_;rw[b2,c2,R.ord],by show _=_;rw[b3,c3,R.bH],R.rl,he,R.two,fun t ht p=>by
    show sem (aP y.k (y.refs.getD i 0)).2.L _ p=sem (aP x.k (x.refs.getD i 0)).2.L _ p;rw[b1,c1]
    exact R.sm t (ht.elim .inl (hsub t)) p,fun e he=>R.sub e (by rw[← c5];exact he)⟩
  by_cases hE:(aP x.k (x.refs.getD i 0)).1=0
  ·rw[if_pos hE,if_pos (hk.trans hE)];refine⟨rfl,base _ _ (by rw[R.hd]) (fun t ht=>?_)⟩;rcases Df t ht with⟨e,_,_⟩ | ⟨_,h⟩
   ·rw[e];exact ho
   ·exact .inr h
  ·rw[if_neg hE,if_neg (by rw[hk];exact hE)];exact⟨hk,base _ _ R.hd (fun t ht=>.inr ht)⟩
 ·rw[if_neg hh,if_neg hh];exact⟨rfl,R⟩
theorem Rm.dropped (R:Rm x y) (K:KI x.k) (Ky:KI y.k) (X:XI m x) (Y:XI m y) (a:Int):(eB y a).2=(eB x a).2∧Rm (eB x a).1 (eB y a).1:=by
 unfold eB;rw[R.has];by_cases hh:hasB x a=true∧0<x.held.getD a.toNat 0
 ·have hh':hasB x a=true∧0<y.held.getD a.toNat 0:=by rw[R.hd];exact hh
  obtain⟨i,rfl,hi,ho⟩:=Al hh.1;rw[if_pos hh,if_pos hh',Int.toNat_natCast];rw[Int.toNat_natCast] at hh;have l1:=lZ K X hi ho;have l2:=R.G8 Ky Y hi ho;have ok:∀ {z:RS} (Z:XI m z),i<z.refs.length→0<z.held.getD i 0→(aD z.k (z.refs.getD i 0)).1=0:=fun {z} Z hz h0=>by
   unfold aD;split
   ·rename_i h1;have h3:=qF (refs:=z.refs) (held:=z.held) hz rfl h0;rw[Z.hh _ (by omega)] at h3;rw[if_neg (by omega)]
   ·rfl
  have e1:=ok X hi hh.2;have e2:=ok Y (by rw[R.rl];exact hi) (by rw[R.hd];exact hh.2);have K':=lH K l1.h0;have Ky':=lH Ky l2.h0;have XX:=Aj X (i:Int);have YY:=Aj Y (i:Int);have sx:eB x (i:Int)=(⟨(aD x.k (x.refs.getD i 0)).2,x.refs,x.held.set i (x.held.getD i 0-1)⟩,(aD x.k (x.refs.getD i 0)).1):=by
   unfold eB;rw[Int.toNat_natCast,if_pos ⟨hh.1,hh.2⟩]
  have sy:eB y (i:Int)=(⟨(aD y.k (y.refs.getD i 0)).2,y.refs,y.held.set i (y.held.getD i 0-1)⟩,(aD y.k (y.refs.getD i 0)).1):=by
   unfold eB;rw[Int.toNat_natCast,R.has,R.hd,if_pos ⟨hh.1,hh.2⟩]
  rw[sx] at XX;rw[sy] at YY;refine⟨by rw[e1,e2],?_⟩;refine⟨?_,?_,?_,R.rl,by show y.held.set i _=x.held.set i _;rw[R.hd],R.two,fun t ht p=>?_,fun e he=>R.sub e (Ai Ky l2.h0 e he)⟩
  ·show(aD y.k (y.refs.getD i 0)).2.n=(aD x.k (x.refs.getD i 0)).2.n;rw[(jP _ _).1,(jP _ _).1,R.n]
  ·show(aD y.k (y.refs.getD i 0)).2.ord=(aD x.k (x.refs.getD i 0)).2.ord;rw[kQ.1,kQ.1,R.ord]
  ·show(aD y.k (y.refs.getD i 0)).2.bH=(aD x.k (x.refs.getD i 0)).2.bH;rw[kQ.2,kQ.2,R.bH]
  ·replace ht:x.refs.getD t 0<2∨0<(x.held.set i (x.held.getD i 0-1)).getD t 0:=ht;show sem (aD y.k (y.refs.getD i 0)).2.L (y.refs.getD t 0) p=sem (aD x.k (x.refs.getD i 0)).2.L (x.refs.getD t 0) p;by_cases htl:t<x.refs.length
   ·have a1:Lf (aD x.k (x.refs.getD i 0)).2 (x.refs.getD t 0):=lZ (x:=⟨(aD x.k (x.refs.getD i 0)).2,x.refs,x.held.set i (x.held.getD i 0-1)⟩) K' XX htl ht;have a2:Lf (aD y.k (y.refs.getD i 0)).2 (y.refs.getD t 0):=lZ (x:=⟨(aD y.k (y.refs.getD i 0)).2,y.refs,y.held.set i (y.held.getD i 0-1)⟩) Ky' YY (by show t<y.refs.length;rw[R.rl];exact htl) (by show y.refs.getD t 0<2∨0<(y.held.set i (y.held.getD i 0-1)).getD t 0;rw[R.two,R.hd];exact ht);obtain⟨d1,d2⟩:=Da K l1.h0 a1;obtain⟨d3,d4⟩:=Da Ky l2.h0 a2;rw[d2,d4];refine R.sm t ?_ p;rcases ht with ht | ht
    ·exact .inl ht
    ·rcases Df t ht with⟨e,_,_⟩ | ⟨_,h⟩
     ·rw[e];exact .inr hh.2
     ·exact .inr h
   ·have e1:x.refs.getD t 0=0:=by rw[List.getD_eq_getElem?_getD,List.getElem?_eq_none (by omega)];rfl
    have e2:y.refs.getD t 0=0:=by rw[List.getD_eq_getElem?_getD,List.getElem?_eq_none (by rw[R.rl];omega)];rfl
    rw[e1,e2,ja K',ja Ky']
 ·have hh':¬ (hasB x a=true∧0<y.held.getD a.toNat 0):=by rw[R.hd];exact hh
  rw[if_neg hh,if_neg hh'];exact⟨rfl,R⟩
theorem Ut (n c d:Nat):Rm (sj n c) (sj n d) :=
 ⟨rfl,rfl,rfl,rfl,rfl,fun _=>Iff.rfl,fun _ _ _=>rfl,fun _ h=>by cases h⟩
theorem Fj:(0:Int)≠9:=by decide
theorem abK:(3:Int)≠9:=by decide
inductive StepB (m:Nat) (x y:RS) (o:Int×Int×Int×Int):Prop
 | same:(dF x o).2=(dF y o).2→(dF y o).2≠9→((dF y o).1.refs.length=y.refs.length∨(dF y o).2≠0)→Rm (dF x o).1 (dF y o).1→StepB m x y o
 | both:(dF x o).2=0→(dF y o).2=0→(dF y o).1.refs.length=y.refs.length+1→Rm (dF x o).1 (dF y o).1→(dF y o).1.k.ac≤x.k.c→StepB m x y o
 | full (k:KS) (q:Int):(dF x o).2=9→(dF x o).1=x→dF y o=(⟨k,y.refs++[q],y.held++[1]⟩,0)→¬ k.ac≤x.k.c→2≤q→q<4294967296→(aD k q).1=0→Rm x ⟨(aD k q).2,y.refs,y.held⟩→XI m ⟨(aD k q).2,y.refs,y.held⟩→StepB m x y o
theorem JM (R:Rm x y) (K:KI x.k) (Ky:KI y.k) (X:XI m x) (Y:XI m y) (hc:65≤y.k.c) (o:Int×Int×Int×Int) (h4:o.1≠4) (h5:o.1≠5):StepB m x y o:=by
 obtain⟨kd,a,b,c⟩:=o;simp only at h4 h5;have hroom:y.k.ac+1≤y.k.c:=by have:=R.few Ky Y;omega
 have Qq:x.k.ac≤x.k.c:=by have h1:=K.bk.gK;have h2:=K.bk.lim;omega
 have hac:=(R.live K Ky X Y).2;by_cases h1:kd=1
 ·subst h1;have ex:dF x (1,a,b,c)=gV x a b c:=rfl;have ey:dF y (1,a,b,c)=gV y a b c:=rfl;by_cases hh:hasB x b=true∧hasB x c=true∧x.refs.length<60
  ·have hh':hasB y b=true∧hasB y c=true∧y.refs.length<60:=by rw[R.has,R.has,R.rl];exact hh
   obtain⟨i,rfl,hi,hoi⟩:=Al hh.1;obtain⟨j,rfl,hj,hoj⟩:=Al hh.2.1;unfold gV at ex ey;rw[if_pos hh,Int.toNat_natCast,Int.toNat_natCast] at ex;rw[if_pos hh',Int.toNat_natCast,Int.toNat_natCast] at ey;rcases R.make K Ky X Y hroom a hi hoi hj hoj with⟨e1,e2,e3,e4,e5⟩ | ⟨e1,e2,e3,e4⟩ | ⟨e0,e1,e2,e3,e4⟩ | ⟨e0,e1,e2,e3,e4,e5⟩
   ·rw[if_neg (by rw[e1];exact e2),e4] at ex;rw[if_neg e2,e5] at ey;refine .same ?_ ?_ ?_ ?_
    ·rw[ex,ey];exact e1
    ·rw[ey];exact e3
    ·exact .inl (by rw[ey])
    ·rw[ex,ey];exact R
   ·rw[if_pos e1] at ex;rw[if_pos e2] at ey;refine .both (by rw[ex]) (by rw[ey]) (by rw[ey];simp) (by rw[ex,ey];exact R.made K Ky X Y hi hoi hj hoj e1 e2) ?_;rw[ey];show(ay y.k _).2.2.ac≤_;omega
   ·rw[if_pos e1] at ex;rw[if_pos e2] at ey;refine .both (by rw[ex]) (by rw[ey]) (by rw[ey];simp) (by rw[ex,ey];exact R.made K Ky X Y hi hoi hj hoj e1 e2) ?_;rw[ey];show(ay y.k _).2.2.ac≤_;omega
   ·rw[if_neg (by rw[e1] <;> decide),e3] at ex;rw[if_pos e2] at ey;obtain⟨u1,u2,u3,_,u5⟩:=R.Us K Ky Y hi hoi hj hoj e2 e5;have M:=nk (n:=⟨a,y.refs.getD i 0,y.refs.getD j 0⟩) Ky (R.G8 Ky Y hi hoi).h0 (R.G8 Ky Y hj hoj).h0 e2;refine .full _ _ (by rw[ex];exact e1) (by rw[ex]) ey (by omega) u1 ?_ u2 u3 u5
    have:=M.ki.bk.lt M.ql.h0 M.ql.h1
    omega
  ·have hh':¬ (hasB y b=true∧hasB y c=true∧y.refs.length<60):=by rw[R.has,R.has,R.rl];exact hh
   unfold gV at ex ey;rw[if_neg hh] at ex;rw[if_neg hh'] at ey;exact .same (by rw[ex,ey]) (by rw[ey];exact Fj) (.inl (by rw[ey])) (by rw[ex,ey];exact R)
 ·by_cases h2:kd=2
  ·subst h2;have ex:dF x (2,a,b,c)=fF x a:=rfl;have ey:dF y (2,a,b,c)=fF y a:=rfl;obtain⟨k1,k2⟩:=R.kept K Ky X Y a;refine .same (by rw[ex,ey,k1]) ?_ (.inl ?_) (by rw[ex,ey];exact k2)
   ·rw[ey];unfold fF;split
    ·split
     ·exact Fj
     ·rename_i hE
      have:=(rZ hE).2
      intro h;replace h:(aP y.k (y.refs.getD a.toNat 0)).1=9:=h;omega
    ·exact Fj
   ·rw[ey];unfold fF;split
    ·split <;> rfl
    ·rfl
  ·by_cases h3:kd=3
   ·subst h3;have ex:dF x (3,a,b,c)=eB x a:=rfl;have ey:dF y (3,a,b,c)=eB y a:=rfl;obtain⟨k1,k2⟩:=R.dropped K Ky X Y a;refine .same (by rw[ex,ey,k1]) ?_ (.inl ?_) (by rw[ex,ey];exact k2)
    ·rw[ey];unfold eB;split
     ·show(aD y.k (y.refs.getD a.toNat 0)).1≠9;unfold aD;split
      ·split
       ·exact abK
       ·exact Fj
      ·exact Fj
     ·exact Fj
    ·rw[ey];unfold eB;split <;> rfl
   ·have ex:∀ z:RS,dF z (kd,a,b,c)=(z,0):=fun z=>by
     unfold dF;rw[if_neg h1,if_neg h2,if_neg h3,if_neg h4,if_neg h5]
    exact .same (by rw[ex,ex]) (by rw[ex];exact Fj) (.inl (by rw[ex])) (by rw[ex,ex];exact R)
end
section
variable {k:KS} {l:List Int}
theorem Nt (K:KI k) (W:E8 k (aU k) l):∀ (d:Nat) (n:Nd) (r:Int),(n,r)∈k.L→bz k n.v=d→r∈l:=by
 intro d
 induction d using Nat.strongRecOn with
 | _ d ih =>
  intro n r hm hd;have hp:=K.pos n r hm;obtain⟨h1,_⟩:=K.bk.KY (List.mem_append_left [] hm);obtain⟨h2,_,_⟩:=K.mem' hm;by_cases h0:k.hs.getD r.toNat 0=0
  ·rw[if_pos h0] at h1;have hpar:par k.L r≠0:=fun h=>by
    rw[h] at h1;rw[h1] at hp;simp at hp
   have hex:∃ p∈k.L,p.1.lo=r∨p.1.hi=r:=by
    apply Classical.byContradiction;intro hn;refine hpar (gJ.2 fun p hp=>⟨fun h=>hn ⟨p,hp,.inl h⟩,fun h=>hn ⟨p,hp,.inr h⟩⟩)
   obtain⟨⟨m,s⟩,hms,hor⟩:=hex;obtain⟨c0,c1,_⟩:=K.bk.fo m s hms;obtain⟨i,hi,hin,_⟩:=K.lv.dM c0 c1;have Es:bz k m.v<bz k n.v:=by
    rcases hor with h | h
    ·exact K.ord.lo m s n hms (by rw[show m.lo=r from h];exact hm)
    ·exact K.ord.hi m s n hms (by rw[show m.hi=r from h];exact hm)
   have hs:=ih i (by omega) m s hms hi;have hg:=(K.mem' hms).2.1;have hc:=W.fo s hs (by rw[hg];exact c0);rw[hg] at hc;rcases hor with h | h
   ·exact h ▸ hc.1
   ·exact h ▸ hc.2
  ·refine W.top r (.inr (.inr ?_));have hn:0<k.hs.getD r.toNat 0:=by
    rw[List.getD_eq_getElem?_getD] at h0 ⊢;cases hx:k.hs[r.toNat]? with
    | none=>rw[hx] at h0;exact absurd rfl h0
    | some y =>
     rw[hx] at h0
     have:=(K.bk.hol _ y hx).1
     simp at h0 ⊢;omega
   refine ni.2 ⟨r.toNat,by omega,?_,hn⟩;rw[List.getD_eq_getElem?_getD] at h0;cases hx:k.hs[r.toNat]? with
   | none=>rw[hx] at h0;exact absurd rfl h0
   | some y=>exact(List.getElem?_eq_some_iff.1 hx).1
theorem yZ (K:KI k) (W:E8 k (aU k) l):l.Perm (0::1::k.L.map (·.2)):=by
 have hr:(k.L.map (·.2)).Nodup:=by
  have:=K.bk.rn
  rwa [List.append_nil] at this
 have h2:∀ r∈k.L.map (·.2),2≤r:=fun r hr=>by
  obtain⟨⟨n,s⟩,h,rfl⟩:=List.mem_map.1 hr;exact(K.mem' h).1
 refine(List.perm_ext_iff_of_nodup W.nd ?_).2 fun r=>⟨fun h=>?_,fun h=>?_⟩
 ·refine List.nodup_cons.2 ⟨fun h=>?_,List.nodup_cons.2 ⟨fun h=>?_,hr⟩⟩
  ·rcases List.mem_cons.1 h with h | h
   ·cases h
   ·have:=h2 _ h
    omega
  ·have:=h2 _ h
   omega
 ·obtain⟨h0,ht⟩:=W.ll r h;rcases(K.live h0).1 ht with rfl | rfl | ⟨n,hn⟩
  ·exact List.mem_cons_self ..
  ·exact List.mem_cons_of_mem _ (List.mem_cons_self ..)
  ·exact List.mem_cons_of_mem _ (List.mem_cons_of_mem _ (List.mem_map.2 ⟨_,hn,rfl⟩))
 ·rcases List.mem_cons.1 h with rfl | h
  ·exact W.top 0 (.inl rfl)
  ·rcases List.mem_cons.1 h with rfl | h
   ·exact W.top 1 (.inr (.inl rfl))
   ·obtain⟨⟨n,s⟩,hn,rfl⟩:=List.mem_map.1 h;obtain⟨c0,c1,_⟩:=K.bk.fo n s hn;obtain⟨i,hi,_,_⟩:=K.lv.dM c0 c1;exact Nt K W i n s hn hi
theorem Nu (K:KI k) (W:E8 k (aU k) l):l.length=k.ac:=by
 have h1:=(yZ K W).length_eq;have h2:=K.bk.cnt;rw[List.append_nil] at h2;simp at h1;omega
def eF (k:KS) (l:List Int):List Nd:=(l.filter fun r=>decide (2≤r)).map (aI k.ls)
theorem Am (l:List Int) (r:Int):eF k (l++[r])=if 2≤r then eF k l++[aI k.ls r] else eF k l:=by
 unfold eF;rw[List.filter_append];by_cases h:2≤r
 ·rw[if_pos h];simp[h]
 ·rw[if_neg h];simp[h]
theorem Dg (l:List Int):(eF k l).length≤l.length:=by
 unfold eF;rw[List.length_map];exact List.length_filter_le _ _
def tN (nd:List Nd) (v:Int):Nat:=(nd.filter fun n=>decide (n.v=v)).length
theorem JN (nd:List Nd) (n:Nd) (v:Int):tN (nd++[n]) v=if n.v=v then tN nd v+1 else tN nd v:=by
 unfold tN;rw[List.filter_append,List.length_append];by_cases h:n.v=v
 ·rw[if_pos h];simp[h]
 ·rw[if_neg h];simp[h]
theorem Qr (nd:List Nd) (v:Int):tN nd v≤nd.length:=List.length_filter_le _ _
theorem Fp (K:KI k) (W:E8 k (aU k) l):(eF k l).Perm (k.L.map (·.1)):=by
 have h1:=((yZ K W).filter (fun r=>decide (2≤r))).map (aI k.ls);have h2:((0::1::k.L.map (·.2)).filter fun r:Int=>decide (2≤r))=k.L.map (·.2):=by
  rw[List.filter_cons_of_neg (by decide),List.filter_cons_of_neg (by decide),List.filter_eq_self];intro r hr;obtain⟨⟨n,s⟩,h,rfl⟩:=List.mem_map.1 hr;simpa using (K.mem' h).1
 rw[h2,List.map_map] at h1;have h3:k.L.map (aI k.ls ∘ (·.2))=k.L.map (·.1):=List.map_congr_left fun p hp=>(K.mem' (n:=p.1) (r:=p.2) hp).2.1
 rw[h3] at h1;exact h1
theorem Nv (K:KI k) (W:E8 k (aU k) l) (v:Nat) (hv:v<k.n):tN (eF k l) v=N9 k v:=by
 unfold tN N9;rw[if_pos ⟨by omega,by omega⟩,((Fp K W).filter _).length_eq,List.filter_map,List.length_map];rfl
theorem nW (K:KI k) {r:Int} (h:iP k r) (h2:2≤r):(aI k.ls r,r)∈k.L:=by
 rcases(K.live h.1).1 h.2 with rfl | rfl | ⟨n,hn⟩
 ·omega
 ·omega
 ·rw[(K.mem' hn).2.1];exact hn
theorem JO (K:KI k) {pre:List Int} {r:Int} (hp:∀ s∈pre,iP k s) (hr:iP k r) (h2:2≤r) (hn:r∉pre):∀ m∈eF k pre,m≠aI k.ls r:=by
 intro m hm he;unfold eF at hm;obtain⟨s,hs,rfl⟩:=List.mem_map.1 hm;rw[List.mem_filter] at hs;have hs2:2≤s:=by simpa using hs.2
 have h1:=nW K (hp s hs.1) hs2;have h3:=nW K hr h2;rw[he] at h1;have hk:=K.bk.kn
 have:s=r:=fI hk h1 h3
 exact hn (this ▸ hs.1)
end
end Go.Proofs.YtiomgckodmecbaaGreat
namespace Go.Tk
theorem Sl.ag {w w':World} {S:Nat→Prop} {m:Nat} {α:Type} {f:α→List Value} {A:Option Addr} {n:Nat} {xs:List α} (h:Sl w m f A n xs) (hf:ah S w w') (hs:0<xs.length→∀ b,rowOf A b→¬ S b):Sl w' m f A n xs :=
 ⟨h.len,fun i x hi=>by
  obtain⟨b,off,h1,h2,h3⟩:=h.get i x hi;have hl:=aY hi
  exact⟨b,off,h1,Nat.lt_of_lt_of_le h2 hf.size,fun j hj=>by rw[← h3 j hj];exact hf.cell (p:=⟨b,_,none⟩) h2 (hs (by omega) b ⟨_,h1,rfl⟩)⟩⟩
end Go.Tk
namespace Go.Proofs.YtiomgckodmecbaaGreat
open Go.RowKit Go.Tk
theorem Nw (A B:Option Addr) (n m C D:Nat) (xs ys:List Int) (w:World) (h:IL w A n xs) (h2:IL w B m ys) (hr:n*8≤140737488351232) (hr2:m*8≤140737488351232) :
  Calls Tryz.prog 38 #[.slice A n C,.slice B m D] w fun e w'=>e=.returned (.bool (decide (xs=ys)))∧Same w w':=by
 obtain rfl:=h.len;obtain rfl:=h2.len;have H:=Lib.hid h;have H2:=Lib.hid h2;clear h h2;by_cases hl:xs.length=ys.length
 ·have hl1:xs.length≤ys.length:=by omega
  have hl2:ys.length≤xs.length:=by omega
  have hl':((xs.length:Int) != (ys.length:Int))=false:=by simp[hl]
  have HL:=Lib.hid hl;clear hl;go_enter Tryz.func38,Tryz.ntmps38;go_wp2;go_loopw [5] (fun i wr=>∃ k:Nat,k≤xs.length∧i=.int .i64 k∧xs.take k=ys.take k∧Same w wr) (fun i _=>xs.length-(intOf i).toNat)
  case atStart=>exact⟨0,by omega,rfl,rfl,ah.refl _ _⟩
  case round =>
   obtain⟨k,hk,rfl,he,hs⟩:=hrel;by_cases hlt:k<xs.length
   ·obtain⟨x,hx⟩:∃ x,xs[k]?=some x:=⟨_,List.getElem?_eq_getElem hlt⟩;obtain⟨y,hy⟩:∃ y,ys[k]?=some y:=⟨_,List.getElem?_eq_getElem (by omega)⟩;obtain⟨b,off,rfl,hb,hc⟩:=(Sl.same H.out hs).dQ hx;obtain⟨b2,off2,rfl,hb2,hc2⟩:=(Sl.same H2.out hs).dQ hy;have hi0:(0:Int)≤k:=by omega
    have hi1:(k:Int)<xs.length:=by omega
    have hi2:(k:Int)<ys.length:=by omega
    have HX:=Lib.hid hx;have HY:=Lib.hid hy;have HE:=Lib.hid he;have HS:=Lib.hid hs;clear hx hy he hs;by_cases hxy:x=y
    ·subst hxy;go_wp2;refine eG (by kernel_rfl) (by kernel_rfl) ?_;repeat (any_goals (first | go_big_quiet_step (fail) | quiet_step (fail)))
     refine wpQuiet_nil ?_;rintro _ ⟨q,rfl⟩;have HS2:=Lib.hid (HS.out.trans (az _ q) (fun _ _ h=>h));go_wp2;go_roundw
     case rel=>exact⟨k+1,by omega,by go_num,by rw[rJ HX.out,rJ HY.out,HE.out],HS2.out⟩
     case measure=>simp[intOf] <;> omega
    ·have hne:(x != y)=true:=by simpa using hxy
     have hfin:decide (xs=ys)=false:=by
      rw[decide_eq_false_iff_not];rintro rfl;exact hxy (Option.some.inj (HX.out.symm.trans HY.out))
     have aF:=Lib.hid hfin;clear hxy hfin;go_wp2;refine eG (by kernel_rfl) (by kernel_rfl) ?_;repeat (any_goals (first | go_big_quiet_step (fail) | quiet_step (fail)))
     refine wpQuiet_nil ?_;rintro _ ⟨q,rfl⟩;have HS2:=Lib.hid (HS.out.trans (az _ q) (fun _ _ h=>h));go_wp2;go_ret;exact⟨gD aF.out.symm,HS2.out⟩
   ·obtain rfl:k=xs.length:=by omega
    have hfin:decide (xs=ys)=true:=by
     rw[decide_eq_true_iff];rw[List.take_of_length_le (Nat.le_refl _),List.take_of_length_le (by omega)] at he;exact he
    have aF:=Lib.hid hfin;clear he hfin;go_wp2;go_ret;exact⟨gD aF.out.symm,hs⟩
 ·have hl':((xs.length:Int) != (ys.length:Int))=true:=by simp <;> omega
  have hfin:decide (xs=ys)=false:=by
   rw[decide_eq_false_iff_not];rintro rfl;exact hl rfl
  have aF:=Lib.hid hfin;clear hl hfin;go_enter Tryz.func38,Tryz.ntmps38;go_wp2;go_ret;exact⟨gD aF.out.symm,ah.refl _ _⟩
theorem JP (A B:Option Addr) (n m C D:Nat) (xs ys:List Int) (w:World) (h:IL w A n xs) (h2:IL w B m ys) (hr:n*8≤140737488351232) (hr2:m*8≤140737488351232) :
  Calls Tryz.prog 38 #[.slice A n C,.slice B m D] w fun e w'=>e=.returned (.bool (decide (xs=ys)))∧Same w w':=Nw A B n m C D xs ys w h h2 hr hr2
theorem Fq:(Tryz.prog.info? 37).map (fun i=>(i.zero,i.size,i.bytes))=some (some (.agg #[.int .i64 0,.int .u32 0,.int .u32 0]),3,16):=by kernel_rfl
theorem wS (n:Nd):n.cells.length=3:=rfl
theorem KI.perm {k:KS} (K:KI k):Ku k.ord=0:=by
 refine RH.2 ⟨⟨fun x hx=>?_,?_⟩,by rw[K.M9];exact K.bk.n64⟩
 ·obtain⟨i,hi⟩:=List.getElem?_of_mem hx;obtain⟨m,rfl,hm,_⟩:=K.lv.o2 i x hi;rw[K.M9];omega
 ·refine List.pairwise_iff_getElem.2 fun i j hi hj hij he=>?_
  obtain⟨m,h1,_,h2⟩:=K.lv.o2 i _ (List.getElem?_eq_getElem hi);obtain⟨m',h3,_,h4⟩:=K.lv.o2 j _ (List.getElem?_eq_getElem hj);rw[he,h3] at h1;obtain rfl:m'=m:=by omega
  rw[h2] at h4;injection h4 with h4
  omega
section
variable {w w':World} {B:Nat→Prop} {xb:Nat} {x:RS} {q:RA}
theorem wT (hX:RW B w xb x q) (hl:x.held.length=x.refs.length) (hrg:∀ r∈x.refs,0≤r∧r<4294967296) (hcb:∀ c∈x.held,0≤c∧c≤1000000000000000) (hrl:x.refs.length≤1000000) (hh:Held x) :
  Calls Tryz.prog 42 #[.pointer (some ⟨xb,0,none⟩)] w fun e w'=>e=.returned (.bool true)∧Same w w':=by
 have K:=hX.k.ki;have hn1:=K.bk.n1;have V9:=K.bk.n64;have hls:=K.YQ;have hc:∀ w',Same w w'→xb<w'.heap.size∧w'.cell? ⟨xb,0,none⟩=some (.pointer (some ⟨q.kp,0,none⟩)):=fun w' hs=>⟨(hX.same hs).blk.lt,(hX.same hs).c0⟩
 have HC:=Lib.hid hc;have hmk:=fun w=>eZ (P:=Tryz.prog) Tryz.underlying46 jN .i64 .i64 x.k.n (show 8*x.k.n≤281474976710656 by omega) (show x.k.n≤9223372036854775807 by omega) w
 have HMK:=Lib.hid (fun w=>Own.mh (m:=1) w 3 eU (fun _=>rfl) (by decide) 0 x.k.n (show x.k.n≤9223372036854775807 by omega) rfl);have hho:=fun w' (hs:Same w w') (A:Option Addr) (C:Nat) (hA:Row1 w' 28 rc A (aU x.k).length C (aU x.k))=>Ff (hX.same hs) hl hrg hcb hrl hh A C hA
 have hrl2:=rX K;have Og:=Lib.hid (fun w' (hs:Same w w')=>hX.k.same hs);have Yy:=Lib.hid hho;have HK:=Lib.hid K;have HS:=Lib.hid (ah.refl (fun _=>False) w:Same w w);clear hX hl hrg hcb hrl hh hc hho K;go_enter Tryz.func42,Tryz.ntmps42;obtain⟨hxl,c0⟩:=HC.out _ HS.out;go_wp2_with (fail)
 refine(Nf (Og.out _ HS.out)).mono ?_;rintro e w1 ⟨A3,C3,rfl,fP,Ow,hs⟩;replace HS:=Lib.hid (show Same w w1 from hs);have HR3:=Lib.hid fP;have hlv:∀ r∈aU x.k,iP x.k r:=fun r hr=>by
  obtain⟨h2,h0⟩:=yS HK.out r hr;refine⟨by omega,(HK.out.live (by omega)).2 (.inr (.inr ?_))⟩;obtain⟨n,hn⟩:=jL (r:=r) HK.out.bk (by omega) (by omega);exact⟨n,by rwa [List.append_nil] at hn⟩
 have hwk:=JB (Og.out _ HS.out) A3 _ C3 (aU x.k) (HR3.out.sl (fun _=>rfl)) hlv (by omega);have HWK:=Lib.hid hwk;clear hxl c0 hs fP Ow hlv hwk;obtain⟨hxl,c0⟩:=HC.out _ HS.out;go_wp2_with (fail)
 refine HWK.out.mono ?_;rintro e w2 ⟨A4,C4,l,rfl,hW,hL4,QC,hs⟩;have HR4:=Lib.hid (HR3.out.ag hs (fun _ _=>id));replace HS:=Lib.hid (HS.out.trans hs (fun _ _ h=>h));have hll:=Nu HK.out hW;have hlc:l.length≤x.k.c:=by
  have h1:=HK.out.bk.gK;have h2:=HK.out.bk.lim;omega
 have hlb:l.length≤1048576:=by
  have h1:=HK.out.acl;omega
 have hl2:2≤l.length:=by
  have h1:=HK.out.bk.cnt;omega
 have hlive:=nR (Og.out _ HS.out);rw[← hll] at hlive;have Ru:=Lib.hid hlive;have HW:=Lib.hid hW;have Kh:=Lib.hid hL4;have hcc:¬ (l.length:Int)>(x.k.c:Int):=by omega
 clear hxl c0 hs HWK hW hL4 QC hll hlive HR3 hlc;obtain⟨hxl,c0⟩:=HC.out _ HS.out;go_wp2_with (fail)
 refine Ru.out.mono ?_;rintro e w3 ⟨rfl,rfl⟩;go_wp2_with (fail)
 refine(M8 (Og.out _ HS.out)).mono ?_;rintro e w3 ⟨rfl,rfl⟩;go_wp2_with (fail)
 refine(Qe (Og.out _ HS.out)).mono ?_;rintro e w3 ⟨rfl,rfl⟩;go_wp2_with (fail)
 refine(Nc (Og.out _ HS.out)).mono ?_;rintro e w3 ⟨A7,C7,rfl,Js,hF7,hs⟩;rw[HK.out.M9] at Js ⊢;replace HR4:=Lib.hid (HR4.out.ag hs (fun _ _=>id));replace Kh:=Lib.hid (Kh.out.ag hs (fun _ _=>id));replace HS:=Lib.hid (HS.out.trans hs (fun _ _ h=>h));have hdc:=zF A7 x.k.n C7 x.k.ord w3 (Own.il (show gq w3 3 A7 x.k.n C7 x.k.ord from Js)) (by omega);rw[HK.out.perm] at hdc;have HDC:=Lib.hid hdc;have ER:=Lib.hid (show gq w3 3 A7 x.k.n C7 x.k.ord from Js);clear hxl c0 hs Js hF7 hdc Ru hcc;go_wp2_with (fail)
 refine HDC.out.mono ?_;rintro e w4 ⟨rfl,rfl⟩;go_wp2_with (fail)
 refine ai fun w5 lu=>?_
 have hr5:gq w5 3 (some ⟨w3.heap.size,0,none⟩) x.k.n x.k.n (List.replicate x.k.n 0):=by rw[lu];simpa [eU] using HMK.out w3
 have hs5:Same w3 w5:=by rw[lu];exact(ah.refl _ _).alloc _
 have hz5:w5.heap.size=w3.heap.size+1:=by rw[lu];simp
 clear lu;have hlt:∀ b,(rowOf A7 b∨rowOf A3 b∨rowOf A4 b)→b<w3.heap.size:=fun b hb=>by
  rcases hb with hb | hb | hb
  ·exact dV ER.out hb
  ·exact dV HR4.out hb
  ·exact dV Kh.out hb
 replace HR4:=Lib.hid (HR4.out.ag hs5 (fun _ _=>id));replace Kh:=Lib.hid (Kh.out.ag hs5 (fun _ _=>id));replace ER:=Lib.hid (ER.out.ag hs5 (fun _ _=>id));have hlow:=HS.out.size;replace HS:=Lib.hid (HS.out.trans hs5 (fun _ _ h=>h));obtain⟨LB,hLB⟩:∃ z,w3.heap.size=z:=⟨_,rfl⟩;rw[hLB] at hr5 hz5 hlow hlt ⊢;have YZ:=Lib.hid hlt;have HR5:=Lib.hid hr5;clear hr5 hs5 hLB HDC hlt;go_loopw [88] (fun s wr=>∃ (i:Nat) (lv:List Int),i≤x.k.n∧s=.int .i64 i∧gq wr 3 (some ⟨LB,0,none⟩) x.k.n x.k.n lv∧(∀ (j:Nat) (v:Int),j<i→x.k.ord[j]?=some v→lv.getD v.toNat 0=(j:Int))∧ah (fun b=>b=LB) w5 wr) (fun s _=>x.k.n-(intOf s).toNat)
 case atStart=>exact⟨0,_,by omega,rfl,HR5.out,(fun j v h=>absurd h (by omega)),ah.refl _ _⟩
 case round =>
  as_aux_lemma =>
  obtain⟨i,lv,hi,rfl,hrow,hlv,hfr⟩:=hrel;have hO:=ER.out.ag hfr (fun y hy hh=>by have:=YZ.out y.block (.inl ⟨y,hy,rfl⟩);omega);by_cases hlt:i<x.k.n
  ·have hI:(i:Int)<(x.k.n:Int):=by omega
   obtain⟨v,hv⟩:∃ v,x.k.ord[i]?=some v:=⟨_,List.getElem?_eq_getElem (by rw[HK.out.M9];exact hlt)⟩;obtain⟨m,rfl,hm,J4⟩:=HK.out.lv.o2 i v hv;have hM:(m:Int)<(x.k.n:Int):=by omega
   obtain⟨ob,hA,hol,d0⟩:=hO.dQ (c:=fun x:Int=>.int .i64 x) hv;have hll:=hrow.len;obtain⟨y,hy⟩:∃ y,lv[m]?=some y:=⟨_,List.getElem?_eq_getElem (by omega)⟩;obtain⟨lb',hA',hbl,d1⟩:=hrow.dQ (c:=fun x:Int=>.int .i64 x) hy;injection hA' with hA'
   injection hA' with hA'
   subst hA';have fk:=Own.free hrow m;have hpt:=Own.l5 (c:=fun x:Int=>.int .i64 x) hrow (i:=m) (by omega) (i:Int);have hnew:∀ (j:Nat) (v:Int),j<i+1→x.k.ord[j]?=some v→(lv.set m (i:Int)).getD v.toNat 0=(j:Int):=fun j v hj KF=>by
    obtain⟨m',rfl,hm',hmj⟩:=HK.out.lv.o2 j v KF;rw[Int.toNat_natCast,List.getD_eq_getElem?_getD];by_cases he:m'=m
    ·subst he;rw[J4] at hmj;injection hmj with hmj
     rw[List.getElem?_set_self (by omega)];simpa using hmj
    ·rw[List.getElem?_set_ne (fun h=>he h.symm),← List.getD_eq_getElem?_getD];have hji:j≠i:=fun h=>by
      subst h;rw[hv] at KF;injection KF with KF
      omega
     have:=hlv j m' (by omega) KF
     rwa [Int.toNat_natCast] at this
   have VK:=Lib.hid hpt;have Uu:=Lib.hid hnew;have tZ:=Lib.hid (hfr.set m (.int .i64 i) rfl:ah (fun b=>b=LB) w5 (wr.setCell ⟨LB,m,none⟩ (.int .i64 i)));have hwl:LB<wr.heap.size:=hbl;clear hpt hnew hfr hrow hO hlv hv hy J4 hll;subst hA;go_wp2;go_roundw
   case rel=>exact⟨i+1,_,by omega,by go_num,VK.out,Uu.out,tZ.out⟩
   case measure=>simp[intOf] <;> omega
  ·obtain rfl:i=x.k.n:=by omega
   have hI:¬ ((x.k.n:Nat):Int)<(x.k.n:Int):=by omega
   have Es:∀ v:Nat,v<x.k.n→lv[v]?=some (bz x.k v):=fun v hv=>by
    obtain⟨j,h1,h2,h3⟩:=HK.out.lv.dM (v:=(v:Int)) (by omega) (by omega);have h4:=hlv j v h2 h3;rw[Int.toNat_natCast,List.getD_eq_getElem?_getD] at h4;rw[List.getElem?_eq_getElem (by have:=hrow.len;omega)] at h4 ⊢;rw[h1];simpa using h4
   have GH:=HR4.out.ag hfr (fun y hy hh=>by have:=YZ.out y.block (.inr (.inl ⟨y,hy,rfl⟩));omega);have hL4:=Kh.out.ag hfr (fun y hy hh=>by have:=YZ.out y.block (.inr (.inr ⟨y,hy,rfl⟩));omega);have xg:Same w wr:=HS.out.trans hfr (fun b hb hh=>by omega);have HR6:=Lib.hid GH;have Xq:=Lib.hid hL4;have vz:=Lib.hid xg;have zw:=Lib.hid Es;have q8:=Lib.hid hrow;have hz6:=hfr.size;clear hrow hlv hfr hO Es GH hL4 xg HR4 Kh ER HS HR5;go_wp2_with (fail)
   refine ai fun w7 hw7=>?_
   have hr7:gq w7 3 (some ⟨wr.heap.size,0,none⟩) x.k.n x.k.n (List.replicate x.k.n 0):=by rw[hw7];simpa [eU] using HMK.out wr
   have hs7:Same wr w7:=by rw[hw7];exact(ah.refl _ _).alloc _
   clear hw7;replace HR6:=Lib.hid (HR6.out.ag hs7 (fun _ _=>id));replace Xq:=Lib.hid (Xq.out.ag hs7 (fun _ _=>id));replace q8:=Lib.hid (q8.out.ag hs7 (fun _ _=>id));replace vz:=Lib.hid (vz.out.trans hs7 (fun _ _ h=>h));obtain⟨WB,hWB⟩:∃ z,wr.heap.size=z:=⟨_,rfl⟩;rw[hWB] at hr7 hz6 ⊢;have HR7:=Lib.hid hr7;have Su:LB<WB:=by omega
   have hww:w.heap.size≤WB:=by omega
   clear hr7 hs7 hWB hz6;go_wp2_with (fail)
   go_loopw [12,102] (fun s12 Uv wr=>∃ (i:Nat) (A:Option Addr) (C:Nat) (wd:List Int),i≤l.length∧Uv=.int .i64 i∧s12=.slice A (eF x.k (l.take i)).length C∧Go.Tk.Own wr 37 3 Nd.cells A (eF x.k (l.take i)).length C (eF x.k (l.take i))∧bQ w7.heap.size A∧
    gq wr 3 (some ⟨WB,0,none⟩) x.k.n x.k.n wd∧(∀ v:Nat,v<x.k.n→wd[v]?=some (tN (eF x.k (l.take i)) v:Int))∧ah (fun b=>b=WB) w7 wr) (fun _ Uv _=>l.length-(intOf Uv).toNat)
   case atStart=>exact⟨0,none,0,_,by omega,rfl,rfl,Own.nil _ _ _ _,aS _,HR7.out,(fun v hv=>by simp[hv,tN,eF]),ah.refl _ _⟩
   case round =>
    as_aux_lemma =>
    have abL:=Lib.hid HR7.out;clear HR7;obtain⟨i,A12,C12,wd,hi,rfl,rfl,hnd,Ny,hwd,hcv,hfr⟩:=hrel;have hSr:Same w wr:=vz.out.trans hfr (fun b hb hh=>by omega);have hRr:=HR6.out.ag hfr (fun y hy hh=>by have:=YZ.out y.block (.inr (.inl ⟨y,hy,rfl⟩));omega);have Rj:=Xq.out.ag hfr (fun y hy hh=>by have:=YZ.out y.block (.inr (.inr ⟨y,hy,rfl⟩));omega);have Y0:=q8.out.ag hfr (fun y hy hh=>by injection hy with hy;subst hy;exact absurd hh (by show ¬ LB=WB;omega));have hnl:=Dg (k:=x.k) (l.take i);rw[List.length_take] at hnl;obtain⟨nd,hne⟩:∃ z,eF x.k (l.take i)=z:=⟨_,rfl⟩;by_cases hlt:i<l.length
    ·have hI:(i:Int)<(l.length:Int):=by omega
     obtain⟨r,hr⟩:∃ r,l[i]?=some r:=⟨_,List.getElem?_eq_getElem hlt⟩;have hstep:=Am (k:=x.k) (l.take i) r;have htk:l.take (i+1)=l.take i++[r]:=by rw[List.take_add_one,hr];rfl
     rw[← htk] at hstep;have hlr:=HW.out.ll r (List.mem_of_getElem? hr);have hr0:=hlr.1;have hr1:r<4294967296:=by have:=oK hlr.2 hr0;omega
     have Uw:r∉l.take i:=fun h=>by
      obtain⟨j,hj,hjr⟩:=List.mem_take_iff_getElem.1 h;have h1:=List.pairwise_iff_getElem.1 HW.out.nd j i (by omega) hlt (by omega);rw[List.getElem?_eq_getElem hlt] at hr;injection hr with hr
      exact h1 (hjr.trans hr.symm)
     obtain⟨sb,hA4,hsb,d0⟩:=Rj.dQ (c:=rc) hr;unfold rc at d0;rw[hne] at hnd hcv hstep hnl ⊢;by_cases h2:r<2
     ·rw[if_neg (by omega)] at hstep;have HST:=Lib.hid hstep;have Le:=Lib.hid hnd;have HF:=Lib.hid Ny;have Pk:=Lib.hid hwd;have Sn:=Lib.hid hcv;have tZ:=Lib.hid hfr;clear hstep hnd Ny hwd hcv hfr hRr Rj Y0 hSr hlr Uw htk hr hne;subst hA4;go_wp2;go_roundw
      case rel=>exact⟨i+1,A12,C12,wd,by omega,by go_num,by rw[HST.out],by rw[HST.out];exact Le.out,HF.out,Pk.out,by rw[HST.out];exact Sn.out,tZ.out⟩
      case measure=>simp[intOf] <;> omega
     ·have h2':2≤r:=by omega
      rw[if_pos h2'] at hstep;have hmem:=nW HK.out hlr h2';have hnew:=JO HK.out (pre:=l.take i) (r:=r) (fun s hs=>HW.out.ll s (List.mem_of_mem_take hs)) hlr h2' Uw;rw[hne] at hnew;obtain⟨c0',c1',_,_,_,_,Xi⟩:=HK.out.bk.fo _ r hmem;have hcl:=wL HK.out hlr c0';have Fh:=fun m h=>HK.out.ord.lo _ r m hmem h
      have Rv:=fun m h=>HK.out.ord.hi _ r m hmem h
      have Fg:∀ c,(c=(aI x.k.ls r).lo∨c=(aI x.k.ls r).hi)→iP x.k c∧(0≤(aI x.k.ls c).v→(aI x.k.ls c).v<x.k.n∧bz x.k (aI x.k.ls r).v<bz x.k (aI x.k.ls c).v):=fun c hc=>by
       have hlc:iP x.k c:=by
        rcases hc with h | h
        ·rw[h];exact hcl.1
        ·rw[h];exact hcl.2
       refine⟨hlc,fun hv=>?_⟩;have hc2:2≤c:=by
        rcases(HK.out.live hlc.1).1 hlc.2 with h | h | ⟨n,hn⟩
        ·rw[HK.out.const (.inl h)] at hv;omega
        ·rw[HK.out.const (.inr h)] at hv;omega
        ·exact(HK.out.mem' hn).1
       have hcm:=nW HK.out hlc hc2;refine⟨(HK.out.bk.fo _ c hcm).2.1,?_⟩;rcases hc with rfl | rfl
       ·exact Fh _ hcm
       ·exact Rv _ hcm
      have hE:fQ x.k.ls r=0:=by unfold fQ;rw[if_pos hlr.2]
      have hkn:=Ad (Og.out _ hSr) r hr0 hr1;rw[hE] at hkn;have hc1:(aI x.k.ls r).lo<4294967296:=by have:=oK hcl.1.2 hcl.1.1;omega
      have hc2:(aI x.k.ls r).hi<4294967296:=by have:=oK hcl.2.2 hcl.2.1;omega
      obtain⟨⟨v,lo,hi'⟩,hn⟩:∃ z,aI x.k.ls r=z:=⟨_,rfl⟩;rw[hn] at hkn hstep hnew Fg c0' c1' Xi hc1 hc2;unfold Nd.val at hkn;simp only at Fg c0' c1' Xi hc1 hc2;obtain⟨m,rfl⟩:=Int.eq_ofNat_of_zero_le c0';have hm:m<x.k.n:=by omega
      have xD:=Lib.hid hkn;have HST:=Lib.hid hstep;have Uu:=Lib.hid hnew;have Y2:=Lib.hid Fg;have Le:=Lib.hid hnd;have HF:=Lib.hid Ny;have Pk:=Lib.hid hwd;have Sn:=Lib.hid hcv;have tZ:=Lib.hid hfr;have EH:=Lib.hid hSr;have Vj:=Lib.hid Y0;clear hkn hstep hnew Fg hnd Ny hwd hcv hfr hRr Rj Y0 hSr hlr Uw htk hr hne hcl Fh Rv hmem hE hn;subst hA4;obtain⟨hxl,c0⟩:=HC.out _ EH.out;go_wp2_with (fail)
      refine xD.out.mono ?_;rintro e w9 ⟨rfl,Lh⟩;have Sc:=Lib.hid Lh;clear Lh hxl c0 d0 hsb xD;go_upto_region 22 with fail
      refine ai fun Y3 Ux=>?_
      have hT:=ax.new w9 37 #[.int .i64 m,.int .u32 lo,.int .u32 hi'];have PD:Same w9 Y3:=by rw[Ux];exact(ah.refl _ _).alloc _
      rw[← Ux] at hT;clear Ux;obtain⟨T,hTe⟩:∃ z,w9.heap.size=z:=⟨_,rfl⟩;rw[hTe] at hT ⊢;have Dw:Hid (wr.heap.size≤T):=Lib.hid (by rw[← hTe];exact Sc.out.size);have HT:=Lib.hid hT;have Y4:=Lib.hid (Sc.out.trans PD (fun _ _ h=>h));clear hT PD hTe Sc;have t0:=HT.out.cell 0;have t1:=HT.out.cell 1;have t2:=HT.out.cell 2;have tl:=HT.out.lt;simp at t0 t1 t2;have hv0:¬ (m:Int)<0:=by omega
      have hmn:¬ (m:Int)≥(x.k.n:Int):=by omega
      have hlh:¬ lo=hi':=Xi;go_wp2_with (fail)
      refine ai fun w11 Uy=>?_
      have Uz:Same Y3 w11:=by rw[Uy];exact(ah.refl _ _).alloc _
      have hCB:=Go.Tk.Own.lit Y3 28 (fun x=>[rc x]) (fun _=>rfl) [lo,hi'] (by simp[maxLen]) (cs:=#[.int .u32 lo,.int .u32 hi']) (by simp[rc]);have UA:Row1 w11 28 rc (some ⟨Y3.heap.size,0,none⟩) 2 2 [lo,hi']:=by rw[Uy];exact hCB
      clear Uy hCB;replace HT:=Lib.hid (HT.out.ag Uz id);have UC:=Lib.hid (Y4.out.trans Uz (fun _ _ h=>h));obtain⟨CB,SQ⟩:∃ z,Y3.heap.size=z:=⟨_,rfl⟩;rw[SQ] at UA ⊢;have Mw:=Lib.hid UA;clear Uz UA SQ t0 t1 t2 tl Y4;have yJ:=Lib.hid (EH.out.trans UC.out (fun _ _ h=>h));go_loopw [139] (fun s wr2=>∃ j:Nat,j≤2∧s=.int .i64 j∧Same w11 wr2) (fun s _=>2-(intOf s).toNat)
      case atStart=>exact⟨0,by omega,rfl,ah.refl _ _⟩
      case round =>
       as_aux_lemma =>
       obtain⟨j,hj,rfl,hs3⟩:=hrel;have dY:=Lib.hid hs3;clear hs3;by_cases hj2:j<2
       ·have hJ:(j:Int)<2:=by omega
        obtain⟨c,hc⟩:∃ c,[lo,hi'][j]?=some c:=⟨_,List.getElem?_eq_getElem hj2⟩;have hcc:c=lo∨c=hi':=by
         have:=List.mem_of_getElem? hc
         simpa using this
        obtain⟨hlc,hcv⟩:=Y2.out c hcc;obtain⟨cb,hA,hcl,d0⟩:=(Mw.out.ag dY.out (fun _ _=>id)).dQ (c:=rc) hc;injection hA with hA
        injection hA with hA
        subst hA;unfold rc at d0;have hr3:c<4294967296:=by have:=oK hlc.2 hlc.1;omega
        have hSr:=yJ.out.trans dY.out (fun _ _ h=>h);have hkn:=Ad (Og.out _ hSr) c hlc.1 hr3;have hE:fQ x.k.ls c=0:=by unfold fQ;rw[if_pos hlc.2]
        rw[hE] at hkn;obtain⟨⟨v2,lo2,hi2⟩,hn⟩:∃ z,aI x.k.ls c=z:=⟨_,rfl⟩;rw[hn] at hkn hcv;unfold Nd.val at hkn;simp only at hcv;have xD:=Lib.hid hkn;obtain⟨hxl,c0⟩:=HC.out _ hSr;have abM:=Lib.hid hcv;clear hkn hn hE hSr hc hcc hlc hcv;go_wp2_with (fail)
        refine xD.out.mono ?_;rintro e w12 ⟨rfl,MC⟩;have Jk:=Lib.hid (dY.out.trans MC (fun _ _ h=>h));clear MC hxl c0 d0 hcl xD;go_upto_region 28 with fail
        refine ai fun w13 Fs=>?_
        have EN:=ax.new w12 37 #[.int .i64 v2,.int .u32 lo2,.int .u32 hi2];have Nz:Same w12 w13:=by rw[Fs];exact(ah.refl _ _).alloc _
        rw[← Fs] at EN;clear Fs;have sW:=Jk.out.trans Nz (fun _ _ h=>h);have hT1:=HT.out.ag sW id;have t0:=hT1.cell 0;have tl:=hT1.lt;have u0:=EN.cell 0;have ul:=EN.lt;simp at t0 u0;have hV:=Vj.out.ag (UC.out.trans sW (fun _ _ h=>h)) (fun _ _=>id);have Qs:=Lib.hid sW;obtain⟨lb1,hA1,hl1,e1⟩:=hV.dQ (c:=fun x:Int=>.int .i64 x) (zw.out m hm);injection hA1 with hA1
        injection hA1 with hA1
        subst hA1;clear Nz sW hT1 EN;have hM:(m:Int)<(x.k.n:Int):=by omega
        by_cases hv2:0≤v2
        ·obtain⟨g1,g2⟩:=abM.out hv2;obtain⟨m2,rfl⟩:=Int.eq_ofNat_of_zero_le hv2;have hm2:m2<x.k.n:=by omega
         obtain⟨lb2,hA2,abN,e2⟩:=hV.dQ (c:=fun x:Int=>.int .i64 x) (zw.out m2 hm2);injection hA2 with hA2
         injection hA2 with hA2
         subst hA2;have hM2:¬ (m2:Int)≥(x.k.n:Int):=by omega
         have jo:(m2:Int)<(x.k.n:Int):=by omega
         obtain⟨y1,hy1⟩:∃ z,bz x.k (m:Int)=z:=⟨_,rfl⟩;obtain⟨y2,hy2⟩:∃ z,bz x.k (m2:Int)=z:=⟨_,rfl⟩;rw[hy1] at e1 g2;rw[hy2] at e2 g2;have Ob:¬ y2≤y1:=by omega
         clear hV hy1 hy2;refine aJ (fun _=>False) [([0,1,2,3,4,5,6,7,8,9,10,11,12,13,14,15,16,17,18,19,20],21)] (by kernel_rfl) (by kernel_rfl) ?_;rw[aT];simp only[pick,List.map_cons,List.map_nil,List.getD_cons_zero,List.getD_cons_succ];repeat go_big_quiet_step (fail)
         rw[aA];go_wp2;go_roundw
         case rel=>exact⟨j+1,by omega,by go_num,Qs.out.trans ((ah.refl _ _).drew) (fun _ _ h=>h)⟩
         case measure=>simp[intOf] <;> omega
        ·clear hV;refine aJ (fun _=>False) [([0,1,2,3,4,5,6,7,8,9,10,11,12,13,14,15,16,17,18,19,20],21)] (by kernel_rfl) (by kernel_rfl) ?_;rw[aT];simp only[pick,List.map_cons,List.map_nil,List.getD_cons_zero,List.getD_cons_succ];repeat go_big_quiet_step (fail)
         rw[aA];go_wp2;go_roundw
         case rel=>exact⟨j+1,by omega,by go_num,Qs.out.trans ((ah.refl _ _).drew) (fun _ _ h=>h)⟩
         case measure=>simp[intOf] <;> omega
       ·obtain rfl:j=2:=by omega
        clear hj2 Mw Y2 hj;go_wp2_with (fail)
        go_loopw [177] (fun s wr3=>∃ j:Nat,j≤nd.length∧s=.int .i64 j∧Same w11 wr3) (fun s _=>nd.length-(intOf s).toNat)
        case atStart=>exact⟨0,by omega,rfl,dY.out⟩
        case round =>
         as_aux_lemma =>
         clear dY;obtain⟨j,hj,rfl,hs3⟩:=hrel;have dY:=Lib.hid hs3;have Y5:=Lib.hid (UC.out.trans hs3 (fun _ _ h=>h));clear hs3;by_cases hjl:j<nd.length
         ·have hJ:(j:Int)<(nd.length:Int):=by omega
          obtain⟨⟨v2,lo2,hi2⟩,hm2⟩:∃ z,nd[j]?=some z:=⟨_,List.getElem?_eq_getElem hjl⟩;have hne2:=Uu.out _ (List.mem_of_getElem? hm2);have heq:∀ w,(binOp .eql 37 (.agg #[.int .i64 m,.int .u32 lo,.int .u32 hi']) (.agg #[.int .i64 v2,.int .u32 lo2,.int .u32 hi2])).run Tryz.prog w=.ok (.bool false) w:=fun w=>by
           have h:=RN ⟨m,lo,hi'⟩ ⟨v2,lo2,hi2⟩ w;rw[decide_eq_false (fun h=>hne2 h.symm)] at h;exact h
          obtain⟨nb,hA,hnb,hnc⟩:=(Le.out.ag Y5.out (fun _ _=>id)).get wS hm2;have d0:wr.cell? ⟨nb,j*3,none⟩=some (.int .i64 v2):=hnc 0 (by omega);have d1:wr.cell? ⟨nb,j*3+1,none⟩=some (.int .u32 lo2):=hnc 1 (by omega);have d2:wr.cell? ⟨nb,j*3+2,none⟩=some (.int .u32 hi2):=hnc 2 (by omega);clear hne2 hm2 hnc;subst hA;go_upto_region 34 with fail
          refine ai fun w13 Fs=>?_
          have EN:=ax.new wr 37 #[.int .i64 v2,.int .u32 lo2,.int .u32 hi2];have Nz:Same wr w13:=by rw[Fs];exact(ah.refl _ _).alloc _
          rw[← Fs] at EN;clear Fs d0 d1 d2 hnb;have sW:=dY.out.trans Nz (fun _ _ h=>h);have hT1:=HT.out.ag sW id;have t0:=hT1.cell 0;have t1:=hT1.cell 1;have t2:=hT1.cell 2;have tl:=hT1.lt;have u0:=EN.cell 0;have u1:=EN.cell 1;have u2:=EN.cell 2;have ul:=EN.lt;simp at t0 t1 t2 u0 u1 u2;have Qs:=Lib.hid sW;clear Nz sW hT1 EN;go_wp2;go_roundw
          case rel=>exact⟨j+1,by omega,by go_num,Qs.out⟩
          case measure=>simp[intOf] <;> omega
         ·obtain rfl:j=nd.length:=by omega
          have hJ:¬ ((nd.length:Nat):Int)<(nd.length:Int):=by omega
          have hT1:=HT.out.ag dY.out id;have t0:=hT1.cell 0;have t1:=hT1.cell 1;have t2:=hT1.cell 2;have tl:=hT1.lt;simp at t0 t1 t2;clear hT1 hjl hj;go_upto_region 37 with fail
          refine aV 2 ?_;simp only[List.take_succ_cons,List.take_zero,List.drop_succ_cons,List.drop_zero];repeat (any_goals (first | go_big_quiet_step (fail) | quiet_step (fail)))
          refine wpQuiet_nil ?_;refine wpList_plain rfl fun K hK=>?_
          go_simp;refine hK _ _ ?_;clear hK K;refine aQ fun wa dR=>?_
          have hL:=ax.new wr 37 #[.int .i64 m,.int .u32 lo,.int .u32 hi'];have hsa:Same wr wa:=by rw[dR];exact(ah.refl _ _).alloc _
          rw[← dR] at hL;clear dR;have NA:=Y5.out.trans hsa (fun _ _ h=>h);have hrow:=Le.out.ag NA (fun _ _=>id);refine Own.aR (f:=Nd.cells) rfl (.tmp 185) (.tmp 187) _ rfl Tryz.underlying121 Fq rfl (by omega) rfl hrow wS ⟨m,lo,hi'⟩ wr.heap.size 1 rfl (by unfold Nd.cells;exact hL) (by simp[Value.oneCell',Nd.cells]) (by unfold maxLen;omega) (by omega) ?_;intro gg cap wb hOb hgb hat;have hWa:=Pk.out.ag NA (fun _ _=>id);have Y6:=hWa.gH hgb (fun b hb hA=>hrow.aL hWa (by decide) b (af.1 hb) hA);have NW:=(HT.out.ag dY.out id).ag hsa id;have hgrow:∀ g,(Value.slice A12 nd.length C12).ownBlock=some g→w7.heap.size≤g:=fun g hg=>HF.out g (af.1 hg)
          have wZ:ah (fun b=>b=WB) w7 wb:=(tZ.out.trans NA (fun _ _ h=>h.elim)).grown hgb (fun g hg=>.inr (hgrow g hg));have hnew:bQ w7.heap.size (some ⟨gg,0,none⟩):=fun b hb=>by
           obtain⟨y,hy,rfl⟩:=hb;injection hy with hy
           subst hy;rcases hat with h | h
           ·exact hgrow gg h
           ·have h1:=tZ.out.size;have h2:=NA.size;show w7.heap.size≤gg;omega
          have hM:(m:Int)<(x.k.n:Int):=by omega
          have hcnt:=Sn.out m hm;have hcb:tN nd m≤nd.length:=Qr _ _;obtain⟨cn,hcn⟩:∃ z,tN nd (m:Int)=z:=⟨_,rfl⟩;rw[hcn] at hcnt hcb;obtain⟨wb',hA',hwl,d3⟩:=Y6.dQ (c:=fun x:Int=>.int .i64 x) hcnt;injection hA' with hA'
          injection hA' with hA'
          subst hA';have fk:=Own.free Y6 m;have Y7:=Y6.len;have hpt:=Own.l5 (c:=fun x:Int=>.int .i64 x) Y6 (i:=m) (by omega) ((cn:Int)+1);have Y8:∀ y,(some ⟨gg,0,none⟩:Option Addr)=some y→y.block≠WB:=fun y hy h=>by
           have h1:=hnew y.block ⟨y,hy,rfl⟩;have h2:=dV abL.out (b:=WB) ⟨_,rfl,rfl⟩;omega
          have hOc:=Own.far (p:=⟨WB,m,none⟩) hOb Y8 (.int .i64 ((cn:Int)+1));have Y9:∀ v:Nat,v<x.k.n→(wd.set m ((cn:Int)+1))[v]?=some (tN (nd++[⟨m,lo,hi'⟩]) v:Int):=fun v hv=>by
           rw[JN];by_cases he:m=v
           ·subst he;rw[if_pos rfl,List.getElem?_set_self (by omega),hcn];rfl
           ·rw[if_neg (show ¬ ((m:Nat):Int)=v by omega),List.getElem?_set_ne he];exact Sn.out v hv
          have OJ:=NW.grown hgb (fun hx=>by
           obtain⟨y,hy,hyb⟩:=af.1 hx.symm;have h1:=HF.out y.block ⟨y,hy,rfl⟩;have h2:=dV Le.out (b:=y.block) ⟨y,hy,rfl⟩;have h3:=Dw.out
           omega)
          have s0:=OJ.cell 0;have sl:=OJ.lt;simp at s0;have VK:=Lib.hid hpt;have HOC:=Lib.hid hOc;have abO:=Lib.hid Y9;have UX:=Lib.hid hnew;have J8:=Lib.hid (wZ.set m (.int .i64 ((cn:Int)+1)) rfl:ah (fun b=>b=WB) w7 (wb.setCell ⟨WB,m,none⟩ (.int .i64 ((cn:Int)+1))));clear hOb hgb hat hWa Y6 NW hgrow wZ hnew hcnt hcn hpt Y8 hOc Y9 OJ hrow hL hsa NA t0 t1 t2 tl Y7;go_wp2;go_roundw
          case rel=>exact⟨i+1,some ⟨gg,0,none⟩,cap,_,by omega,by go_num,by rw[HST.out,List.length_append];rfl,by rw[HST.out,List.length_append];exact HOC.out,UX.out,VK.out,by rw[HST.out];exact abO.out,J8.out⟩
          case measure=>simp[intOf] <;> omega
    ·obtain rfl:i=l.length:=by omega
     have hI:¬ ((l.length:Nat):Int)<(l.length:Int):=by omega
     have hcw:∀ v:Nat,v<x.k.n→wd[v]?=some (N9 x.k v:Int):=fun v hv=>by
      have h:=hcv v hv;rw[List.take_length,Nv HK.out HW.out v hv] at h;exact h
     have Za:∀ v:Nat,v<x.k.n→lv[v]?=some (zJ x.k v):=fun v hv=>by
      rw[zw.out v hv];unfold zJ;rw[if_pos ⟨by omega,by omega⟩]
     have hle:∀ v:Nat,v<x.k.n→tH x.k v=0:=fun v hv=>by
      unfold tH;rw[if_pos ⟨by omega,by omega⟩]
     obtain⟨w20,rfl⟩:∃ z,z=wr:=⟨_,rfl⟩;have HCW:=Lib.hid hcw;have HLW:=Lib.hid Za;have Dm:=Lib.hid hle;have Pk:=Lib.hid hwd;have Vj:=Lib.hid Y0;have HRR:=Lib.hid hRr;have EH:=Lib.hid hSr;clear hcw Za hle hwd Y0 hRr hSr hnd Ny hcv hfr Rj hnl hne hlt;go_wp2_with (fail)
     go_loopw [23] (fun s wr=>∃ v:Nat,v≤x.k.n∧s=.int .i64 v∧w20=wr) (fun s _=>x.k.n-(intOf s).toNat)
     case atStart=>exact⟨0,by omega,rfl,rfl⟩
     case round =>
      obtain⟨v,hv,rfl,rfl⟩:=hrel;obtain⟨hxl,c0⟩:=HC.out _ EH.out;by_cases hvl:v<x.k.n
      ·have hJ:(v:Int)<(x.k.n:Int):=by omega
       have h1:=Ng (Og.out _ EH.out) v;have h2:=Nh (Og.out _ EH.out) v;have g1:=HCW.out v hvl;have g2:=HLW.out v hvl;rw[Dm.out v hvl] at h1 h2;obtain⟨y1,hy1⟩:∃ z,N9 x.k (v:Int)=z:=⟨_,rfl⟩;obtain⟨y2,hy2⟩:∃ z,zJ x.k (v:Int)=z:=⟨_,rfl⟩;rw[hy1] at h1 g1;rw[hy2] at h2 g2;obtain⟨b1,hA1,hl1,e1⟩:=Pk.out.dQ (c:=fun x:Int=>.int .i64 x) g1;injection hA1 with hA1
       injection hA1 with hA1
       subst hA1;obtain⟨b2,hA2,abN,e2⟩:=Vj.out.dQ (c:=fun x:Int=>.int .i64 x) g2;injection hA2 with hA2
       injection hA2 with hA2
       subst hA2;have H1:=Lib.hid h1;have H2:=Lib.hid h2;clear h1 h2 g1 g2 hy1 hy2;go_wp2_with (fail)
       refine H1.out.mono ?_;rintro e wy ⟨rfl,rfl⟩;go_wp2_with (fail)
       refine H2.out.mono ?_;rintro e wy ⟨rfl,rfl⟩;go_wp2;go_roundw
       case rel=>exact⟨v+1,by omega,by go_num,trivial⟩
       case measure=>simp[intOf] <;> omega
      ·obtain rfl:v=x.k.n:=by omega
       have hJ:¬ ((x.k.n:Nat):Int)<(x.k.n:Int):=by omega
       have hho:=Yy.out _ EH.out A3 C3 HRR.out;have Qt:=Lib.hid hho;clear hho;go_wp2_with (fail)
       refine Qt.out.mono ?_;rintro e wy ⟨rfl,rfl⟩;go_wp2;go_ret;exact⟨rfl,EH.out⟩
end
section
variable {w w':World} {B C:Nat→Prop} {xb m:Nat} {x:RS} {q:RA} {pl:List Nat}
end
section
variable {w w':World} {B C F:Nat→Prop} {xb yb:Nat} {x y x':RS} {q p q':RA}
def Vp (F:Nat→Prop) (w:World) (xb:Nat) (x:RS) (q:RA):Prop :=
 (∀ b,F b→b<w.heap.size)∧∀ (S C:Nat→Prop) (w':World),ah S w w'→(∀ b,F b→¬ S b)→(∀ b,C b→¬ F b)→RW C w' xb x q
theorem RW.cov (h:RW B w xb x q):∃ F,Vp F w xb x q∧∀ b,F b→¬ B b:=by
 obtain⟨a,k1,k2⟩:=h.k.ex;refine⟨fun b=>Rq xb q b∨gX x.k.n q.kp a b,⟨fun b hb=>hb.elim (h.Vi b) (fun h=>k1.lt h),fun S C w' hf hS hC=>?_⟩,fun b hb hn=>hb.elim (fun h2=>h.base b h2 hn) (fun h2=>k2 b h2 (.inl hn))⟩;refine⟨h.blk.ag hf (hS _ (.inl (.inl rfl))),⟨⟨a,k1.ag hf (fun b hb=>hS b (.inr hb)),fun b hb hn=>?_⟩,h.k.ki⟩,h.refs.ag hf (fun y hy=>hS _ (.inl (.inr (.inl ⟨y,hy,rfl⟩)))),h.held.ag hf (fun y hy=>hS _ (.inl (.inr (.inr ⟨y,hy,rfl⟩)))),fun b hb hn=>hC b hn (.inl hb)⟩;rcases hn with hn | hn
 ·exact hC b hn (.inr hb)
 ·exact k2 b hb (.inr hn)
theorem Vp.ag {S:Nat→Prop} (h:Vp F w xb x q) (hf:ah S w w') (hS:∀ b,F b→¬ S b):Vp F w' xb x q :=
 ⟨fun b hb=>Nat.lt_of_lt_of_le (h.1 b hb) hf.size,fun S' C w'' hf' hS' hC=>h.2 (fun b=>S b∨S' b) C w'' ((ah.mono hf (fun _ _ h=>.inl h)).trans hf' (fun _ _ h=>.inr h)) (fun b hb hn=>hn.elim (hS b hb) (hS' b hb)) hC⟩
structure Dh (B:Nat→Prop) (w:World) (xb:Nat) (x:RS) (q:RA) (yb:Nat) (y:RS) (p:RA):Prop where
 ex:∃ FX FY:Nat→Prop,Vp FX w xb x q∧Vp FY w yb y p∧(∀ b,FX b→¬ FY b)∧(∀ b,FX b→¬ B b)∧(∀ b,FY b→¬ B b)
theorem Dh.swap (h:Dh B w xb x q yb y p):Dh B w yb y p xb x q:=by
 obtain⟨FX,FY,a,b,c,d,e⟩:=h.ex;exact⟨FY,FX,b,a,fun t h1 h2=>c t h2 h1,e,d⟩
theorem Dh.left (h:Dh B w xb x q yb y p):∃ D:Nat→Prop,(∀ b,B b→D b)∧(∀ b,D b→B b∨b<w.heap.size)∧RW D w xb x q∧∀ (w':World) (x':RS) (q':RA),RW D w' xb x' q'→Up D w w'→Dh B w' xb x' q' yb y p:=by
 obtain⟨FX,FY,a,b,c,d,e⟩:=h.ex;refine⟨fun t=>B t∨FY t,fun _ h=>.inl h,fun t ht=>ht.imp id (b.1 t),a.2 (fun _=>False) _ w (ah.refl _ _) (fun _ _=>id) (fun t ht hn=>ht.elim (d t hn) (c t hn)),fun w' x' q' hX hU=>?_⟩;obtain⟨F,f1,f2⟩:=hX.cov;exact⟨F,FY,f1,b.ag hU (fun t ht hn=>hn (.inr ht)),fun t h1 h2=>f2 t h1 (.inr h2),fun t h1 h2=>f2 t h1 (.inl h2),e⟩
theorem Dh.turned (h:Dh B w xb x q yb y p) {S:Nat→Prop} (hf:ah S w w') (hS:∀ b,S b→B b) (hC:∀ b,C b→B b∨w.heap.size≤b):Dh C w' xb x q yb y p:=by
 obtain⟨FX,FY,a,b,c,d,e⟩:=h.ex;refine⟨FX,FY,a.ag hf (fun t ht hn=>d t ht (hS t hn)),b.ag hf (fun t ht hn=>e t ht (hS t hn)),c,fun t ht hn=>?_,fun t ht hn=>?_⟩
 ·rcases hC t hn with h1 | h1
  ·exact d t ht h1
  ·have:=a.1 t ht
   omega
 ·rcases hC t hn with h1 | h1
  ·exact e t ht h1
  ·have:=b.1 t ht
   omega
theorem Dh.of (hX:RW B w xb x q) (hY:RW C w' yb y p) (hs:Same w w') (hBC:∀ b,B b→C b) (hC:∀ b,b<w.heap.size→C b):Dh B w' xb x q yb y p:=by
 obtain⟨FX,a,d⟩:=hX.cov;obtain⟨FY,b,e⟩:=hY.cov;exact⟨FX,FY,a.ag hs (fun _ _=>id),b,fun t h1 h2=>e t h2 (hC t (a.1 t h1)),d,fun t h1 h2=>e t h1 (hBC t h2)⟩
theorem Dh.rx (h:Dh B w xb x q yb y p):RW B w xb x q:=by
 obtain⟨D,h1,_,h3,_⟩:=h.left;exact h3.sub h1
theorem Dh.ry (h:Dh B w xb x q yb y p):RW B w yb y p:=h.swap.rx
theorem RW.popped {k:KS} {rs hs:List Int} {a c:Int} (h:RW B w yb ⟨k,rs++[a],hs++[c]⟩ p) (hl:hs.length=rs.length) (hB:∀ b,B b→b<w.heap.size) :
  RW B ((w.setCell ⟨yb,1,none⟩ (.slice p.rA rs.length p.rC)).setCell ⟨yb,2,none⟩ (.slice p.hA rs.length p.hC)) yb ⟨k,rs,hs⟩ p∧Up B w ((w.setCell ⟨yb,1,none⟩ (.slice p.rA rs.length p.rC)).setCell ⟨yb,2,none⟩ (.slice p.hA rs.length p.hC)):=by
 have h1:=h.uy (w':=w.setCell ⟨yb,1,none⟩ (.slice p.rA rs.length p.rC)) (rs:=rs) (A2:=p.rA) (C2:=p.rC) ((ah.refl _ _).set 1 _ (.inl rfl)) (by
   have:=h.blk.set 1 (.slice p.rA rs.length p.rC)
   simpa [jQ] using this)
  (Own.far (p:=⟨yb,1,none⟩) (Own.VA h.refs) (fun y hy he=>Own.av h.refs h.blk (by decide) y hy he) _) (fun b hb=>.inl hb) hB
 have h2:=h1.1.uz (w':=(w.setCell ⟨yb,1,none⟩ (.slice p.rA rs.length p.rC)).setCell ⟨yb,2,none⟩ (.slice p.hA rs.length p.hC)) (hs:=hs) (A2:=p.hA) (C2:=p.hC) ((ah.refl _ _).set 2 _ (.inl rfl)) (by
   have:=h1.1.blk.set 2 (.slice p.hA rs.length p.hC)
   simpa [jQ,hl] using this)
  (Own.far (p:=⟨yb,2,none⟩) (Go.Tk.Own.pop (f:=eU) (fun _=>rfl) h1.1.held) (fun y hy he=>Own.av h1.1.held h1.1.blk (by decide) y hy he) _) (fun b hb=>.inl hb) (fun b hb=>Nat.lt_of_lt_of_le (hB b hb) h1.2.size)
 exact⟨h2.1,h1.2.trans h2.2⟩
end
def iQ (p:PS) (k:Nat):List Bool:=((List.range k).map fun i:Nat=>!bW (countP p) i)++p.dead.drop k
theorem sw {p:PS} {k:Nat} (h:k≤p.dead.length):(iQ p k).length=p.dead.length:=by
 unfold iQ;simp;omega
theorem JQ {p:PS} {k:Nat}:(iQ p k).getD k true=p.dead.getD k true:=by
 unfold iQ;rw[List.getD_eq_getElem?_getD,List.getD_eq_getElem?_getD,List.getElem?_append_right (by simp)];simp
theorem JR {p:PS} {k:Nat} (h:k<p.dead.length):(iQ p k).set k (!bW (countP p) k)=iQ p (k+1):=by
 unfold iQ;rw[List.set_append_right _ _ (by simp),List.length_map,List.length_range,Nat.sub_self,List.range_succ,List.map_append];rw[List.drop_eq_getElem_cons h,List.set_cons_zero,List.append_assoc];rfl
theorem JS {p:PS} (h:p.dead.length=p.ts.length):{ countP p with dead:=iQ p p.ts.length }=fM p:=by
 unfold iQ fM;rw[List.drop_of_length_le (by omega)];simp
theorem Di {p:PS} {k:Nat}:bW { countP p with dead:=iQ p k } k=bW (countP p) k:=by
 unfold bW;simp only[Int.toNat_natCast];rw[JQ];rfl
section
variable {w w':World} {B:Nat→Prop} {pp:Nat} {p:PS} {q:PA} {n:Nat} {t:Tb} {kp:Nat} {k:KS} {a:KA}
theorem JU (hP:PW B w pp p q) (hB:∀ b,B b→b<w.heap.size) (K:KI p.k) (hg:Uf p.k) (ho:eY p.m) (hd:p.dead.length=p.ts.length) (hr:p.refs.length=p.ts.length) (hrg:∀ x∈p.refs,0≤x∧x<4294967296)
  (htl:p.ts.length≤4000000000000) (hol:p.k.ord.length≤64) (hac:p.k.ac≤4000000) (L:M5 p) :
  Calls Tryz.prog 28 #[.pointer (some ⟨pp,0,none⟩)] w fun e w'=>e=.returned (.bool true)∧(∃ q',PW B w' pp (fM p) q')∧Up B w w':=by
 have hcl:=yN hP ho hB;have hn16:=hP.m.n16;have hl3:=Cx p.m (by have:=hP.m.hl;omega) hP.m.ol p.m.ord.length hP.m.ol;rw[List.take_of_length_le (by unfold aM;rw[eu];simp)] at hl3;have uk:=Lib.hid hcl;have NZ:=Lib.hid (show(qD p.m).length≤2097152000000 from hl3);have HD:=Lib.hid hd;have HR:=Lib.hid hr;have Qf:=Lib.hid hrg;have acU:=Lib.hid htl;have HL:=Lib.hid L;have HK:=Lib.hid K;have HG:=Lib.hid hg;have HO:=Lib.hid ho;have YD:=Lib.hid hol;have HAC:=Lib.hid hac;have NB:=Lib.hid hn16;clear hP hcl hl3 hd hr hrg L K hg ho hol hac hn16;go_enter Tryz.func28,Tryz.ntmps28;go_wp2_with (fail)
 refine uk.out.mono ?_;rintro e w1 ⟨rfl,⟨q1,hP1⟩,SE⟩;have hB1:∀ b,B b→b<w1.heap.size:=fun b hb=>by have:=hB b hb;have:=SE.size;omega
 have hpl:=hP1.blk.lt;have c3:=hP1.c3;rw[hP1.tl] at c3;replace c3:w1.cell? ⟨pp,3,none⟩=some (.slice q1.tA p.ts.length q1.tC):=c3;have Au:=Lib.hid hP1;have SV:=Lib.hid SE;clear hP1 SE;go_upto_region 3 with fail
 clear c3 hpl;go_loopw [25] (fun i wr=>∃ k:Nat,k≤p.ts.length∧i=.int .i64 k∧(∃ q',PW B wr pp { countP p with dead:=iQ p k } q')∧Up B w wr∧w.heap.size≤wr.heap.size) (fun i _=>p.ts.length-(intOf i).toNat)
 case atStart=>exact⟨0,Nat.zero_le _,rfl,⟨q1,by have:=Au.out;exact this⟩,SV.out,SV.out.size⟩
 case round =>
  as_aux_lemma =>
  obtain⟨k,hk,rfl,⟨q',kM⟩,hU,hsz⟩:=hrel;by_cases hlt:k<p.ts.length
  ·have hI:(k:Int)<(p.ts.length:Int):=by omega
   have hlv:=fun w' (hs:Same wr w')=>kN (kM.same hs) (by rw[sw (by rw[HD.out];exact hk)];exact HD.out) NZ.out k
   rw[Di] at hlv;obtain⟨lb,hlb⟩:∃ z,bW (countP p) k=z:=⟨_,rfl⟩;rw[hlb] at hlv;have hdl:(iQ p k).length=p.ts.length:=by rw[sw (by rw[HD.out];exact hk),HD.out]
   obtain⟨d,hdd⟩:∃ d,(iQ p k)[k]?=some d:=⟨_,List.getElem?_eq_getElem (by rw[hdl];exact hlt)⟩;obtain⟨db,hdb,TK,d0⟩:=kM.ds.dQ (c:=fun b:Bool=>.bool b) hdd;have hpl:=kM.blk.lt;have c5:=kM.c5;simp only at c5 hdb;rw[hdl,hdb] at c5;have f5:=kM.ds;have hst:iQ p (k+1)=(iQ p k).set k (!lb):=by rw[← hlb,JR (by rw[HD.out];exact hlt)]
   have zw:=Lib.hid hlv;have Cy:=Lib.hid kM;have HU:=Lib.hid hU;have HST:=Lib.hid hst;have YR:=Lib.hid hdb;have Dr:=Lib.hid hdl;have HDD:=Lib.hid hdd;clear hlv kM hU hst hdb hdl hlb hdd f5;go_upto_region 5 with fail
   refine aJ (fun _=>False) [([0,1,2,3,4,5,6],7),([8,9],10)] (by kernel_rfl) (by kernel_rfl) ?_;simp only[cK,pick,List.map_cons,List.map_nil,List.getD_cons_zero,List.getD_cons_succ];have hs:Same wr wr.drew:=(ah.refl _ _).drew;repeat (any_goals (first | go_big_quiet_step (fail) | quiet_step (fail)))
   refine wpQuiet_nil ?_;refine aa rfl fun K hK=>?_
   go_simp;refine(zw.out _ hs).mono ?_;rintro e w2 ⟨rfl,hs2⟩;have kI:=hs.trans hs2 (fun _ _ h=>h);refine hK _ _ (aZ.bu kI) ?_;clear hK K;have hP2:=Cy.out.same kI;have NC:=YR.out;have hds:=hP2.ds;have hB2:∀ b,B b→b<w2.heap.size:=fun b hb=>by have:=hB b hb;have:=kI.size;omega
   have hsz2:=kI.size;clear d0 TK;have hne:pp≠db:=fun h=>hP2.ds.av hP2.blk (by decide) _ NC h.symm
   have UD:(iQ p (k+1)).length=p.ts.length:=by rw[sw (by rw[HD.out];exact hlt),HD.out]
   simp only at hds;rw[NC] at hds;have fk:=Own.free hds k;obtain⟨db',ND,TK,d0⟩:=hds.dQ (c:=fun b:Bool=>.bool b) HDD.out;injection ND with ND
   injection ND with ND
   subst ND;have hpt:=Own.l5 (c:=fun b:Bool=>.bool b) hds (i:=k) (by rw[Dr.out];exact hlt) (!lb);rw[← HST.out,Dr.out,← UD,← NC] at hpt
   have hto:=hP2.Rn (w':=w2.setCell ⟨db,k,none⟩ (.bool (!lb))) (ds:=iQ p (k+1)) (A2:=q'.dA) (C2:=q'.dC) ((ah.refl _ _).set k _ (.inr ⟨_,NC,rfl⟩)) (by
    have hb:=hP2.blk.far (p:=⟨db,k,none⟩) hne (.bool (!lb))
    simpa [fZ,Dr.out,UD] using hb) hpt (fun b hb=>.inl hb) hB2
   have oF:=Lib.hid hto;have HS2:=Lib.hid kI;clear hto hpt hds hP2 hne NC hB2 hs hs2 kI UD c5 hpl;repeat (any_goals (first | go_big_quiet_step (fail) | quiet_step (fail)))
   refine wpQuiet_nil ?_;go_wp2;go_roundw
   case rel=>exact⟨k+1,by omega,by go_num,⟨_,oF.out.1⟩,(HU.out.trans (Up.bK HS2.out)).trans oF.out.2,by rw[size_setCell];omega⟩
   case measure=>simp[intOf] <;> omega
  ·obtain rfl:k=p.ts.length:=by omega
   have hI:¬ ((p.ts.length:Nat):Int)<(p.ts.length:Int):=by omega
   rw[JS HD.out] at kM;obtain⟨w5,rfl⟩:∃ z,z=wr:=⟨_,rfl⟩;have hcells:∀ w',Same w5 w'→pp<w'.heap.size∧q'.mp<w'.heap.size∧w'.cell? ⟨pp,0,none⟩=some (.pointer (some ⟨q'.kp,0,none⟩))∧w'.cell? ⟨pp,1,none⟩=some (.pointer (some ⟨q'.mp,0,none⟩))∧w'.cell? ⟨pp,2,none⟩=some (.slice q'.rA p.ts.length q'.rC)∧w'.cell? ⟨pp,3,none⟩=some (.slice q'.tA p.ts.length q'.tC)∧w'.cell? ⟨pp,4,none⟩=some (.slice q'.vA (qD p.m).length q'.vC)∧
     w'.cell? ⟨q'.mp,0,none⟩=some (.int .i64 p.m.n)∧w'.cell? ⟨q'.mp,2,none⟩=some (.slice q'.b.oA p.k.ord.length q'.b.oC)∧w'.cell? ⟨q'.mp,3,none⟩=some (.slice q'.b.hA (aU p.k).length q'.b.hC)∧w'.cell? ⟨q'.mp,4,none⟩=some (.slice q'.b.tA p.k.tr.length q'.b.tC):=by
    intro w' hs;have h:=kM.same hs;refine⟨h.blk.lt,h.m.blk.lt,h.c0,h.c1,?_,?_,?_,h.m.c0,?_,?_,?_⟩
    ·have:=h.c2
     rw[show(fM p).refs.length=p.ts.length from HR.out] at this;exact this
    ·have:=h.c3
     rw[h.tl] at this;exact this
    ·have:=h.c4
     rw[h.vl] at this;exact this
    ·have:=h.m.c2
     rw[HL.out.ord];exact this
    ·have:=h.m.c3
     rw[h.m.hsl] at this;rw[HL.out.rl];exact this
    ·have:=h.m.c4
     rw[HL.out.tr];exact this
   have HC:=Lib.hid hcells;have Fh:∀ w',Same w5 w'→Calls Tryz.prog 25 #[.pointer (some ⟨q'.kp,0,none⟩)] w' (IU w' p.k.ord):=fun w' hs=>vQ (kM.same hs).k YD.out
   have hsm:=fun w' (hs:Same w5 w') (A:Option Addr) (C:Nat) (ho:gq w' 3 A p.k.ord.length C p.k.ord)=>JP A q'.b.oA p.k.ord.length p.k.ord.length C q'.b.oC p.k.ord p.k.ord w' ho.il (by have:=(kM.same hs).m.ord.il;rw[HL.out.ord];exact this) (by have:=YD.out;omega) (by have:=YD.out;omega)
   simp only[decide_true] at hsm;have htr:∀ w',Same w5 w'→Calls Tryz.prog 35 #[.pointer (some ⟨q'.kp,0,none⟩)] w' fun e w''=>e=.returned (.int .i64 p.k.tr.length)∧w'=w'':=fun w' hs=>vR (kM.same hs).k
   have hlv:∀ w',Same w5 w'→Calls Tryz.prog 18 #[.pointer (some ⟨q'.kp,0,none⟩)] w' fun e w''=>e=.returned (.int .i64 ((qD p.m).length:Nat))∧w'=w'':=fun w' hs=>by
    have h:=oW (kM.same hs).k HAC.out;rw[show(((fM p).k.ac:Nat):Int)-2=((qD p.m).length:Nat) from HL.out.live] at h;exact h
   have hwd:∀ (v:Nat),v<p.m.n→∀ w',Same w5 w'→Calls Tryz.prog 32 #[.pointer (some ⟨q'.kp,0,none⟩),.int .i64 v] w' fun e w''=>e=.returned (.tuple #[.int .i64 (mR p.m v),.int .i64 0])∧w'=w'':=fun v hv w' hs=>by
    have h:=vT (kM.same hs).k v;rw[show N9 (fM p).k v=mR p.m v from(HL.out.wd v hv).1,show tH (fM p).k v=0 from(HL.out.wd v hv).2.2] at h;exact h
   have hle:∀ (v:Nat),v<p.m.n→∀ w',Same w5 w'→Calls Tryz.prog 33 #[.pointer (some ⟨q'.kp,0,none⟩),.int .i64 v] w' fun e w''=>e=.returned (.tuple #[.int .i64 (dU p.m.ord v),.int .i64 0])∧w'=w'':=fun v hv w' hs=>by
    have h:=vS (kM.same hs).k HK.out.lv v;rw[show zJ (fM p).k v=dU p.m.ord v from(HL.out.wd v hv).2.1,show tH (fM p).k v=0 from(HL.out.wd v hv).2.2] at h;exact h
   have YE:∀ (v:Nat) w',Same w5 w'→Calls Tryz.prog 67 #[.pointer (some ⟨q'.mp,0,none⟩),.int .i64 v] w' fun e w''=>e=.returned (.int .i64 (mR p.m v))∧Same w' w'':=fun v w' hs=>EM (kM.same hs).m HO.out v
   have hlm:∀ (v:Nat) w',Same w5 w'→Calls Tryz.prog 68 #[.pointer (some ⟨q'.mp,0,none⟩),.int .i64 v] w' fun e w''=>e=.returned (.int .i64 (dU p.m.ord v))∧Same w' w'':=fun v w' hs=>j6 (kM.same hs).m v
   have hrt:∀ w',Same w5 w'→Calls Tryz.prog 22 #[.pointer (some ⟨q'.kp,0,none⟩)] w' fun e w''=>∃ A C,e=.returned (.slice A (aU p.k).length C)∧Row1 w'' 28 rc A (aU p.k).length C (aU p.k)∧bQ w'.heap.size A∧Same w' w'':=fun w' hs=>vP (kM.same hs).k HK.out.bk
   have hhd:∀ (r:Int),0≤r→r<4294967296→∀ w',Same w5 w'→Calls Tryz.prog 17 #[.pointer (some ⟨q'.kp,0,none⟩),.int .u32 r] w' fun e w''=>e=.returned (.int .i64 (p.k.hs.getD r.toNat 0))∧w'=w'':=fun r h0 h1 w' hs=>ru (kM.same hs).k r h0 h1 (fun x hx=>⟨(HK.out.bk.hol _ x hx).1,(HK.out.bk.hol _ x hx).2.1⟩)
   have htb:∀ (r:Int) (t:List Nat),0≤r→r<4294967296→iX p.k p.m.n (p.m.n+1) r=some t→∀ w',Same w5 w'→Calls Tryz.prog 69 #[.pointer (some ⟨q'.kp,0,none⟩),.int .u32 r,.int .i64 p.m.n,.int .i64 0] w' fun e w''=>∃ A C,e=.returned (.tuple #[.agg #[.int .i64 p.m.n,.slice A t.length C],.bool true])∧xN w' t A C w'':=fun r t h0 h1 ht w' hs=>by
    have h:=Jz (kM.same hs).k HG.out NB.out (p.m.n+1) r h0 h1 (Nat.le_refl _) w' (ah.refl _ _);rw[show iX (fM p).k p.m.n (p.m.n+1) r=some t from ht,Nat.sub_self] at h;exact h
   have hho:∀ (A:Option Addr) (C:Nat) (t:List Nat),lU p.m.n t→Small t→∀ w',Same w5 w'→dN w' A t.length C t→Calls Tryz.prog 70 #[.pointer (some ⟨q'.mp,0,none⟩),.agg #[.int .i64 p.m.n,.slice A t.length C]] w' fun e w''=>e=.returned (.int .i64 (iq p.m.held t))∧Same w' w'':=fun A C t h1 h2 w' hs hO=>by
    have h:=yK (t:=⟨p.m.n,A,C,t⟩) (kM.same hs).m ⟨rfl,hO,h1,h2⟩;exact h
   have hls:=fun (i:Int) w' (hs:Same w5 w')=>kN (kM.same hs) (by unfold fM;simp[countP]) (show(qD p.m).length≤2097152000000 from NZ.out) i
   have sQ:=fun w' (hs:Same w5 w')=>(kM.same hs).tt
   have hrows:∀ w',Same w5 w'→Row1 w' 28 rc q'.rA p.refs.length q'.rC p.refs:=fun w' hs=>(kM.same hs).refs
   have htab:∀ w',Same w5 w'→Go.Tk.Own w' 108 2 Tb.cells q'.tA q'.tt.length q'.tC q'.tt∧∀ t∈q'.tt,TW w' p.m.n t:=fun w' hs=>⟨(kM.same hs).ts,(kM.same hs).tt⟩
   have Zb:q'.tt.map Tb.ws=p.ts:=kM.te;have abP:=Lib.hid Fh;have zQ:=Lib.hid hsm;have Dv:=Lib.hid htr;have zw:=Lib.hid hlv;have Pk:=Lib.hid hwd;have Dm:=Lib.hid hle;have HWM:=Lib.hid YE;have HLM:=Lib.hid hlm;have ZF:=Lib.hid hrt;have HHD:=Lib.hid hhd;have QT:=Lib.hid htb;have Yy:=Lib.hid hho;have HLS:=Lib.hid hls;have q8:=Lib.hid hrows;have wU:=Lib.hid htab;have Qu:=Lib.hid Zb;have aF:=Lib.hid (⟨_,kM⟩:∃ q',PW B w5 pp (fM p) q');have HUF:=Lib.hid hU;have HS:=Lib.hid (ah.refl (fun _=>False) w5:Same w5 w5);clear Fh hsm htr hlv hwd hle YE hlm hrt hhd htb hho hls sQ hrows htab Zb kM hU hcells;go_upto_region 7 with fail
   obtain⟨hpl,hml,c0,c1,c2,c3,c4,m0,m2,m3,m4⟩:=HC.out _ HS.out;refine aJ (fun _=>False) [([0,1,2,3,5,6,7,8,9,10,11],4),([],12),([13,14,15,16,17,18,20,21,22,23,24,25,26,27],19),([28,29,30,31,32,33,34,36,37,38,39,40],35),([41],42)] (by kernel_rfl) (by kernel_rfl) ?_;have hs:Same w5 w5.drew:=(ah.refl _ _).drew;rw[aN];simp only[pick,List.map_cons,List.map_nil,List.getD_cons_zero,List.getD_cons_succ];repeat go_big_quiet_step (fail)
   refine wpQuiet_nil ?_;refine aa rfl fun K hK=>?_
   go_simp;refine(abP.out _ hs).mono ?_;rintro e w6 ⟨Ao,Co,rfl,hO6,hF6,hs6⟩;have vz:=Lib.hid (hs.trans hs6 (fun _ _ h=>h));refine hK _ _ (aZ.bu vz.out) ?_;clear hK K;have CL:=Lib.hid hO6;clear hO6 hF6 hs6 hs;rw[aN];simp only[pick,List.map_nil,List.getD_cons_zero,List.getD_cons_succ];repeat go_big_quiet_step (fail)
   refine wpQuiet_nil ?_;refine aa rfl fun K hK=>?_
   go_simp;refine(zQ.out _ vz.out Ao Co CL.out).mono ?_;rintro e w7 ⟨rfl,hs7⟩;have xe:=Lib.hid (vz.out.trans hs7 (fun _ _ h=>h));refine hK _ _ (aZ.bu xe.out) ?_;clear hK K hs7;rw[aN];simp only[pick,List.map_cons,List.map_nil,List.getD_cons_zero,List.getD_cons_succ];repeat go_big_quiet_step (fail)
   refine wpQuiet_nil ?_;refine cu (by rfl) fun K hK=>?_
   go_simp;refine(Dv.out _ xe.out).mono ?_;rintro e w8 ⟨rfl,rfl⟩;refine hK _ _ (aZ.bu xe.out) ?_;clear hK K;rw[aN];simp only[pick,List.map_cons,List.map_nil,List.getD_cons_zero,List.getD_cons_succ];repeat go_big_quiet_step (fail)
   refine wpQuiet_nil ?_;refine cu (by rfl) fun K hK=>?_
   go_simp;refine(zw.out _ xe.out).mono ?_;rintro e w8 ⟨rfl,rfl⟩;refine hK _ _ (aZ.bu xe.out) ?_;clear hK K;rw[aT];simp only[pick,List.map_cons,List.map_nil,List.getD_cons_zero,List.getD_cons_succ];repeat go_big_quiet_step (fail)
   rw[aA];clear hpl hml c0 c1 c2 c3 c4 m0 m2 m3 m4 CL vz;go_wp2_with (fail)
   go_loopw [4] (fun i wx=>∃ v:Nat,v≤p.m.n∧i=.int .i64 v∧Same w5 wx) (fun i _=>p.m.n-(intOf i).toNat)
   case atStart=>exact⟨0,Nat.zero_le _,rfl,xe.out⟩
   case round =>
    as_aux_lemma =>
    obtain⟨v,hv,rfl,hsx⟩:=hrel;by_cases hlt:v<p.m.n
    ·have hJ:(v:Int)<(p.m.n:Int):=by omega
     have hn16:=NB.out;have He:=Lib.hid hsx;clear hsx;obtain⟨hpl,hml,c0,c1,c2,c3,c4,m0,m2,m3,m4⟩:=HC.out _ He.out;have h1:=Pk.out v hlt;have h2:=Dm.out v hlt;have h3:=HWM.out v;have h4:=HLM.out v;obtain⟨a1,ha1⟩:∃ z,mR p.m v=z:=⟨_,rfl⟩;obtain⟨a2,ha2⟩:∃ z,dU p.m.ord v=z:=⟨_,rfl⟩;replace h3:∀ w',Same w5 w'→Calls Tryz.prog 67 #[.pointer (some ⟨q'.mp,0,none⟩),.int .i64 v] w' fun e w''=>e=.returned (.int .i64 a1)∧Same w' w'':=by rw[← ha1];exact h3
     replace h4:∀ w',Same w5 w'→Calls Tryz.prog 68 #[.pointer (some ⟨q'.mp,0,none⟩),.int .i64 v] w' fun e w''=>e=.returned (.int .i64 a2)∧Same w' w'':=by rw[← ha2];exact h4
     rw[ha1] at h1;rw[ha2] at h2;have H1:=Lib.hid h1;have H2:=Lib.hid h2;have H3:=Lib.hid h3;have H4:=Lib.hid h4;clear h1 h2 h3 h4 ha1 ha2;go_wp2_with (fail)
     refine(H1.out _ He.out).mono ?_;rintro e wy ⟨rfl,rfl⟩;go_wp2_with (fail)
     refine(H2.out _ He.out).mono ?_;rintro e wy ⟨rfl,rfl⟩;go_wp2_with (fail)
     refine(H3.out _ He.out).mono ?_;rintro e wy ⟨rfl,hsy⟩;have Fa:=Lib.hid (He.out.trans hsy (fun _ _ h=>h));clear hsy hpl hml c0 c1 c2 c3 c4 m0 m2 m3 m4;obtain⟨hpl,hml,c0,c1,c2,c3,c4,m0,m2,m3,m4⟩:=HC.out _ Fa.out;go_wp2_with (fail)
     refine(H4.out _ Fa.out).mono ?_;rintro e wz ⟨rfl,hsz⟩;have tJ:=Lib.hid (Fa.out.trans hsz (fun _ _ h=>h));clear hsz hpl hml c0 c1 c2 c3 c4 m0 m2 m3 m4;go_wp2;go_roundw
     case rel=>exact⟨v+1,by omega,by go_num,tJ.out⟩
     case measure=>simp[intOf] <;> omega
    ·obtain rfl:v=p.m.n:=by omega
     have hJ:¬ ((p.m.n:Nat):Int)<(p.m.n:Int):=by omega
     have He:=Lib.hid hsx;clear hsx;obtain⟨hpl,hml,c0,c1,c2,c3,c4,m0,m2,m3,m4⟩:=HC.out _ He.out;go_wp2_with (fail)
     refine(ZF.out _ He.out).mono ?_;rintro e wa ⟨Ar,Cr,rfl,hRr,ZK,xg⟩;have yJ:=Lib.hid (He.out.trans xg (fun _ _ h=>h));have HRR:=Lib.hid (show Row1 wa 28 rc Ar (aU p.k).length Cr (aU p.k) from hRr);clear xg hRr ZK hpl hml c0 c1 c2 c3 c4 m0 m2 m3 m4;obtain⟨hpl,hml,c0,c1,c2,c3,c4,m0,m2,m3,m4⟩:=HC.out _ yJ.out;have Zc:∀ x∈aU p.k,0≤x∧x<4294967296:=sV HK.out;have Zd:=Lib.hid Zc;have Ze:=Lib.hid HL.out.rt;have abQ:(aU p.k).length≤1048576:=rX HK.out;clear Zc;obtain⟨RL,YV⟩:∃ z,aU p.k=z:=⟨_,rfl⟩;rw[YV] at HRR Zd Ze m3 abQ ⊢;clear YV;have e7:(RL.length != RL.length)=false:=by simp
     go_wp2_with (fail)
     go_loopw [155] (fun i wx=>∃ k:Nat,k≤RL.length∧i=.int .i64 k∧Same wa wx) (fun i _=>RL.length-(intOf i).toNat)
     case atStart=>exact⟨0,Nat.zero_le _,rfl,ah.refl _ _⟩
     case round =>
      as_aux_lemma =>
      clear hpl hml c0 c1 c2 c3 c4 m0 m2 m3 m4;obtain⟨k,hk,rfl,hsk⟩:=hrel;have Zf:=Lib.hid (yJ.out.trans hsk (fun _ _ h=>h));by_cases hlt:k<RL.length
      ·have hI3:(k:Int)<(RL.length:Int):=by omega
       obtain⟨r,hr⟩:∃ r,RL[k]?=some r:=⟨_,List.getElem?_eq_getElem hlt⟩;have hRk:=HRR.out.ag hsk (fun _ _=>id);obtain⟨sb,hA1,hsb,d0⟩:=hRk.dQ (c:=rc) hr;obtain⟨t,ht,hnz,pW,hup⟩:=Ze.out k hlt;have hrd:RL.getD k 0=r:=by rw[List.getD_eq_getElem?_getD,hr];rfl
       rw[hrd] at ht pW hup;obtain⟨hr0,hr1⟩:=Zd.out r (List.mem_of_getElem? hr);obtain⟨hf1,hf2⟩:=yQ NB.out _ _ _ ht;have htb:=QT.out r t hr0 hr1 ht;have hho:=fun A C=>Yy.out A C t hf1 hf2
       have hhd:=HHD.out r hr0 hr1;rw[pW] at hhd;obtain⟨hc,Vo⟩:∃ z,iq p.m.held t=z:=⟨_,rfl⟩;rw[Vo] at hho hhd hnz;have e0:(hc == 0)=false:=by simpa using hnz
       have e1:(hc != hc)=false:=by simp
       unfold rc at d0;have CS:k=0∨∃ k' r',k=k'+1∧RL[k']?=some r'∧¬ r≤r':=by
        rcases hup with h | h
        ·exact .inl h
        ·by_cases h0:k=0
         ·exact .inl h0
         ·refine .inr ⟨k-1,RL.getD (k-1) 0,by omega,?_,by rw[List.getD_eq_getElem?_getD] at h ⊢;omega⟩;rw[List.getD_eq_getElem?_getD,List.getElem?_eq_getElem (by omega)];rfl
       have JV:=Lib.hid htb;have Qt:=Lib.hid hho;have abR:=Lib.hid hhd;have Qi:=Lib.hid CS;have HRK:=Lib.hid hRk;have abS:=Lib.hid hsk;have HA1:=Lib.hid hA1;clear htb hho hhd CS hRk hsk pW Vo hup hrd hr ht hf1 hf2;subst hA1;obtain⟨hpl,hml,c0,c1,c2,c3,c4,m0,m2,m3,m4⟩:=HC.out _ Zf.out;go_upto_region 22 with fail
       go_cut [12,13] (fun s1 s2 wx=>∃ (T:Nat) (A:Option Addr) (C:Nat),s1=.pointer (some ⟨T,0,none⟩)∧s2=.bool true∧ax wx T 108 #[.int .i64 p.m.n,.slice A t.length C]∧dN wx A t.length C t∧Same wr wx)
       case first =>
        as_aux_lemma =>
        refine AP (fun _=>False) (.q [0,1,2,3,4,5,6,7,8,9,10,11] (.fork 12 (.q [13,14,15] (.step 16 (.step 17 (.last 18)))) 16 (.step 12 (.q [13,14,15] (.step 17 (.last 18)))))) (by kernel_rfl) (by kernel_rfl) ?_;simp only[Dk,pick,List.map_cons,List.map_nil,List.getD_cons_zero,List.getD_cons_succ];have hs:Same wr wr.drew:=(ah.refl _ _).drew;repeat go_big_quiet_step (fail)
        refine wpQuiet_nil ?_;refine⟨?_,?_⟩
        ·refine aa rfl fun K hK=>?_
         go_simp;refine(JV.out _ (Zf.out.trans hs (fun _ _ h=>h))).mono ?_;rintro e wa ⟨A5,C5,rfl,mX,CE,hs5⟩;have hsa:=hs.trans hs5 (fun _ _ h=>h);refine hK _ _ (aZ.bu hsa) ?_;clear hK K;have yJ:=Lib.hid hsa;have pz:=Lib.hid mX;clear hsa mX hs5 CE hs;repeat go_big_quiet_step (fail)
         refine wpQuiet_nil ?_;refine aa rfl fun K hK=>?_
         go_simp;refine hK _ _ (aZ.bu (yJ.out.alloc _)) ?_;clear hK K;refine aa rfl fun K hK=>?_
         go_simp;refine hK _ _ (aZ.bu (yJ.out.alloc _)) ?_;clear hK K;go_wp2_with fail
         go_meet
         exact⟨wa.heap.size,A5,C5,rfl,rfl,ax.new wa _ _,pz.out.ag (S:=fun _=>False) ((ah.refl _ _).alloc _) (fun _ _=>id),yJ.out.alloc _⟩
        ·refine aa rfl fun K hK=>?_
         go_simp;have hT:=(ax.new wr 108 #[.int .i64 0,.slice none 0 0]).drew;have hsa:Same wr (wr.alloc (.cells #[.int .i64 0,.slice none 0 0] 108)).drew:=((ah.refl _ _).alloc _).drew;refine hK _ _ (aZ.bu hsa) ?_;clear hK K;generalize (wr.alloc (.cells #[.int .i64 0,.slice none 0 0] 108)).drew=wa at hT hsa ⊢;refine aa rfl fun K hK=>?_
         go_simp;refine(JV.out _ (Zf.out.trans hsa (fun _ _ h=>h))).mono ?_;rintro e wb ⟨A5,C5,rfl,mX,CE,hs5⟩;have hsb:=hsa.trans hs5 (fun _ _ h=>h);refine hK _ _ (aZ.bu hsb) ?_;clear hK K;have pE:=hT.ag hs5 id;have CG:∀ x,A5=some x→x.block≠wr.heap.size:=fun x hx h=>mX.av pE (by decide) x hx h
         have t0:=pE.cell 0;have t1:=pE.cell 1;have tl:=pE.lt;have u0:=pE.free 0;have u1:=pE.free 1;simp at t0 t1;have kS:=Lib.hid hsb;have pz:=Lib.hid mX;have P5:=Lib.hid pE;have Ro:=Lib.hid CG;clear hsb mX hs5 CE hT pE hsa hs CG;repeat go_big_quiet_step (fail)
         refine wpQuiet_nil ?_;refine aa rfl fun K hK=>?_
         go_simp;refine hK _ _ (aZ.bu ((kS.out.aj 0 _ (Nat.le_refl _)).aj 1 _ (Nat.le_refl _))) ?_;clear hK K;go_wp2_with fail
         go_meet
         refine⟨wr.heap.size,A5,C5,rfl,rfl,?_,(Own.far (p:=⟨wr.heap.size,0,none⟩) pz.out Ro.out _).far (p:=⟨wr.heap.size,1,none⟩) Ro.out _,(kS.out.aj 0 _ (Nat.le_refl _)).aj 1 _ (Nat.le_refl _)⟩
         have:=(P5.out.set 0 (.int .i64 p.m.n)).set 1 (.slice A5 t.length C5)
         simpa using this
       case rest =>
        as_aux_lemma =>
        obtain⟨T,A5,C5,rfl,rfl,hT,mX,hs5⟩:=hcut;have pY:=Lib.hid (Zf.out.trans hs5 (fun _ _ h=>h));have Zg:=Lib.hid (abS.out.trans hs5 (fun _ _ h=>h));have HT:=Lib.hid hT;have pz:=Lib.hid mX;clear hpl hml c0 c1 c2 c3 c4 m0 m2 m3 m4 d0 hsb hs5 hT mX;obtain⟨hpl,hml,c0,c1,c2,c3,c4,m0,m2,m3,m4⟩:=HC.out _ pY.out;have t0:=HT.out.cell 0;have t1:=HT.out.cell 1;have tl:=HT.out.lt;simp at t0 t1;go_upto_region 23 with fail
        have hs:Same wc wc.drew:=(ah.refl _ _).drew;have key:∀ (G:Prop),(k=0→G)→(∀ k' r',k=k'+1→RL[k']?=some r'→¬ r≤r'→G)→G:=fun G h1 h2=>by
         rcases Qi.out with h | ⟨k',r',a,b,c⟩
         ·exact h1 h
         ·exact h2 k' r' a b c
        refine aJ (fun _=>False) [([0,1,2,3,4,5,6,7],8),([9,10,11,12,13,14,15,16,18,19,20,21,22],17),([],23),([24,25,26,27,28,29,30,31,32,33,34,35,36,37],38)] (by kernel_rfl) (by kernel_rfl) ?_;rw[aN];simp only[pick,List.map_cons,List.map_nil,List.getD_cons_zero,List.getD_cons_succ];repeat go_big_quiet_step (fail)
        refine wpQuiet_nil ?_;refine cu (by rfl) fun K hK=>?_
        go_simp;refine(Qt.out A5 C5 _ (pY.out.trans hs (fun _ _ h=>h)) (pz.out.ag hs (fun _ _=>id))).mono ?_;rintro e wd ⟨rfl,hsd⟩;have xV:=hs.trans hsd (fun _ _ h=>h);refine hK _ _ (aZ.bu xV) ?_;clear hK K;have Dn:=Lib.hid xV;have vz:=Lib.hid (pY.out.trans xV (fun _ _ h=>h));have HT6:=Lib.hid (HT.out.ag xV id);have CL:=Lib.hid (pz.out.ag xV (fun _ _=>id));clear hsd xV hs;rw[aN];simp only[pick,List.map_cons,List.map_nil,List.getD_cons_zero,List.getD_cons_succ];repeat go_big_quiet_step (fail)
        refine wpQuiet_nil ?_;refine cu (by rfl) fun K hK=>?_
        go_simp;refine(abR.out _ vz.out).mono ?_;rintro e we ⟨rfl,rfl⟩;refine hK _ _ (aZ.bu Dn.out) ?_;clear hK K;rw[aN];simp only[pick,List.map_nil,List.getD_cons_zero,List.getD_cons_succ];repeat go_big_quiet_step (fail)
        refine wpQuiet_nil ?_;refine cu (by rfl) fun K hK=>?_
        go_simp;refine(Qt.out A5 C5 _ vz.out CL.out).mono ?_;rintro e wf ⟨rfl,VJ⟩;have HSF:=Lib.hid (Dn.out.trans VJ (fun _ _ h=>h));have xe:=Lib.hid (vz.out.trans VJ (fun _ _ h=>h));have Zh:=Lib.hid (Zg.out.trans HSF.out (fun _ _ h=>h));refine hK _ _ (aZ.bu HSF.out) ?_;clear hK K VJ;rcases Qi.out with rfl | ⟨k',r',rfl,hr',hrr⟩
        ·clear key;rw[aT];simp only[pick,List.map_cons,List.map_nil,List.getD_cons_zero,List.getD_cons_succ];repeat go_big_quiet_step (fail)
         rw[aA];go_wp2;go_roundw
         case rel=>exact⟨1,by omega,by go_num,Zh.out⟩
         case measure=>simp[intOf] <;> omega
        ·clear key;obtain⟨sb',hA',hsb,d0⟩:=(HRR.out.ag Zg.out (fun _ _=>id)).dQ (c:=rc) hr';injection hA' with hA'
         injection hA' with hA'
         subst hA';unfold rc at d0;have hk1:(0:Int)<(k':Int)+1:=by omega
         have hk2:(k':Int)<RL.length:=by omega
         rw[aT];simp only[pick,List.map_cons,List.map_nil,List.getD_cons_zero,List.getD_cons_succ];repeat go_big_quiet_step (fail)
         rw[aA];go_wp2;go_roundw
         case rel=>exact⟨k'+2,by omega,by go_num,Zh.out⟩
         case measure=>simp[intOf] <;> omega
      ·obtain rfl:k=RL.length:=by omega
       have hI3:¬ ((RL.length:Nat):Int)<(RL.length:Int):=by omega
       clear hsk;go_wp2_with (fail)
       go_loopw [14] (fun i wx=>∃ k:Nat,k≤p.ts.length∧i=.int .i64 k∧Same w5 wx) (fun i _=>p.ts.length-(intOf i).toNat)
       case atStart=>exact⟨0,Nat.zero_le _,rfl,Zf.out⟩
       case round =>
        as_aux_lemma =>
        obtain⟨k,hk,rfl,hsk⟩:=hrel;have Qv:=Lib.hid hsk;obtain⟨hpl,hml,c0,c1,c2,c3,c4,m0,m2,m3,m4⟩:=HC.out _ hsk;clear hsk;by_cases hlt:k<p.ts.length
        ·have hI4:(k:Int)<(p.ts.length:Int):=by omega
         have hls:=HLS.out k;obtain⟨lb,hlb⟩:∃ z,bW (fM p) k=z:=⟨_,rfl⟩;rw[hlb] at hls;have D8:=Lib.hid hls;clear hls;go_wp2_with (fail)
         refine(D8.out _ Qv.out).mono ?_;rintro e wl ⟨rfl,hsl⟩;have Vq:=Lib.hid (Qv.out.trans hsl (fun _ _ h=>h));clear hsl hpl hml c0 c1 c2 c3 c4 m0 m2 m3 m4;cases lb with
         | false =>
          clear hlb;go_wp2;go_roundw
          case rel=>exact⟨k+1,by omega,by go_num,Vq.out⟩
          case measure=>simp[intOf] <;> omega
         | true =>
          obtain⟨ht,hfn⟩:=HL.out.fn k hlt hlb;obtain⟨r,hr⟩:∃ r,p.refs[k]?=some r:=⟨_,List.getElem?_eq_getElem (by rw[HR.out];exact hlt)⟩;obtain⟨u,hu⟩:∃ u,q'.tt[k]?=some u:=⟨_,List.getElem?_eq_getElem (by have:=congrArg List.length Qu.out;rw[List.length_map] at this;omega)⟩;have hur:p.ts.getD k []=u.ws:=by rw[List.getD_eq_getElem?_getD,← Qu.out,List.getElem?_map,hu];rfl
          have hrd:p.refs.getD k 0=r:=by rw[List.getD_eq_getElem?_getD,hr];rfl
          rw[hur] at ht hfn;rw[hrd] at ht hfn;obtain⟨hr0,hr1⟩:=Qf.out r (List.mem_of_getElem? hr);have htb:=QT.out r u.ws hr0 hr1 ht;obtain⟨hpl,hml,c0,c1,c2,c3,c4,m0,m2,m3,m4⟩:=HC.out _ Vq.out;obtain⟨rb,hrb,MP,d0⟩:=(q8.out _ Vq.out).dQ (c:=rc) hr;rw[hrb] at c2;unfold rc at d0;have JV:=Lib.hid htb;have HHR:=Lib.hid hr;have Vr:=Lib.hid hu;have HFN:=Lib.hid hfn;have Vh:=Lib.hid hrb;clear htb hr hu hfn hrb ht hur hrd hlb;go_upto_region 30 with fail
          go_cut [15,16] (fun s1 s2 wx=>∃ (T:Nat) (A:Option Addr) (C:Nat),s1=.pointer (some ⟨T,0,none⟩)∧s2=.bool true∧ax wx T 108 #[.int .i64 p.m.n,.slice A u.ws.length C]∧dN wx A u.ws.length C u.ws∧Same wl wx)
          case first =>
           as_aux_lemma =>
           refine AP (fun _=>False) (.q [0,1,2,3,4,5,6,7,8,9,10,11,12,13,14,15,16,17] (.fork 18 (.q [19,20,21] (.step 22 (.step 23 (.last 24)))) 22 (.step 18 (.q [19,20,21] (.step 23 (.last 24)))))) (by kernel_rfl) (by kernel_rfl) ?_;simp only[Dk,pick,List.map_cons,List.map_nil,List.getD_cons_zero,List.getD_cons_succ];have hs:Same wl wl.drew:=(ah.refl _ _).drew;repeat go_big_quiet_step (fail)
           refine wpQuiet_nil ?_;refine⟨?_,?_⟩
           ·refine aa rfl fun K hK=>?_
            go_simp;refine(JV.out _ (Vq.out.trans hs (fun _ _ h=>h))).mono ?_;rintro e wa ⟨A5,C5,rfl,mX,CE,hs5⟩;have hsa:=hs.trans hs5 (fun _ _ h=>h);refine hK _ _ (aZ.bu hsa) ?_;clear hK K;have yJ:=Lib.hid hsa;have pz:=Lib.hid mX;clear hsa mX hs5 CE hs;repeat go_big_quiet_step (fail)
            refine wpQuiet_nil ?_;refine aa rfl fun K hK=>?_
            go_simp;refine hK _ _ (aZ.bu (yJ.out.alloc _)) ?_;clear hK K;refine aa rfl fun K hK=>?_
            go_simp;refine hK _ _ (aZ.bu (yJ.out.alloc _)) ?_;clear hK K;go_wp2_with fail
            go_meet
            exact⟨wa.heap.size,A5,C5,rfl,rfl,ax.new wa _ _,pz.out.ag (S:=fun _=>False) ((ah.refl _ _).alloc _) (fun _ _=>id),yJ.out.alloc _⟩
           ·refine aa rfl fun K hK=>?_
            go_simp;have hT:=(ax.new wl 108 #[.int .i64 0,.slice none 0 0]).drew;have hsa:Same wl (wl.alloc (.cells #[.int .i64 0,.slice none 0 0] 108)).drew:=((ah.refl _ _).alloc _).drew;refine hK _ _ (aZ.bu hsa) ?_;clear hK K;generalize (wl.alloc (.cells #[.int .i64 0,.slice none 0 0] 108)).drew=wa at hT hsa ⊢;refine aa rfl fun K hK=>?_
            go_simp;refine(JV.out _ (Vq.out.trans hsa (fun _ _ h=>h))).mono ?_;rintro e wb ⟨A5,C5,rfl,mX,CE,hs5⟩;have hsb:=hsa.trans hs5 (fun _ _ h=>h);refine hK _ _ (aZ.bu hsb) ?_;clear hK K;have pE:=hT.ag hs5 id;have CG:∀ x,A5=some x→x.block≠wl.heap.size:=fun x hx h=>mX.av pE (by decide) x hx h
            have t0:=pE.cell 0;have t1:=pE.cell 1;have tl:=pE.lt;have u0:=pE.free 0;have u1:=pE.free 1;simp at t0 t1;have kS:=Lib.hid hsb;have pz:=Lib.hid mX;have P5:=Lib.hid pE;have Ro:=Lib.hid CG;clear hsb mX hs5 CE hT pE hsa hs CG;repeat go_big_quiet_step (fail)
            refine wpQuiet_nil ?_;refine aa rfl fun K hK=>?_
            go_simp;refine hK _ _ (aZ.bu ((kS.out.aj 0 _ (Nat.le_refl _)).aj 1 _ (Nat.le_refl _))) ?_;clear hK K;go_wp2_with fail
            go_meet
            refine⟨wl.heap.size,A5,C5,rfl,rfl,?_,(Own.far (p:=⟨wl.heap.size,0,none⟩) pz.out Ro.out _).far (p:=⟨wl.heap.size,1,none⟩) Ro.out _,(kS.out.aj 0 _ (Nat.le_refl _)).aj 1 _ (Nat.le_refl _)⟩
            have:=(P5.out.set 0 (.int .i64 p.m.n)).set 1 (.slice A5 u.ws.length C5)
            simpa using this
          case rest =>
           as_aux_lemma =>
           obtain⟨T,A5,C5,rfl,rfl,hT,mX,hs5⟩:=hcut;have pY:=Lib.hid (Vq.out.trans hs5 (fun _ _ h=>h));have HT:=Lib.hid hT;have pz:=Lib.hid mX;clear hpl hml c0 c1 c2 c3 c4 m0 m2 m3 m4 d0 MP hs5 hT mX;obtain⟨hpl,hml,c0,c1,c2,c3,c4,m0,m2,m3,m4⟩:=HC.out _ pY.out;have t0:=HT.out.cell 0;have t1:=HT.out.cell 1;have tl:=HT.out.lt;simp at t0 t1;obtain⟨tb,htb,Jr,y0,y1⟩:=EZ (wU.out _ pY.out).1 (wU.out _ pY.out).2 Vr.out;rw[htb] at c3;have hwl:=((wU.out _ pY.out).2 u (List.mem_of_getElem? Vr.out)).fm.len;have hsm:=fun w' (hs:Same wc w')=>fJ p.m.n A5 u.ws.length C5 u.ws p.m.n u.A u.ws.length u.C u.ws w' ((pz.out.ag hs (fun _ _=>id)).sl jB) (((wU.out _ (pY.out.trans hs (fun _ _ h=>h))).2 u (List.mem_of_getElem? Vr.out)).ok.wl) (by rw[hwl];have:=iD NB.out;omega)
           have Zi:sm p.m.n p.m.n u.ws u.ws=true:=by unfold sm;simp
           rw[Zi] at hsm;have Zj:=Lib.hid hsm;have acV:=Lib.hid htb;clear Zi hsm hwl htb;go_upto_region 31 with fail
           have hs:Same wc wc.drew:=(ah.refl _ _).drew;refine aJ (fun _=>False) [([0,1,2,3,4,5,6,7,8,9,10],11),([12],13)] (by kernel_rfl) (by kernel_rfl) ?_;rw[aN];simp only[pick,List.map_cons,List.map_nil,List.getD_cons_zero,List.getD_cons_succ];repeat go_big_quiet_step (fail)
           refine wpQuiet_nil ?_;refine cu (by rfl) fun K hK=>?_
           go_simp;refine(Zj.out _ hs).mono ?_;rintro e wd ⟨rfl,hsd⟩;have xV:=hs.trans hsd (fun _ _ h=>h);refine hK _ _ (aZ.bu xV) ?_;clear hK K;have Dn:=Lib.hid (pY.out.trans xV (fun _ _ h=>h));clear hsd xV hs Zj HT pz JV D8;rw[aT];simp only[pick,List.map_cons,List.map_nil,List.getD_cons_zero,List.getD_cons_succ];repeat go_big_quiet_step (fail)
           rw[aA];clear hpl hml c0 c1 c2 c3 c4 m0 m2 m3 m4 t0 t1 tl Jr y0 y1;go_wp2_with (fail)
           go_loopw [17] (fun i wx=>∃ j:Nat,j≤k∧i=.int .i64 j∧Same w5 wx) (fun i _=>k-(intOf i).toNat)
           case atStart=>exact⟨0,Nat.zero_le _,rfl,Dn.out⟩
           case round =>
            as_aux_lemma =>
            obtain⟨j,hj,rfl,hsj⟩:=hrel;have Hf:=Lib.hid hsj;clear hsj;by_cases hjk:j<k
            ·have hI5:(j:Int)<(k:Int):=by omega
             have hI6:(j:Int)<(p.ts.length:Int):=by omega
             have hjt:j<p.ts.length:=by omega
             have hls:=HLS.out j;obtain⟨lj,hlj⟩:∃ z,bW (fM p) j=z:=⟨_,rfl⟩;rw[hlj] at hls;have HLJ:=Lib.hid hls;obtain⟨rj,hrj⟩:∃ r,p.refs[j]?=some r:=⟨_,List.getElem?_eq_getElem (by rw[HR.out];exact hjt)⟩;obtain⟨v,hv⟩:∃ u,q'.tt[j]?=some u:=⟨_,List.getElem?_eq_getElem (by have:=congrArg List.length Qu.out;rw[List.length_map] at this;omega)⟩;have O0:p.ts.getD j []=v.ws:=by rw[List.getD_eq_getElem?_getD,← Qu.out,List.getElem?_map,hv];rfl
             have Zk:p.refs.getD j 0=rj:=by rw[List.getD_eq_getElem?_getD,hrj];rfl
             have hfj:=HFN.out j hjk;rw[O0,Zk,hlj] at hfj;have hwl:=((wU.out _ Hf.out).2 u (List.mem_of_getElem? Vr.out)).fm.len;have hsm:=fun w' (hs:Same w5 w')=>fJ p.m.n u.A u.ws.length u.C u.ws p.m.n v.A v.ws.length v.C v.ws w' (((wU.out _ hs).2 u (List.mem_of_getElem? Vr.out)).ok.wl) (((wU.out _ hs).2 v (List.mem_of_getElem? hv)).ok.wl) (by rw[hwl];have:=iD NB.out;omega)
             have Zi:sm p.m.n p.m.n u.ws v.ws=decide (u.ws=v.ws):=by unfold sm;simp
             rw[Zi] at hsm;have Vj:=Lib.hid O0;have HFJ:=Lib.hid hfj;have Zl:=Lib.hid hsm;have HRJ:=Lib.hid hrj;have HHV:=Lib.hid hv;clear hls hlj hrj hv O0 Zk hfj hwl hsm Zi;obtain⟨hpl,hml,c0,c1,c2,c3,c4,m0,m2,m3,m4⟩:=HC.out _ Hf.out;go_upto_region 36 with fail
             have hs:Same wr wr.drew:=(ah.refl _ _).drew;cases lj with
             | false =>
              refine aJ (fun _=>False) [([0,1],2),([3,4,5,6,7,8,9,10,11,12,13,14,15,16,17,19,20,21,22,23,24,25,26,27,28,29,30,31,32,33],18),([34],35)] (by kernel_rfl) (by kernel_rfl) ?_;rw[aN];simp only[pick,List.map_cons,List.map_nil,List.getD_cons_zero,List.getD_cons_succ];repeat go_big_quiet_step (fail)
              refine wpQuiet_nil ?_;refine aa rfl fun K hK=>?_
              go_simp;refine(HLJ.out _ (Hf.out.trans hs (fun _ _ h=>h))).mono ?_;rintro e wy ⟨rfl,hsy⟩;have Dj:=hs.trans hsy (fun _ _ h=>h);refine hK _ _ (aZ.bu Dj) ?_;clear hK K;have Fa:=Lib.hid (Hf.out.trans Dj (fun _ _ h=>h));clear hsy Dj hs;rw[aN];simp only[pick,List.map_cons,List.map_nil,List.getD_cons_zero,List.getD_cons_succ];repeat go_big_quiet_step (fail)
              rw[aA];rw[bV];rotate_left
              ·rfl
              rw[aT];simp only[pick,List.map_cons,List.map_nil,List.getD_cons_zero,List.getD_cons_succ,Act.put,List.setIfInBounds_toArray,List.set_cons_succ,List.set_cons_zero];repeat go_big_quiet_step (fail)
              rw[aA];go_wp2;go_roundw
              case rel=>exact⟨j+1,by omega,by go_num,Fa.out⟩
              case measure=>simp[intOf] <;> omega
             | true =>
              have hfj:=HFJ.out rfl;obtain⟨bj,hbj⟩:∃ z,decide (u.ws=v.ws)=z:=⟨_,rfl⟩;rw[hbj] at Zl hfj;have Zm:=Lib.hid hfj;clear hfj hbj;obtain⟨tb2,Zn,Jr,y0,y1⟩:=EZ (wU.out _ Hf.out).1 (wU.out _ Hf.out).2 Vr.out;obtain⟨tb3,JW,_,z0,z1⟩:=EZ (wU.out _ Hf.out).1 (wU.out _ Hf.out).2 HHV.out;rw[Zn] at JW c3;injection JW with JW
              injection JW with JW
              subst JW;obtain⟨rb2,Zo,MP,d0⟩:=(q8.out _ Hf.out).dQ (c:=rc) HHR.out;obtain⟨rb3,JX,_,d1⟩:=(q8.out _ Hf.out).dQ (c:=rc) HRJ.out;rw[Zo] at JX c2;injection JX with JX
              injection JX with JX
              subst JX;unfold rc at d0 d1;clear Zn Zo;refine aJ (fun _=>False) [([0,1],2),([3,4,5,6,7,8,9,10,11,12,13,14,15,16,17,19,20,21,22,23,24,25,26,27,28,29,30,31,32,33],18),([34],35)] (by kernel_rfl) (by kernel_rfl) ?_;rw[aN];simp only[pick,List.map_cons,List.map_nil,List.getD_cons_zero,List.getD_cons_succ];repeat go_big_quiet_step (fail)
              refine wpQuiet_nil ?_;refine aa rfl fun K hK=>?_
              go_simp;refine(HLJ.out _ (Hf.out.trans hs (fun _ _ h=>h))).mono ?_;rintro e wy ⟨rfl,hsy⟩;have Dj:=hs.trans hsy (fun _ _ h=>h);refine hK _ _ (aZ.bu Dj) ?_;clear hK K;have Uk:=Lib.hid Dj;have Fa:=Lib.hid (Hf.out.trans Dj (fun _ _ h=>h));clear hsy Dj hs;rw[aN];simp only[pick,List.map_cons,List.map_nil,List.getD_cons_zero,List.getD_cons_succ];repeat go_big_quiet_step (fail)
              refine wpQuiet_nil ?_;refine cu (by rfl) fun K hK=>?_
              go_simp;refine(Zl.out _ Fa.out).mono ?_;rintro e wz ⟨rfl,hsz⟩;have tJ:=Lib.hid (Fa.out.trans hsz (fun _ _ h=>h));refine hK _ _ (aZ.bu (Uk.out.trans hsz (fun _ _ h=>h))) ?_;clear hK K hsz;by_cases hrr:r=rj
              ·have hb:bj=true:=by rw[Zm.out];simpa using hrr
               subst hb;subst hrr;rw[aT];simp only[pick,List.map_cons,List.map_nil,List.getD_cons_zero,List.getD_cons_succ];repeat go_big_quiet_step (fail)
               rw[aA];go_wp2;go_roundw
               case rel=>exact⟨j+1,by omega,by go_num,tJ.out⟩
               case measure=>simp[intOf] <;> omega
              ·have hb:bj=false:=by rw[Zm.out];simpa using hrr
               subst hb;rw[aT];simp only[pick,List.map_cons,List.map_nil,List.getD_cons_zero,List.getD_cons_succ];repeat go_big_quiet_step (fail)
               rw[aA];go_wp2;go_roundw
               case rel=>exact⟨j+1,by omega,by go_num,tJ.out⟩
               case measure=>simp[intOf] <;> omega
            ·obtain rfl:j=k:=by omega
             have hI5:¬ (j:Int)<(j:Int):=by omega
             obtain⟨hpl,hml,c0,c1,c2,c3,c4,m0,m2,m3,m4⟩:=HC.out _ Hf.out;go_wp2;go_roundw
             case rel=>exact⟨j+1,by omega,by go_num,Hf.out⟩
             case measure=>simp[intOf] <;> omega
        ·obtain rfl:k=p.ts.length:=by omega
         have hI4:¬ ((p.ts.length:Nat):Int)<(p.ts.length:Int):=by omega
         go_wp2;go_ret;obtain⟨q9,h9⟩:=aF.out;exact⟨rfl,⟨q9,h9.same Qv.out⟩,HUF.out.trans (Up.bK Qv.out)⟩
end
set_option maxRecDepth 100000
theorem NF:KI st0.k:=LU (n:=2) (c:=5) (by decide) (by decide) (by decide) (by decide)
theorem Zp:st1.k=(ay st0.k (qE st0 1 0 1)).2.2:=by
 unfold st1 countP lY;split <;> rfl
theorem Zq:st2.k=(ay st1.k (qE st1 0 0 2)).2.2:=by
 unfold st2 countP lY;split <;> rfl
theorem NG:KI st1.k:=by
 rw[Zp];exact qj NF (by decide +kernel) (by decide +kernel)
theorem NH:KI st2.k:=by
 rw[Zq];exact qj NG (by decide +kernel) (by decide +kernel)
theorem Fu:KI tL.k:=lH NH (by decide +kernel)
structure PC (p:PS):Prop where
 ord:eY p.m
 hc:rU p.m
 hh:p.m.held.length<1500000
 hd:p.dead.length=p.ts.length
 hr:p.refs.length=p.ts.length
 hll:p.live.length≤2097152000000
 hrg:∀ x∈p.refs,0≤x∧x<4294967296
 htl:p.ts.length≤4000000000000
 hon:p.m.ord.length=p.m.n
 htm:p.m.tr.length<10000000000000
theorem nu:PC st0:=⟨by unfold eY;decide +kernel,by unfold rU;decide +kernel,by decide +kernel,by decide +kernel,by decide +kernel,by decide +kernel,by decide +kernel,by decide +kernel,by decide +kernel,by decide +kernel⟩
theorem ny:PC st1:=⟨by unfold eY;decide +kernel,by unfold rU;decide +kernel,by decide +kernel,by decide +kernel,by decide +kernel,by decide +kernel,by decide +kernel,by decide +kernel,by decide +kernel,by decide +kernel⟩
theorem wV:PC st2:=⟨by unfold eY;decide +kernel,by unfold rU;decide +kernel,by decide +kernel,by decide +kernel,by decide +kernel,by decide +kernel,by decide +kernel,by decide +kernel,by decide +kernel,by decide +kernel⟩
theorem Fv:PC tL:=⟨by unfold eY;decide +kernel,by unfold rU;decide +kernel,by decide +kernel,by decide +kernel,by decide +kernel,by decide +kernel,by decide +kernel,by decide +kernel,by decide +kernel,by decide +kernel⟩
def JY:List (Int×Int×Int×Int):=[(1,1,0,1),(1,0,0,2),(3,2,0,0),(4,0,0,0)]
def Vs (o:Int×Int×Int×Int):List Value:=[.int .i64 o.1,.int .i64 o.2.1,.int .i64 o.2.2.1,.int .i64 o.2.2.2]
theorem Hg (o:Int×Int×Int×Int):(Vs o).length=4:=rfl
def NI:Nat→PS
 | 0=>wG 2 5
 | 1=>lY st0 1 0 1
 | 2=>lY st1 0 0 2
 | 3=>CJ st2 2
 | _=>gZ tL 0
theorem Qw (k:Nat):eY (NI k).m:=by
 match k with
 | 0=>unfold eY;decide +kernel
 | 1=>unfold eY;decide +kernel
 | 2=>unfold eY;decide +kernel
 | 3=>unfold eY;decide +kernel
 | _+4=>unfold eY;show ∀ v∈(gZ tL 0).m.ord,0≤v∧v<(gZ tL 0).m.n;decide +kernel
section
variable {w w':World} {B:Nat→Prop} {pp:Nat} {q:PA}
abbrev wW (B:Nat→Prop) (w:World) (pp:Nat) (p':PS) (e:Ending) (w':World):Prop:=e=.returned (.bool true)∧(∃ q',PW B w' pp p' q')∧Up B w w'
theorem step0 (hP:PW B w pp st0 q) (hB:∀ b,B b→b<w.heap.size) :
  Calls Tryz.prog 31 #[.pointer (some ⟨pp,0,none⟩),.agg #[.int .i64 1,.int .i64 1,.int .i64 0,.int .i64 1]] w (wW B w pp (lY st0 1 0 1)):=by
 refine(yO pp 1 0 1 (fun w' _ w''=>(∃ q',PW B w'' pp (lY st0 1 0 1) q')∧Up B w' w'') (fun w' hs=>?_)).mono ?_
 ·exact CF (hP.same hs) (fun b hb=>Nat.lt_of_lt_of_le (hB b hb) hs.size) NF nu.ord nu.hc nu.hh nu.hd nu.hr nu.hll nu.hrg nu.htl 1 1 0 1 MV.1 MV.2 Ua (fun h=>absurd ET.2.2 h) ET.1 ET.2.1
 ·rintro e w'' ⟨rfl,w',hs,hq,hu⟩;exact⟨rfl,hq,(Up.bK hs).trans hu⟩
theorem step1 (hP:PW B w pp st1 q) (hB:∀ b,B b→b<w.heap.size) :
  Calls Tryz.prog 31 #[.pointer (some ⟨pp,0,none⟩),.agg #[.int .i64 1,.int .i64 0,.int .i64 0,.int .i64 2]] w (wW B w pp (lY st1 0 0 2)):=by
 refine(yO pp 0 0 2 (fun w' _ w''=>(∃ q',PW B w'' pp (lY st1 0 0 2) q')∧Up B w' w'') (fun w' hs=>?_)).mono ?_
 ·exact CF (hP.same hs) (fun b hb=>Nat.lt_of_lt_of_le (hB b hb) hs.size) NG ny.ord ny.hc ny.hh ny.hd ny.hr ny.hll ny.hrg ny.htl 1 0 0 2 MX.1 MX.2 Ub (fun h=>absurd EU.2.2 h) EU.1 EU.2.1
 ·rintro e w'' ⟨rfl,w',hs,hq,hu⟩;exact⟨rfl,hq,(Up.bK hs).trans hu⟩
theorem step2 (hP:PW B w pp st2 q) (hB:∀ b,B b→b<w.heap.size) :
  Calls Tryz.prog 31 #[.pointer (some ⟨pp,0,none⟩),.agg #[.int .i64 3,.int .i64 2,.int .i64 0,.int .i64 0]] w (wW B w pp (CJ st2 2)) :=
 Jw hP hB NH.bk wV.hc wV.hd wV.hr wV.hll wV.hrg 2 0 0 Uc Ud MZ.1 MZ.2
theorem Zr (hP:PW B w pp tL q) (hB:∀ b,B b→b<w.heap.size) :
  Calls Tryz.prog 31 #[.pointer (some ⟨pp,0,none⟩),.agg #[.int .i64 4,.int .i64 0,.int .i64 0,.int .i64 0]] w (wW B w pp (gZ tL 0)):=by
 refine Jv hP hB 0 0 0 (by decide +kernel) (fun _ h1=>?_) (by decide +kernel) Fv.ord Fv.hon Fv.htm Ue M0.1 M0.2;obtain⟨x,y,h⟩:=BN (l:=(0:Int).toNat) Fu (by decide +kernel);exact⟨x,y,zC h Fu⟩
theorem NJ (k:Nat) (o:Int×Int×Int×Int) (ho:JY[k]?=some o) (hP:PW B w pp (countP (NI k)) q) (hB:∀ b,B b→b<w.heap.size) :
  Calls Tryz.prog 31 #[.pointer (some ⟨pp,0,none⟩),.agg #[.int .i64 o.1,.int .i64 o.2.1,.int .i64 o.2.2.1,.int .i64 o.2.2.2]] w (wW B w pp (NI (k+1))):=by
 match k with
 | 0=>injection ho with ho;subst ho;exact step0 hP hB
 | 1=>injection ho with ho;subst ho;exact step1 hP hB
 | 2=>injection ho with ho;subst ho;exact step2 hP hB
 | 3=>injection ho with ho;subst ho;exact Zr hP hB
 | _+4=>cases ho
end
theorem JZ:M4 (gZ tL 0)=true:=by decide +kernel
end Go.Proofs.YtiomgckodmecbaaGreat
