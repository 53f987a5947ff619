/- Contracts and plain laws, put together in one file. No condition. -/
import Derived.Test.YtiomgckodmecbaaGreatJKernelRoom5
import Derived.Test.YtiomgckodmecbaaGreatProg
import Derived.KernelRfl
import Derived.BigRegion

set_option maxRecDepth 100000
set_option maxHeartbeats 32000000
namespace Go.Proofs.YtiomgckodmecbaaGreat
open Go.RowKit Go.Tk
theorem gm {α:Type} [DecidableEq α]:∀ {l m:List α},l.Nodup→(∀ a∈l,a∈m)→l.length≤m.length
 | [],_,_,_=>Nat.zero_le _
 | a::l,m,hn,hs=>by
  rw[List.nodup_cons] at hn;have ha:=hs a (List.mem_cons_self ..)
  have h1:=gm (l:=l) (m:=m.erase a) hn.2 (fun b hb=>by
   have hne:b≠a:=fun h=>hn.1 (h ▸ hb)
   exact(List.mem_erase_of_ne hne).2 (hs b (List.mem_cons_of_mem _ hb)))
  have h2:=List.length_erase_of_mem ha;have h3:0<m.length:=List.length_pos_of_mem ha;simp only[List.length_cons];omega
def SL (L:List bN) (l:List Nd) (n:Nd):List Nd:=if look L n=none∧n.lo≠n.hi then (if n∈l then l else l++[n]) else l
def news (L:List bN) (bL:List Nd):List Nd:=bL.foldl (SL L) []
theorem Bz (k:KS) (x:Int) (cs:List gu):bM k x cs=news k.L (cs.flatMap (dS x)):=rfl
theorem vI (L:List bN):∀ (bL s:List Nd),s.Nodup→(bL.foldl (SL L) s).Nodup∧∀ n,n∈bL.foldl (SL L) s↔n∈s∨(n∈bL∧look L n=none∧n.lo≠n.hi)
 | [],s,hs=>⟨hs,fun n=>by simp⟩
 | c::bL,s,hs=>by
  have hs':(SL L s c).Nodup∧∀ n,n∈SL L s c↔n∈s∨(n=c∧look L n=none∧n.lo≠n.hi):=by
   unfold SL;split
   ·rename_i h;split
    ·rename_i hm;refine⟨hs,fun n=>⟨.inl,fun hh=>hh.elim id (fun h1=>by rw[h1.1];exact hm)⟩⟩
    ·rename_i hm;refine⟨?_,fun n=>?_⟩
     ·rw[List.nodup_append];exact⟨hs,by simp,by rintro a ha b hb rfl;simp at hb;subst hb;exact hm ha⟩
     ·rw[List.mem_append,List.mem_singleton];constructor
      ·rintro(h1 | h1)
       ·exact .inl h1
       ·exact .inr ⟨h1,by rw[h1];exact h⟩
      ·rintro(h1 | h1)
       ·exact .inl h1
       ·exact .inr h1.1
   ·rename_i h;refine⟨hs,fun n=>⟨.inl,fun hh=>hh.elim id (fun h1=>?_)⟩⟩;rw[h1.1] at h1;exact absurd h1.2 h
  obtain⟨h1,h2⟩:=vI L bL (SL L s c) hs'.1;refine⟨h1,fun n=>?_⟩;rw[List.foldl_cons,h2,hs'.2];constructor
  ·rintro((h | h) | h)
   ·exact .inl h
   ·exact .inr ⟨by rw[h.1];exact List.mem_cons_self ..,h.2⟩
   ·exact .inr ⟨List.mem_cons_of_mem _ h.1,h.2⟩
  ·rintro(h | h)
   ·exact .inl (.inl h)
   ·rcases List.mem_cons.1 h.1 with h3 | h3
    ·exact .inl (.inr ⟨h3,h.2⟩)
    ·exact .inr ⟨h3,h.2⟩
theorem iK {L:List bN} {bL:List Nd} {n:Nd}:n∈news L bL↔n∈bL∧look L n=none∧n.lo≠n.hi:=by
 unfold news;rw[(vI L bL [] List.nodup_nil).2];simp
theorem oQ (L:List bN) (bL:List Nd):(news L bL).Nodup:=(vI L bL [] List.nodup_nil).1
theorem BA {L L':List bN} (h:∀ p∈L,p∈L') {n:Nd} (hn:look L' n=none):look L n=none:=by
 rw[bX] at hn ⊢;intro hm;obtain⟨r,hr⟩:=mem_keys.1 hm;exact hn (mem_keys.2 ⟨r,h _ hr⟩)
theorem rE {L L':List bN} {bL vJ:List Nd} (h:∀ p∈L,p∈L') (hc:∀ n∈vJ,n∈bL):(news L' vJ).length≤(news L bL).length:=by
 refine gm (oQ _ _) (fun n hn=>?_);rw[iK] at hn ⊢;exact⟨hc n hn.1,BA h hn.2.1,hn.2.2⟩
theorem IK {L:List bN} {bL:List Nd} {n:Nd} {r:Int} (hl:look L n=none) (hne:n.lo≠n.hi):(news (L++[(n,r)]) bL).length+1≤(news L (n::bL)).length:=by
 have h1:(n::news (L++[(n,r)]) bL).length≤(news L (n::bL)).length:=by
  refine gm ?_ (fun m hm=>?_)
  ·rw[List.nodup_cons];refine⟨fun hm=>?_,oQ _ _⟩
   have:=(iK.1 hm).2.1
   rw[bX] at this;exact this (mem_keys.2 ⟨r,by simp⟩)
  ·rcases List.mem_cons.1 hm with rfl | hm
   ·exact iK.2 ⟨List.mem_cons_self ..,hl,hne⟩
   ·obtain⟨a,b,c⟩:=iK.1 hm;exact iK.2 ⟨List.mem_cons_of_mem _ a,BA (fun p hp=>List.mem_append_left _ hp) b,c⟩
 simpa using h1
theorem BB {L:List bN} {bL:List Nd} {n:Nd} (hm:n∈bL) (hl:look L n=none) (hne:n.lo≠n.hi):0<(news L bL).length :=
 List.length_pos_of_mem (iK.2 ⟨hm,hl,hne⟩)
section
variable {k:KS} {ext:List Int} {X:List bN} {n:Nd}
theorem IM {n0:Nd} {r:Int} (h:Bk k (n.hi::n.lo::ext) ((n0,r)::X)) (hn:jH k n) (hne:n.lo≠n.hi) (hnew:n∉keys k.L) (hb:ext.length+k.L.length+1≤8000000):Bk (pU (nZ k r n) n r) ext X:=by
 have W9:(k.L++(n0,r)::X).Perm ((n0,r)::(k.L++X)):=List.perm_middle;have hr0:(n0,r)∈k.L++(n0,r)::X:=by simp
 obtain⟨m,rfl,m2,mu,ml⟩:=h.mem _ _ hr0;have hlt:=aY ml;have hL:(pU (nZ k (m:Int) n) n (m:Int)).L=k.L++[(n,(m:Int))]:=pV ⟨hn.v0,hn.v1⟩ hnew;have hls:∀ i:Nat,(pU (nZ k (m:Int) n) n (m:Int)).ls[i]?=if i=m then some ⟨n,true,0⟩ else k.ls[i]?:=by
  intro i;show(k.ls.set (m:Int).toNat ⟨n,true,0⟩)[i]?=_;rw[Int.toNat_natCast,List.getElem?_set];by_cases hi:m=i
  ·subst hi;rw[if_pos rfl,if_pos hlt,if_pos rfl]
  ·rw[if_neg hi,if_neg (fun h=>hi h.symm)]
 have hll:(pU (nZ k (m:Int) n) n (m:Int)).ls.length=k.ls.length:=by show(k.ls.set _ _).length=_;rw[List.length_set]
 have hP:((pU (nZ k (m:Int) n) n (m:Int)).L++X).Perm ((n,(m:Int))::(k.L++X)):=by
  rw[hL,List.append_assoc,List.singleton_append];exact List.perm_middle
 have hmem:∀ p,p∈(pU (nZ k (m:Int) n) n (m:Int)).L++X↔p=(n,(m:Int))∨p∈k.L++X:=fun p=>by rw[hP.mem_iff,List.mem_cons]
 have Gd:∀ p,p∈k.L++(n0,(m:Int))::X↔p=(n0,(m:Int))∨p∈k.L++X:=fun p=>by rw[W9.mem_iff,List.mem_cons]
 have hrn:=(W9.map (·.2)).nodup_iff.1 h.rn;rw[List.map_cons,List.nodup_cons] at hrn;have hnq:∀ n' q,(n',q)∈k.L++X→q≠m:=by
  rintro n' q hq rfl;exact hrn.1 (List.mem_map_of_mem (f:=(·.2)) hq)
 have htk:∀ q:Int,0≤q→tk (pU (nZ k (m:Int) n) n (m:Int)).ls q=tk k.ls q:=by
  intro q hq;obtain⟨i,rfl⟩:=Int.eq_ofNat_of_zero_le hq;unfold tk;rw[Int.toNat_natCast,hls];by_cases him:i=m
  ·subst him;rw[if_pos rfl,ml]
  ·rw[if_neg him]
 have hcnt:=h.cnt;rw[W9.length_eq,List.length_cons] at hcnt;refine⟨h.n1,h.n64,h.c2,h.cM,by rw[hls,if_neg (by omega)];exact h.l0,by rw[hls,if_neg (by omega)];exact h.l1,?_,?_,?_,?_,?_,h.fn,?_,by rw[hll];exact h.gK,by rw[hll];exact h.lim,h.ul,by rw[hll];exact h.Eb,?_,?_,?_,?_,?_⟩
 ·intro n' q hq;rcases(hmem _).1 hq with he | hq
  ·injection he with e1 e2
   subst e1 e2;exact⟨m,rfl,m2,mu,by rw[hls,if_pos rfl]⟩
  ·obtain⟨i,rfl,i2,iu,il⟩:=h.mem n' q ((Gd _).2 (.inr hq))
   have:=hnq _ _ hq
   exact⟨i,rfl,i2,iu,by rw[hls,if_neg (by omega)];exact il⟩
 ·intro i p i2 hp ht;rw[hls] at hp;by_cases him:i=m
  ·subst him;rw[if_pos rfl] at hp;injection hp with hp
   subst hp;exact(hmem _).2 (.inl rfl)
  ·rw[if_neg him] at hp;rcases(Gd _).1 (h.conv i p i2 hp ht) with h1 | h1
   ·injection h1 with _ h2;omega
   ·exact(hmem _).2 (.inr h1)
 ·rw[hL];unfold keys at hnew ⊢;rw[List.map_append,List.nodup_append];refine⟨h.kn,by simp,?_⟩;intro a ha b hb hab;simp at hb;subst hb hab;exact hnew ha
 ·rw[(hP.map _).nodup_iff,List.map_cons,List.nodup_cons];refine⟨?_,hrn.2⟩;intro hm;obtain⟨⟨n',q⟩,hq,he⟩:=List.mem_map.1 hm;exact hnq _ _ hq he
 ·intro q hq;obtain⟨i,rfl,i2,p,hp,hpt⟩:=h.Ea q hq
  have:i≠m:=by
   rintro rfl;rw[ml] at hp;injection hp with hp
   rw[← hp] at hpt;cases hpt
  exact⟨i,rfl,i2,p,by rw[hls,if_neg this];exact hp,hpt⟩
 ·rw[hP.length_eq,List.length_cons];exact hcnt
 ·rw[hL];intro n' q hq;rcases List.mem_append.1 hq with hq | hq
  ·obtain⟨a,b,c,d,e,f,g⟩:=h.fo n' q hq;exact⟨a,b,c,d,by rw[htk _ c];exact e,by rw[htk _ d];exact f,g⟩
  ·simp at hq;obtain⟨rfl,_⟩:=hq;exact⟨hn.v0,hn.v1,hn.l0,hn.h0,by rw[htk _ hn.l0];exact hn.l1,by rw[htk _ hn.h0];exact hn.h1,hne⟩
 ·intro n' q hq;have hu:k.us[q.toNat]?=some ((par k.L q+(if k.hs.getD q.toNat 0=0 then 0 else 1)+(n.hi::n.lo::ext).count q:Nat):Int):=by
   rcases(hmem _).1 hq with he | hq
   ·injection he with _ e2
    rw[e2];exact h.use n0 _ hr0
   ·exact h.use n' q ((Gd _).2 (.inr hq))
  show k.us[q.toNat]?=_;rw[hu,hL,uW,jF,tV];congr 1;rw[List.count_cons,List.count_cons];show((_+(if k.hs.getD q.toNat 0=0 then 0 else 1)+_:Nat):Int)=((_+(if k.hs.getD q.toNat 0=0 then 0 else 1)+_:Nat):Int);simp only[beq_iff_eq];omega
 ·intro i v hv;obtain⟨a,b,c⟩:=h.hol i v hv;refine⟨a,b,fun h0=>?_⟩;obtain⟨n',hn'⟩:=c h0;rcases(Gd _).1 hn' with h1 | h1
  ·injection h1 with _ h2
   exact⟨n,(hmem _).2 (.inl (by rw[h2]))⟩
  ·exact⟨n',(hmem _).2 (.inr h1)⟩
 ·intro q hq;obtain⟨a,b⟩:=h.Ap q (List.mem_cons_of_mem _ (List.mem_cons_of_mem _ hq));exact⟨a,by rw[htk _ a];exact b⟩
 ·rw[hL,List.length_append,List.length_singleton];omega
theorem Er (n:Nd):(n.lo=n.hi∧dw k n=(n.lo,k))∨(n.lo≠n.hi∧∃ r,look k.L n=some r∧dw k n=(r,k))∨(n.lo≠n.hi∧look k.L n=none∧dw k n=((au k:Int),aH k n)):=by
 unfold dw;by_cases h:n.lo=n.hi
 ·rw[if_pos h];exact .inl ⟨h,rfl⟩
 ·rw[if_neg h];cases hl:look k.L n with
  | none=>exact .inr (.inr ⟨h,rfl,rfl⟩)
  | some r=>exact .inr (.inl ⟨h,r,rfl,rfl⟩)
def rF (L:List bN) (n:Nd) (r:Int):Prop:=if n.lo=n.hi then r=n.lo else (n,r)∈L
theorem rF.mono {L L':List bN} {n:Nd} {r:Int} (h:rF L n r) (hs:∀ p∈L,p∈L'):rF L' n r:=by
 unfold rF at h ⊢;split
 ·rename_i hc;rwa [if_pos hc] at h
 ·rename_i hc;rw[if_neg hc] at h;exact hs _ h
structure Xa (k:KS) (n:Nd) (ext:List Int) (X:List bN):Prop where
 bk:Bk (dw k n).2 ext X
 live:0≤(dw k n).1∧tk (dw k n).2.ls (dw k n).1=true
 got:rF (dw k n).2.L n (dw k n).1
 sub:∀ p∈k.L,p∈(dw k n).2.L
 new:∀ p∈(dw k n).2.L,p∈k.L∨(p.1=n∧n.lo≠n.hi)
 room:∀ bL,(dw k n).2.ac+(news (dw k n).2.L bL).length≤k.ac+(news k.L (n::bL)).length
 len:(dw k n).2.L.length≤k.L.length+1
 hsd:∀ m,(dw k n).2.hs.getD m 0=k.hs.getD m 0
theorem qd (h:Bk k ext X) (n:Nd) (m:Nat):(aH k n).hs.getD m 0=k.hs.getD m 0:=by
 have e:(aH k n).hs=(upto k.hs (au k+1)).set (au k) 0:=by rw[dL]
 have hlt:au k<(upto k.hs (au k+1)).length:=by rw[gM];omega
 rw[e,iI hlt];split
 ·rename_i hm;subst hm;obtain⟨_,rf,_⟩:=eH h;rw[List.getD_eq_getElem?_getD];cases hx:k.hs[au k]? with
  | none=>rfl
  | some x =>
   obtain⟨_,_,c⟩:=h.hol _ x hx;by_cases h0:x=0
   ·subst h0;rfl
   ·obtain⟨n',hn'⟩:=c h0
    have:=(h.jG hn').2.2
    rw[rf] at this;cases this
 ·rw[List.getD_eq_getElem?_getD,List.getD_eq_getElem?_getD,kH];split
  ·rfl
  ·rename_i hge;rw[List.getElem?_eq_none (by omega)];split <;> rfl
theorem qf {n:Nd} (hv:0≤n.v∧n.v<k.n) (hnew:n∉keys k.L):(aH k n).L=k.L++[(n,(au k:Int))]:=by
 rw[dL];exact pV hv hnew
theorem Q6 (h:Bk k ext X) (hn:jH k n) (hc:n.lo≠n.hi→look k.L n=none→k.ac<k.c) (hb:ext.length+k.L.length<8000000):Xa k n ext X:=by
 rcases Er (k:=k) n with⟨he,e⟩ | ⟨hne,r,hl,e⟩ | ⟨hne,hl,e⟩
 ·refine⟨by rw[e];exact h,by rw[e];exact⟨hn.l0,hn.l1⟩,by rw[e];unfold rF;rw[if_pos he],by rw[e];exact fun p hp=>hp,by rw[e];exact fun p hp=>.inl hp,fun bL=>?_,by rw[e];exact Nat.le_succ _,by rw[e];exact fun _=>rfl⟩;rw[e]
  have:=rE (L:=k.L) (L':=k.L) (bL:=n::bL) (vJ:=bL) (fun p hp=>hp) (fun m hm=>List.mem_cons_of_mem _ hm)
  simp only;omega
 ·have hm:=fD hl;have hml:=h.jG (List.mem_append_left X hm);refine⟨by rw[e];exact h,by rw[e];exact⟨by simp only;omega,hml.2.2⟩,by rw[e];unfold rF;rw[if_neg hne];exact hm,by rw[e];exact fun p hp=>hp,by rw[e];exact fun p hp=>.inl hp,fun bL=>?_,by rw[e];exact Nat.le_succ _,by rw[e];exact fun _=>rfl⟩;rw[e]
  have:=rE (L:=k.L) (L':=k.L) (bL:=n::bL) (vJ:=bL) (fun p hp=>hp) (fun m hm=>List.mem_cons_of_mem _ hm)
  simp only;omega
 ·have hnew:=bX.1 hl;have hbk:=FM h (hc hne hl) ⟨hn.v0,hn.v1⟩ hn.l0 hn.l1 hn.h0 hn.h1 hne hnew hb;have hL:=qf (k:=k) ⟨hn.v0,hn.v1⟩ hnew;have hin:(n,(au k:Int))∈(aH k n).L:=by rw[hL];simp
  have hml:=hbk.jG (List.mem_append_left X hin);have hac:(aH k n).ac=k.ac+1:=by rw[dL];rfl
  refine⟨by rw[e];exact hbk,by rw[e];exact⟨by simp only;omega,hml.2.2⟩,by rw[e];unfold rF;rw[if_neg hne];exact hin,by rw[e];simp only;rw[hL];exact fun p hp=>List.mem_append_left _ hp,?_,fun bL=>?_,by rw[e];simp only;rw[hL];simp,by rw[e];exact qd h n⟩
  ·rw[e];simp only;rw[hL];intro p hp;rcases List.mem_append.1 hp with hp | hp
   ·exact .inl hp
   ·simp at hp;subst hp;exact .inr ⟨rfl,hne⟩
  ·rw[e];simp only;rw[hac,hL]
   have:=IK (bL:=bL) (r:=(au k:Int)) hl hne
   omega
end
structure Ord (k:KS):Prop where
 lo:∀ n r m,(n,r)∈k.L→(m,n.lo)∈k.L→bz k n.v<bz k m.v
 hi:∀ n r m,(n,r)∈k.L→(m,n.hi)∈k.L→bz k n.v<bz k m.v
structure KI (k:KS):Prop where
 bk:Bk k [] []
 lv:Lv k
 pos:Pos k
 ord:Ord k
theorem KI.mem' {k:KS} (K:KI k) {n:Nd} {r:Int} (h:(n,r)∈k.L):2≤r∧aI k.ls r=n∧tk k.ls r=true:=K.bk.jG (List.mem_append_left [] h)
theorem KI.uniq {k:KS} (K:KI k) {n m:Nd} {r:Int} (h:(n,r)∈k.L) (h':(m,r)∈k.L):n=m:=K.bk.uniq (List.mem_append_left [] h) (List.mem_append_left [] h')
theorem KI.live {k:KS} (K:KI k) {r:Int} (h0:0≤r):tk k.ls r=true↔r=0∨r=1∨∃ n,(n,r)∈k.L:=by
 have:=K.bk.NT h0
 rwa [List.append_nil] at this
theorem KI.const {k:KS} (K:KI k) {r:Int} (h:r=0∨r=1):(aI k.ls r).v = -1:=by
 rcases h with rfl | rfl
 ·unfold aI;rw[show((0:Int).toNat)=0 from rfl,K.bk.l0];rfl
 ·unfold aI;rw[show((1:Int).toNat)=1 from rfl,K.bk.l1];rfl
theorem Lv.vK {k:KS} (h:Lv k) {l v:Nat} (ho:k.ord[l]?=some (v:Int)):v<k.n∧bz k v=l:=by
 obtain⟨m,h1,h2,h3⟩:=h.o2 l v ho;obtain rfl:v=m:=by omega
 exact⟨h2,by unfold bz;rw[Int.toNat_natCast,List.getD_eq_getElem?_getD,h3];rfl⟩
theorem Lv.dM {k:KS} (h:Lv k) {v:Int} (h0:0≤v) (h1:v<k.n):∃ i:Nat,bz k v=i∧i<k.n∧k.ord[i]?=some v:=by
 obtain⟨m,rfl⟩:=Int.eq_ofNat_of_zero_le h0;have hlt:m<k.bH.length:=by rw[h.ll];omega
 obtain⟨i,a,b,c⟩:=h.l2 m _ (List.getElem?_eq_getElem hlt);exact⟨i,by unfold bz;rw[Int.toNat_natCast,List.getD_eq_getElem?_getD,List.getElem?_eq_getElem hlt,Option.getD_some,a],b,c⟩
structure XY (k:KS) (l x y:Nat):Prop where
 hx:k.ord[l]?=some (x:Int)
 hy:k.ord[l+1]?=some (y:Int)
section
variable {k:KS} {l x y:Nat}
theorem XY.facts (h:XY k l x y) (K:KI k):x<k.n∧y<k.n∧bz k x=l∧bz k y=l+1∧x≠y∧(∀ v:Int,0≤v→v<k.n→bz k v=l→v=x)∧(∀ v:Int,0≤v→v<k.n→bz k v=l+1→v=y):=by
 obtain⟨h1,h2⟩:=K.lv.vK h.hx;obtain⟨h3,h4⟩:=K.lv.vK h.hy;refine⟨h1,h3,h2,by simpa using h4,?_,?_,?_⟩
 ·rintro rfl;rw[h2] at h4;omega
 ·intro v v0 v1 hv;obtain⟨i,e1,_,e3⟩:=K.lv.dM v0 v1;obtain rfl:i=l:=by omega
  rw[h.hx] at e3;injection e3 with e3
  exact e3.symm
 ·intro v v0 v1 hv;obtain⟨i,e1,_,e3⟩:=K.lv.dM v0 v1;obtain rfl:i=l+1:=by omega
  rw[h.hy] at e3;injection e3 with e3
  exact e3.symm
def Low (k:KS) (l:Nat) (q:Int):Prop:=0≤q∧tk k.ls q=true∧∀ m,(m,q)∈k.L→(l:Int)+1<bz k m.v
theorem fU (K:KI k) {q:Int} (h0:0≤q) (ht:tk k.ls q=true):(∃ m,(m,q)∈k.L∧m.v=y∧bZ k q y=(m.lo,m.hi))∨((∀ m,(m,q)∈k.L→m.v≠y)∧(aI k.ls q).v≠y∧bZ k q y=(q,q)):=by
 rcases(K.live h0).1 ht with h | h | ⟨m,hm⟩
 ·have hc:=K.const (.inl h);exact .inr ⟨fun m hm=>by have:=(K.mem' hm).1;omega,by omega,by unfold bZ;rw[if_neg (by omega)]⟩
 ·have hc:=K.const (.inr h);exact .inr ⟨fun m hm=>by have:=(K.mem' hm).1;omega,by omega,by unfold bZ;rw[if_neg (by omega)]⟩
 ·have hg:=(K.mem' hm).2.1;by_cases hy:m.v=y
  ·exact .inl ⟨m,hm,hy,by unfold bZ;rw[hg,if_pos hy]⟩
  ·exact .inr ⟨fun m' hm'=>by rw[K.uniq hm' hm];exact hy,by rw[hg];exact hy,by unfold bZ;rw[hg,if_neg hy]⟩
theorem rG (h:XY k l x y) (K:KI k) {n:Nd} {r q:Int} (hn:(n,r)∈k.L) (hv:n.v=x) (hq:q=n.lo∨q=n.hi):Low k l (bZ k q y).1∧Low k l (bZ k q y).2:=by
 obtain⟨xn,yn,lx,ly,xy,ix,iy⟩:=h.facts K;obtain⟨_,_,l0,h0,lt,ht,_⟩:=K.bk.fo n r hn;have q0:0≤q:=by rcases hq with rfl | rfl <;> assumption
 have qt:tk k.ls q=true:=by rcases hq with rfl | rfl <;> assumption
 have Es:∀ m,(m,q)∈k.L→(l:Int)<bz k m.v:=by
  intro m hm;rw[← lx,← hv];rcases hq with rfl | rfl
  ·exact K.ord.lo n r m hn hm
  ·exact K.ord.hi n r m hn hm
 rcases fU (y:=y) K q0 qt with⟨m,hm,N8,hp⟩ | ⟨hno,_,hp⟩
 ·rw[hp];obtain⟨_,_,ml0,mh0,mlt,mht,_⟩:=K.bk.fo m q hm;refine⟨⟨ml0,mlt,fun m' hm'=>?_⟩,⟨mh0,mht,fun m' hm'=>?_⟩⟩
  ·have:=K.ord.lo m q m' hm hm'
   rw[N8,ly] at this;exact this
  ·have:=K.ord.hi m q m' hm hm'
   rw[N8,ly] at this;exact this
 ·rw[hp]
  have:Low k l q:=⟨q0,qt,fun m hm=>by
   have h1:=Es m hm;obtain⟨v0,v1,_⟩:=K.bk.fo m q hm;have h2:bz k m.v≠(l:Int)+1:=fun he=>hno m hm (iy m.v v0 v1 he)
   omega⟩
  exact⟨this,this⟩
theorem vL (K:KI k) {q q':Int} (h0:0≤q) (ht:tk k.ls q=true) (h0':0≤q') (ht':tk k.ls q'=true) (he:bZ k q y=bZ k q' y):q=q':=by
 rcases fU (y:=y) K h0 ht with⟨m,hm,N8,hp⟩ | ⟨_,_,hp⟩ <;> rcases fU (y:=y) K h0' ht' with⟨m',hm',acp,hp'⟩ | ⟨_,_,hp'⟩
 ·rw[hp,hp'] at he;injection he with e1 e2
  have:m=m':=by
   cases m;cases m'
   simp_all
  rw[this] at hm;exact fI K.bk.kn hm hm'
 ·rw[hp,hp'] at he;injection he with e1 e2
  obtain⟨_,_,_,_,_,_,hne⟩:=K.bk.fo m q hm;exact absurd (e1.trans e2.symm) hne
 ·rw[hp,hp'] at he;injection he with e1 e2
  obtain⟨_,_,_,_,_,_,hne⟩:=K.bk.fo m' q' hm';exact absurd (e1.symm.trans e2) hne
 ·rw[hp,hp'] at he;injection he
theorem oU {L:List bN} {r:Int}:r∈rising L↔∃ n,(n,r)∈L:=by
 unfold rising;rw[List.mem_mergeSort,List.mem_map];constructor
 ·rintro⟨⟨n,q⟩,h,rfl⟩;exact⟨n,h⟩
 ·rintro⟨n,h⟩;exact⟨_,h,rfl⟩
theorem zx {L:List bN} (h:(L.map (·.2)).Nodup):(rising L).Nodup:=(List.mergeSort_perm _ _).nodup_iff.2 h
theorem LA (k:KS) (x y:Int):(aB k x y).map (·.r)=(rising (jv k.L x.toNat)).filter (p9 k y):=by
 unfold aB dH;rw[List.map_map];exact List.map_id _
theorem vM (K:KI k) (x y:Int):((aB k x y).map (·.r)).Nodup:=by
 rw[LA];refine jf _ (zx ?_)
 have:=K.bk.rn
 rw[List.append_nil] at this;exact this.sublist (List.Sublist.map _ (List.filter_sublist))
structure Gf (k:KS) (l x y:Nat) (c:gu):Prop where
 mem:(c.n,c.r)∈k.L
 v:c.n.v=x
 p0:bZ k c.n.lo y=(c.jS,c.jJ)
 p1:bZ k c.n.hi y=(c.jT,c.jK)
 ne:c.jS≠c.jJ∨c.jT≠c.jK
 O3:Low k l c.jS
 A9:Low k l c.jJ
 l10:Low k l c.jT
 Xc:Low k l c.jK
theorem iL (h:XY k l x y) (K:KI k) {c:gu} (hc:c∈aB k x y):Gf k l x y c:=by
 unfold aB dH at hc;rw[Int.toNat_natCast] at hc;obtain⟨r,hr,rfl⟩:=List.mem_map.1 hc;obtain⟨hr1,hr2⟩:=List.mem_filter.1 hr;obtain⟨n,hn⟩:=oU.1 hr1;obtain⟨hn1,hn2⟩:=List.mem_filter.1 hn;replace hn2:n.v=x:=by simpa using hn2
 have hg:=(K.mem' hn1).2.1;have e:sN k y r=⟨r,n,(bZ k n.lo y).1,(bZ k n.lo y).2,(bZ k n.hi y).1,(bZ k n.hi y).2⟩:=by unfold sN;rw[hg]
 rw[e];obtain⟨_,_,l0,h0,lt,ht,_⟩:=K.bk.fo n r hn1;have pl:=rG h K hn1 hn2 (.inl rfl);have ph:=rG h K hn1 hn2 (.inr rfl);refine⟨hn1,hn2,rfl,rfl,?_,pl.1,pl.2,ph.1,ph.2⟩;unfold p9 at hr2;rw[hg] at hr2;rw[Bool.or_eq_true] at hr2;rcases hr2 with h1 | h1
 ·left;rcases fU (y:=y) K l0 lt with⟨m,hm,_,hp⟩ | ⟨_,hno,_⟩
  ·rw[hp];exact(K.bk.fo m _ hm).2.2.2.2.2.2
  ·exact absurd (of_decide_eq_true h1) hno
 ·right;rcases fU (y:=y) K h0 ht with⟨m,hm,_,hp⟩ | ⟨_,hno,_⟩
  ·rw[hp];exact(K.bk.fo m _ hm).2.2.2.2.2.2
  ·exact absurd (of_decide_eq_true h1) hno
theorem LC (h:XY k l x y) (K:KI k) {n:Nd} {r:Int} (hn:(n,r)∈k.L) (hv:n.v=x) (hc:∀ c∈aB k x y,c.r≠r) {q:Int} (hq:q=n.lo∨q=n.hi):Low k l q:=by
 obtain⟨_,_,l0,h0,lt,ht,_⟩:=K.bk.fo n r hn;have q0:0≤q:=by rcases hq with rfl | rfl <;> assumption
 have qt:tk k.ls q=true:=by rcases hq with rfl | rfl <;> assumption
 have hg:=(K.mem' hn).2.1;rcases fU (y:=y) K q0 qt with⟨m,hm,N8,hp⟩ | ⟨hno,_,hp⟩
 ·exfalso;refine hc (sN k y r) ?_ rfl;unfold aB dH;refine List.mem_map.2 ⟨r,List.mem_filter.2 ⟨?_,?_⟩,rfl⟩
  ·rw[Int.toNat_natCast];exact oU.2 ⟨n,List.mem_filter.2 ⟨hn,by simpa using hv⟩⟩
  ·unfold p9;rw[hg];have hgm:=(K.mem' hm).2.1;rcases hq with rfl | rfl
   ·simp[hgm,N8]
   ·simp[hgm,N8]
 ·have:=(rG h K hn hv hq).1
  rwa [hp] at this
end
def kids (cs:List gu):List Int:=cs.flatMap fun c=>[c.n.lo,c.n.hi]
def zy (cs:List gu):List bN:=cs.map fun c=>(c.n,c.r)
theorem LD (cs:List gu):(kids cs).length=2*cs.length:=by
 unfold kids
 induction cs with
 | nil=>rfl
 | cons c cs ih=>rw[List.flatMap_cons,List.length_append,ih];simp <;> omega
theorem BC (a b:List gu):kids (a++b)=kids a++kids b:=by unfold kids;rw[List.flatMap_append]
theorem BD:∀ (cs:List gu) (k:KS) (ext:List Int) (X:List bN),Bk k ext X→(∀ c∈cs,(c.n,c.r)∈k.L)→(cs.map (·.n)).Nodup→ext.length+k.L.length+cs.length≤8000000→
  Bk (bD k cs) (kids cs++ext) (zy cs++X)∧(∀ p,p∈(bD k cs).L↔p∈k.L∧∀ c∈cs,p.1≠c.n)∧(bD k cs).hs=k.hs∧(bD k cs).ac=k.ac∧iZ (bD k cs)=iZ k
 | [],k,ext,X,h,_,_,_=>⟨h,fun p=>by simp[bD],rfl,rfl,rfl⟩
 | c::cs,k,ext,X,h,hm,hn,hb=>by
  rw[List.map_cons,List.nodup_cons] at hn;have hmc:=hm c (List.mem_cons_self ..);have hlen:=(gN h.kn hmc).length_eq;have hL:=(u6 h hmc).1;simp only[List.length_cons] at hb hlen;have h1:=KZ h hmc (by omega);have hmem:∀ p,p∈(iG k c.n).L↔p∈k.L∧p.1≠c.n:=by
   intro p;rw[hL];unfold without;rw[List.mem_filter];simp
  obtain⟨g1,g2,g3,g4,g5⟩:=BD cs (iG k c.n) _ _ h1 (fun c' hc'=>(hmem _).2 ⟨hm c' (List.mem_cons_of_mem _ hc'),fun he=>hn.1 (by rw[← he];exact List.mem_map_of_mem (f:=(·.n)) hc')⟩) hn.2 (by simp only[List.length_cons];rw[hL];omega);refine⟨?_,fun p=>?_,g3,g4,g5⟩
  ·refine g1.perm ?_ ?_
   ·show(([c.n.lo,c.n.hi]++kids cs)++ext).Perm (kids cs++(c.n.hi::c.n.lo::ext));have e1:([c.n.lo,c.n.hi]++kids cs).Perm (kids cs++[c.n.lo,c.n.hi]):=List.perm_append_comm;refine(e1.append_right ext).trans ?_;rw[List.append_assoc];exact(List.Perm.swap _ _ _).append_left _
   ·show((c.n,c.r)::(zy cs++X)).Perm (zy cs++(c.n,c.r)::X);exact List.perm_middle.symm
  ·show p∈(bD (iG k c.n) cs).L↔_;rw[g2,hmem];constructor
   ·rintro⟨⟨a,b⟩,d⟩;exact⟨a,fun c' hc'=>by rcases List.mem_cons.1 hc' with rfl | hc';exact b;exact d c' hc'⟩
   ·rintro⟨a,b⟩;exact⟨⟨a,b c (List.mem_cons_self ..)⟩,fun c' hc'=>b c' (List.mem_cons_of_mem _ hc')⟩
structure T2 (k0:KS) (x y:Nat) (done rest:List gu) (k:KS):Prop where
 bk:Bk k (kids (done++rest)) (zy rest)
 same:iZ k=iZ k0
 base:∀ p∈k0.L,(∀ c∈done++rest,p.2≠c.r)→p∈k.L
 ZO:∀ p∈k.L,(p∈k0.L∧∀ c∈done++rest,p.2≠c.r)∨(∃ c∈done,(p.1=⟨x,c.jS,c.jT⟩∨p.1=⟨x,c.jJ,c.jK⟩)∧p.1.lo≠p.1.hi)∨
  (∃ c∈done,p.2=c.r∧p.1.v=y∧rF k.L ⟨x,c.jS,c.jT⟩ p.1.lo∧rF k.L ⟨x,c.jJ,c.jK⟩ p.1.hi)
 dn:∀ c∈done,∃ n,(n,c.r)∈k.L∧n.v=y∧rF k.L ⟨x,c.jS,c.jT⟩ n.lo∧rF k.L ⟨x,c.jJ,c.jK⟩ n.hi
 room:k.ac+(news k.L (rest.flatMap (dS x))).length≤k.c
 hsd:∀ m,k.hs.getD m 0=k0.hs.getD m 0
section
variable {k0 k:KS} {l x y:Nat} {done rest:List gu} {ext:List Int} {X:List bN}
theorem jM (h:XY k0 l x y) (K:KI k0) {cs:List gu} (hcs:∀ c∈cs,Gf k0 l x y c) (hb:Bk k ext X) (hbase:∀ p∈k0.L,(∀ c∈cs,p.2≠c.r)→p∈k.L) {q:Int} (hq:Low k0 l q) :
  0≤q∧tk k.ls q=true∧∀ m,(m,q)∈k.L→(m,q)∈k0.L∧m.v≠x∧m.v≠y:=by
 obtain⟨xn,yn,lx,ly,xy,ix,iy⟩:=h.facts K;obtain⟨q0,qt,ql⟩:=hq;rcases(K.live q0).1 qt with h1 | h1 | ⟨m,hm⟩
 ·refine⟨q0,(hb.NT q0).2 (.inl h1),fun m hm=>?_⟩
  have:=(hb.jG (List.mem_append_left X hm)).1
  omega
 ·refine⟨q0,(hb.NT q0).2 (.inr (.inl h1)),fun m hm=>?_⟩
  have:=(hb.jG (List.mem_append_left X hm)).1
  omega
 ·have hlm:=ql m hm;have ZC:m.v≠x:=fun he=>by rw[he,lx] at hlm;omega
  have hvy:m.v≠y:=fun he=>by rw[he,ly] at hlm;omega
  have hk:=hbase (m,q) hm (fun c hc he=>by
   have hc2:=hcs c hc
   have:=K.uniq (r:=q) hm (by have:=hc2.mem;rwa [← he] at this)
   exact ZC (by rw[this];exact hc2.v))
  refine⟨q0,(hb.NT q0).2 (.inr (.inr ⟨m,List.mem_append_left X hk⟩)),fun m' hm'=>?_⟩
  have:=hb.uniq (List.mem_append_left X hm') (List.mem_append_left X hk)
  rw[this];exact⟨hm,ZC,hvy⟩
theorem zA (h:XY k0 l x y) (K:KI k0) {cs:List gu} (hcs:∀ c∈cs,Gf k0 l x y c) (hb:Bk k ext X) (hbase:∀ p∈k0.L,(∀ c∈cs,p.2≠c.r)→p∈k.L) {a b a' b' r:Int} (la:Low k0 l a) (la':Low k0 l a')
  (g:rF k.L ⟨x,a,b⟩ r) (g':rF k.L ⟨x,a',b'⟩ r):a=a'∧b=b':=by
 unfold rF at g g';split at g
 ·rename_i e1;simp only at e1 g;split at g'
  ·rename_i e2;simp only at e2 g';exact⟨g.symm.trans g',by rw[← e1,← e2];exact g.symm.trans g'⟩
  ·exfalso
   have:=(jM h K hcs hb hbase la).2.2 _ (by rw[← g];exact g')
   exact this.2.1 rfl
 ·split at g'
  ·rename_i e2;simp only at e2 g';exfalso
   have:=(jM h K hcs hb hbase la').2.2 _ (by rw[← g'];exact g)
   exact this.2.1 rfl
  ·have:=hb.uniq (List.mem_append_left X g) (List.mem_append_left X g')
   injection this with _ e2 e3
   exact⟨e2,e3⟩
theorem BF (hb:Bk k ext X) {r:Int} (h0:0≤r) (ht:tk k.ls r=true):Bv k r:=by
 refine⟨h0,by have:=hb.lt h0 ht;omega,fun h1=>?_⟩;rcases(hb.NT h0).1 ht with h | h | ⟨n,hn⟩
 ·omega
 ·omega
 ·obtain⟨u,hu,_,hu1,_⟩:=hb.uX hn;exact⟨u,hu,by omega,by omega⟩
theorem Et (k:KS) (r:Int):(bF k r).L=k.L:=(ic (k:=k) (r:=r)).2.2.2.2.2.1
theorem Gg (k:KS) (r:Int):(bF k r).ls=k.ls:=(ic (k:=k) (r:=r)).2.2.2.1
theorem Gh (k:KS) (r:Int):(bF k r).ac=k.ac:=(ic (k:=k) (r:=r)).2.2.1
theorem vN (k:KS) (r:Int):(bF k r).hs=k.hs:=(ic (k:=k) (r:=r)).2.2.2.2.2.2.1
theorem O4 (h:XY k0 l x y) (K:KI k0) {c:gu} (hcs:∀ d∈done++c::rest,Gf k0 l x y d) (hnd:((done++c::rest).map (·.r)).Nodup) (hlen:(done++c::rest).length≤1048576) (t:T2 k0 x y done (c::rest) k) :
  zo k x y c∧T2 k0 x y (done++[c]) rest (gY x y k c):=by
 obtain⟨xn,yn,lx,ly,xy,ix,iy⟩:=h.facts K;have hc:=hcs c (by simp);have hkn:k.n=k0.n:=congrArg (fun t=>t.1) t.same;have hkc:k.c=k0.c:=congrArg (fun t=>t.2.1) t.same;have hb1:=t.bk;have hkl:(kids (done++c::rest)).length≤2097152:=by rw[LD];omega
 have hLl:k.L.length≤1048576:=by
  have h1:=hb1.cnt;have h2:=hb1.gK;have h3:=hb1.lim;have h4:=hb1.cM;simp only[List.length_append] at h1;omega
 -- the first node
 have live:∀ {q:Int},Low k0 l q→0≤q∧tk k.ls q=true:=fun hq=>let w:=jM h K hcs hb1 t.base hq;⟨w.1,w.2.1⟩
 have nA:jH k ⟨x,c.jS,c.jT⟩:=⟨by simp,by simp only;rw[hkn];omega,(live hc.O3).1,(live hc.O3).2,(live hc.l10).1,(live hc.l10).2⟩;have Gi:(c::rest).flatMap (dS x)=⟨x,c.jS,c.jT⟩::⟨x,c.jJ,c.jK⟩::rest.flatMap (dS x):=rfl;have hroom:=t.room;rw[Gi] at hroom;have r1:c.jS≠c.jT→look k.L ⟨x,c.jS,c.jT⟩=none→k.ac<k.c:=fun hne hl=>by
  have:=BB (bL:=(⟨x,c.jS,c.jT⟩:Nd)::⟨x,c.jJ,c.jK⟩::rest.flatMap (dS x)) (List.mem_cons_self ..) hl hne
  omega
 have gA:=Q6 hb1 nA r1 (by omega);obtain⟨lo,hlo⟩:∃ lo,(dw k ⟨x,c.jS,c.jT⟩).1=lo:=⟨_,rfl⟩;obtain⟨k1,hk1⟩:∃ k1,(dw k ⟨x,c.jS,c.jT⟩).2=k1:=⟨_,rfl⟩;have aaD:iZ k1=iZ k:=by rw[← hk1];exact qb _ _
 obtain⟨gA1,Xd,gA3,ZP,gA5,gA6,gA7,gA8⟩:=gA;rw[hlo,hk1] at Xd gA3;rw[hk1] at gA1 ZP gA5 gA6 gA7 gA8;have u1:Bv k1 lo:=BF gA1 Xd.1 Xd.2;have hA:bS k x c=bF k1 lo:=by unfold bS;rw[hlo,hk1]
 have hb2:Bk (bS k x c) (lo::kids (done++c::rest)) (zy (c::rest)):=by rw[hA];exact Ec gA1 Xd.1 Xd.2 (by omega)
 have QJ:(bS k x c).L=k1.L:=by rw[hA,Et]
 have acr:(bS k x c).ls=k1.ls:=by rw[hA,Gg]
 have Xe:(bS k x c).ac=k1.ac:=by rw[hA,Gh]
 have hAs:iZ (bS k x c)=iZ k:=by rw[hA,gQ,aaD]
 have hAn:(bS k x c).n=k0.n:=(congrArg (fun t=>t.1) hAs).trans hkn;have hAc:(bS k x c).c=k.c:=congrArg (fun t=>t.2.1) hAs;have Xf:∀ p∈k0.L,(∀ d∈done++c::rest,p.2≠d.r)→p∈(bS k x c).L:=fun p hp hq=>by rw[QJ];exact ZP p (t.base p hp hq)
 -- the second
 have Gj:∀ {q:Int},Low k0 l q→0≤q∧tk (bS k x c).ls q=true:=fun hq=>let w:=jM h K hcs hb2 Xf hq;⟨w.1,w.2.1⟩
 have nB:jH (bS k x c) ⟨x,c.jJ,c.jK⟩:=⟨by simp,by simp only;rw[hAn];omega,(Gj hc.A9).1,(Gj hc.A9).2,(Gj hc.Xc).1,(Gj hc.Xc).2⟩;have abY:=gA6 (⟨x,c.jJ,c.jK⟩::rest.flatMap (dS x));have r2:c.jJ≠c.jK→look (bS k x c).L ⟨x,c.jJ,c.jK⟩=none→(bS k x c).ac<(bS k x c).c:=fun hne hl=>by
  rw[QJ] at hl
  have:=BB (bL:=(⟨x,c.jJ,c.jK⟩:Nd)::rest.flatMap (dS x)) (List.mem_cons_self ..) hl hne
  rw[Xe,hAc];omega
 have gB:=Q6 hb2 nB r2 (by simp only[List.length_cons];rw[QJ];omega);obtain⟨hi,hhi⟩:∃ hi,(dw (bS k x c) ⟨x,c.jJ,c.jK⟩).1=hi:=⟨_,rfl⟩;obtain⟨k2,hk2⟩:∃ k2,(dw (bS k x c) ⟨x,c.jJ,c.jK⟩).2=k2:=⟨_,rfl⟩;have aaE:iZ k2=iZ k:=by rw[← hk2,qb,hAs]
 obtain⟨gB1,Xg,gB3,Xh,gB5,gB6,gB7,gB8⟩:=gB;rw[hhi,hk2] at Xg gB3;rw[hk2] at gB1 Xh gB5 gB6 gB7 gB8;rw[QJ] at Xh gB5 gB6 gB7;have u2:Bv k2 hi:=BF gB1 Xg.1 Xg.2;have hB:bO k x c=bF k2 hi:=by unfold bO;rw[hhi,hk2]
 have hb3:Bk (bO k x c) (hi::lo::kids (done++c::rest)) (zy (c::rest)):=by
  rw[hB];exact Ec gB1 Xg.1 Xg.2 (by simp only[List.length_cons];omega)
 have hBL:(bO k x c).L=k2.L:=by rw[hB,Et]
 have acs:(bO k x c).ls=k2.ls:=by rw[hB,Gg]
 have aaF:(bO k x c).ac=k2.ac:=by rw[hB,Gh]
 have hBs:iZ (bO k x c)=iZ k:=by rw[hB,gQ,aaE]
 have hBn:(bO k x c).n=k0.n:=(congrArg (fun t=>t.1) hBs).trans hkn;have yB:∀ p∈k0.L,(∀ d∈done++c::rest,p.2≠d.r)→p∈(bO k x c).L:=fun p hp hq=>by rw[hBL];exact Xh p (ZP p (t.base p hp hq))
 have xI:rF (bO k x c).L ⟨x,c.jS,c.jT⟩ lo:=by rw[hBL];exact gA3.mono Xh
 have xJ:rF (bO k x c).L ⟨x,c.jJ,c.jK⟩ hi:=by rw[hBL];exact gB3
 have loL:0≤lo∧tk (bO k x c).ls lo=true:=by
  have:=hb3.Ap lo (by simp)
  exact this
 have hiL:0≤hi∧tk (bO k x c).ls hi=true:=hb3.Ap hi (by simp);have hN:oD k x y c=⟨y,lo,hi⟩:=by unfold oD;rw[hlo,hhi]
 have n3:jH (bO k x c) ⟨y,lo,hi⟩:=⟨by simp,by simp only;rw[hBn];omega,loL.1,loL.2,hiL.1,hiL.2⟩;obtain⟨m,hrm,m2,_,mls⟩:=hb3.mem c.n c.r (by simp[zy]);obtain⟨_,_,cl0,ch0,KO,cht,Xi⟩:=K.bk.fo _ _ hc.mem
 -- it is a new one,with aaG children
 have hne:lo≠hi:=by
  rintro rfl;obtain⟨e1,e2⟩:=zA h K hcs hb3 yB hc.O3 hc.A9 xI xJ;rcases hc.ne with h1 | h1
  ·exact h1 e1
  ·exact h1 e2
 have hsub:∀ p∈k.L,p∈(bO k x c).L:=fun p hp=>by rw[hBL];exact Xh p (ZP p hp)
 have Q7:∀ p∈(bO k x c).L,p∈k.L∨((p.1=⟨x,c.jS,c.jT⟩∨p.1=⟨x,c.jJ,c.jK⟩)∧p.1.lo≠p.1.hi):=fun p hp=>by
  rw[hBL] at hp;rcases gB5 p hp with h1 | ⟨h1,h2⟩
  ·rcases gA5 p h1 with h3 | ⟨h3,h4⟩
   ·exact .inl h3
   ·exact .inr ⟨.inl h3,by rw[h3];exact h4⟩
  ·exact .inr ⟨.inr h1,by rw[h1];exact h2⟩
 have hyx:(y:Int)≠(x:Int):=by omega
 have hnew:(⟨y,lo,hi⟩:Nd)∉keys (bO k x c).L:=by
  intro hm;obtain⟨r,hr⟩:=mem_keys.1 hm;rcases Q7 _ hr with h1 | ⟨h1 | h1,_⟩
  ·rcases t.ZO _ h1 with⟨h2,_⟩ | ⟨d,_,h2 | h2,_⟩ | ⟨d,hd,_,_,h3,h4⟩
   ·-- a node that was there: its children lie below
    obtain⟨_,_,a0,b0,at_,bt,_⟩:=K.bk.fo _ _ h2;have Xj:Low k0 l lo:=⟨a0,at_,fun m' hm'=>by have:=K.ord.lo _ _ m' h2 hm';simp only at this;rw[ly] at this;exact this⟩;have Xk:Low k0 l hi:=⟨b0,bt,fun m' hm'=>by have:=K.ord.hi _ _ m' h2 hm';simp only at this;rw[ly] at this;exact this⟩;have e1:c.jS=lo∧c.jT=lo:=by
     unfold rF at xI;split at xI
     ·rename_i e;simp only at e xI;exact⟨xI.symm,by rw[← e];exact xI.symm⟩
     ·exact absurd rfl ((jM h K hcs hb3 yB Xj).2.2 _ xI).2.1
    have e2:c.jJ=hi∧c.jK=hi:=by
     unfold rF at xJ;split at xJ
     ·rename_i e;simp only at e xJ;exact⟨xJ.symm,by rw[← e];exact xJ.symm⟩
     ·exact absurd rfl ((jM h K hcs hb3 yB Xk).2.2 _ xJ).2.1
    have:c.n.lo=c.n.hi:=vL K cl0 KO ch0 cht (by rw[hc.p0,hc.p1,e1.1,e1.2,e2.1,e2.2])
    exact Xi this
   ·injection h2 with e;exact hyx e
   ·injection h2 with e;exact hyx e
   ·have hd':=hcs d (by simp[hd]);have g3:rF (bO k x c).L ⟨x,d.jS,d.jT⟩ lo:=rF.mono h3 hsub;have g4:rF (bO k x c).L ⟨x,d.jJ,d.jK⟩ hi:=rF.mono h4 hsub;obtain⟨e1,e2⟩:=zA h K hcs hb3 yB hc.O3 hd'.O3 xI g3;obtain⟨e3,e4⟩:=zA h K hcs hb3 yB hc.A9 hd'.A9 xJ g4;obtain⟨_,_,dl0,dh0,dlt,dht,_⟩:=K.bk.fo _ _ hd'.mem;have f1:c.n.lo=d.n.lo:=vL K cl0 KO dl0 dlt (by rw[hc.p0,hd'.p0,e1,e3]);have f2:c.n.hi=d.n.hi:=vL K ch0 cht dh0 dht (by rw[hc.p1,hd'.p1,e2,e4]);have f3:c.n=d.n:=by
     have v1:=hc.v;have v2:=hd'.v;cases hcn:c.n;cases hdn:d.n;rw[hcn] at f1 f2 v1;rw[hdn] at f1 f2 v2;simp only at f1 f2 v1 v2;rw[v1,v2,f1,f2]
    have f4:c.r=d.r:=fI K.bk.kn hc.mem (by rw[f3];exact hd'.mem);rw[List.map_append,List.nodup_append] at hnd;exact hnd.2.2 _ (List.mem_map_of_mem (f:=(·.r)) hd) _ (by simp) f4.symm
  ·injection h1 with e;exact hyx e
  ·injection h1 with e;exact hyx e
 have SN:zy (c::rest)=(c.n,c.r)::zy rest:=rfl;rw[SN] at hb3;have hBl:(bO k x c).L.length≤1048580:=by rw[hBL];omega
 have hfin:=IM (n:=⟨y,lo,hi⟩) hb3 n3 hne hnew (by omega);have SQ:gY x y k c=pU (nZ (bO k x c) c.r ⟨y,lo,hi⟩) ⟨y,lo,hi⟩ c.r:=by unfold gY;rw[hN]
 have Q8:(gY x y k c).L=(bO k x c).L++[(⟨y,lo,hi⟩,c.r)]:=by rw[SQ];exact pV ⟨n3.v0,n3.v1⟩ hnew
 have happ:done++[c]++rest=done++c::rest:=by simp
 refine⟨⟨⟨_,_,hb1⟩,nA,r1,by rw[hlo,hk1];exact u1,⟨_,_,hb2⟩,nB,r2,by rw[hhi,hk2];exact u2,⟨_,_,hb3⟩,by rw[hN];exact n3,⟨m,_,hrm,m2,mls⟩⟩,?_⟩;refine⟨by rw[happ,SQ];exact hfin,?_,?_,?_,?_,?_,?_⟩
 ·rw[rq];exact t.same
 ·rw[happ];intro p hp hq;rw[Q8];exact List.mem_append_left _ (yB p hp hq)
 ·intro p hp;rw[happ];rw[Q8] at hp;have hmono:∀ p∈k.L,p∈(gY x y k c).L:=fun p hp=>by rw[Q8];exact List.mem_append_left _ (hsub p hp)
  rcases List.mem_append.1 hp with hp | hp
  ·rcases Q7 p hp with h1 | ⟨h1,h2⟩
   ·rcases t.ZO p h1 with h2 | ⟨d,hd,h2,h3⟩ | ⟨d,hd,h2,h3,h4,h5⟩
    ·exact .inl h2
    ·exact .inr (.inl ⟨d,by simp[hd],h2,h3⟩)
    ·exact .inr (.inr ⟨d,by simp[hd],h2,h3,h4.mono hmono,h5.mono hmono⟩)
   ·exact .inr (.inl ⟨c,by simp,h1,h2⟩)
  ·simp at hp;subst hp;refine .inr (.inr ⟨c,by simp,rfl,rfl,?_,?_⟩)
   ·exact xI.mono (fun p hp=>by rw[Q8];exact List.mem_append_left _ hp)
   ·exact xJ.mono (fun p hp=>by rw[Q8];exact List.mem_append_left _ hp)
 ·intro d hd;have Ep:∀ p∈(bO k x c).L,p∈(gY x y k c).L:=fun p hp=>by rw[Q8];exact List.mem_append_left _ hp
  rcases List.mem_append.1 hd with hd | hd
  ·obtain⟨n,h1,h2,h3,h4⟩:=t.dn d hd;exact⟨n,Ep _ (hsub _ h1),h2,(h3.mono hsub).mono Ep,(h4.mono hsub).mono Ep⟩
  ·simp at hd;subst hd;exact⟨⟨y,lo,hi⟩,by rw[Q8];simp,rfl,xI.mono Ep,xJ.mono Ep⟩
 ·have hac:(gY x y k c).ac=k2.ac:=by rw[SQ];exact aaF
  have hcc:(gY x y k c).c=k.c:=congrArg (fun t=>t.2.1) (rq x y k c);rw[hac,hcc];have h3:=gB6 (rest.flatMap (dS x));rw[Xe] at h3;have h4:=rE (L:=k2.L) (L':=(gY x y k c).L) (bL:=rest.flatMap (dS x)) (vJ:=rest.flatMap (dS x)) (fun p hp=>by rw[Q8,hBL];exact List.mem_append_left _ hp) (fun n hn=>hn);omega
 ·intro i;have e1:(gY x y k c).hs=k2.hs:=by rw[SQ];show(bO k x c).hs=_;rw[hB,vN]
  rw[e1,gB8,hA,vN,gA8];exact t.hsd i
end
section
variable {k0 k:KS} {l x y:Nat} {done rest:List gu} {ext:List Int} {X:List bN}
theorem LF {k:KS} {r:Int} (hp:Pos k) (h1:1<k.us.getD r.toNat 0):Pos (dW k r):=by
 intro n q hq;have hq':(n,q)∈k.L:=hq;show 0<(k.us.set r.toNat (k.us.getD r.toNat 0-1)).getD q.toNat 0;by_cases hlt:r.toNat<k.us.length
 ·rw[iI hlt];split
  ·omega
  ·exact hp n q hq'
 ·rw[List.set_eq_of_length_le (by omega)];exact hp n q hq'
theorem uj:∀ (f:Nat) (k:KS) (st ext:List Int),Bk k (st++ext) []→Pos k→3*k.L.length+st.length≤f→
  Bk (fC f k st) ext []∧Pos (fC f k st)∧(∀ p∈(fC f k st).L,p∈k.L)∧(fC f k st).hs=k.hs
 | 0,k,st,ext,hb,hp,hf=>by
  have:st=[]:=List.eq_nil_of_length_eq_zero (by omega)
  subst this;exact⟨hb,hp,fun p h=>h,rfl⟩
 | _+1,k,[],ext,hb,hp,_=>⟨hb,hp,fun p h=>h,rfl⟩
 | f+1,k,r::st,ext,hb,hp,hf=>by
  simp only[List.length_cons] at hf;have hb':Bk k (r::(st++ext)) []:=hb;obtain⟨h0,ht⟩:=hb'.Ap r (List.mem_cons_self ..);unfold fC;split
  ·rename_i h1;exact uj f k st ext (Bj hb' h1) hp (by omega)
  ·rename_i h1;split
   ·rename_i hu;have hl:=tY hb' (by omega);obtain⟨a,b,c,d⟩:=uj f (dW k r) st ext hl (LF hp hu) (by show 3*k.L.length+_≤_;omega);exact⟨a,b,c,d⟩
   ·rename_i hu;obtain⟨n,hm⟩:∃ n,(n,r)∈k.L:=by
     rcases(hb'.NT h0).1 ht with h | h | ⟨n,h⟩
     ·omega
     ·omega
     ·exact⟨n,by simpa using h⟩
    have hg:aI k.ls r=n:=(hb'.jG (List.mem_append_left [] hm)).2.1;rw[hg];have hl:=tY hb' (by omega);have hlast:=FR hb' hm hu;have hlen:=(gN hb'.kn hm).length_eq;have hL:(iH (iG (dW k r) n) r).L=without n k.L:=(u6 hl hm).1;simp only[List.length_cons] at hlen;have hpos:Pos (iH (iG (dW k r) n) r):=by
     intro m q hq;rw[hL] at hq;unfold without at hq;obtain⟨hq1,hq2⟩:=List.mem_filter.1 hq;have QM:q≠r:=by
      rintro rfl
      have:=hb'.uniq (List.mem_append_left [] hq1) (List.mem_append_left [] hm)
      subst this;simp at hq2
     have h2:=(hb'.jG (List.mem_append_left [] hq1)).1;show 0<(k.us.set r.toNat (k.us.getD r.toNat 0-1)).getD q.toNat 0;by_cases hlt:r.toNat<k.us.length
     ·rw[iI hlt,if_neg (by omega)];exact hp m q hq1
     ·rw[List.set_eq_of_length_le (by omega)];exact hp m q hq1
    obtain⟨a,b,c,d⟩:=uj f (iH (iG (dW k r) n) r) (n.hi::n.lo::st) ext hlast hpos (by rw[hL];simp only[List.length_cons];omega);refine⟨a,b,fun p hp=>?_,d⟩
    have:=c p hp
    rw[hL] at this;unfold without at this;exact(List.mem_filter.1 this).1
theorem qg {r:Int} (hb:Bk k (r::ext) []) (hp:Pos k):Bk (jh k r) ext []∧Pos (jh k r)∧(∀ p∈(jh k r).L,p∈k.L)∧(jh k r).hs=k.hs:=by
 refine uj _ k [r] ext hb hp ?_
 have:=hb.cnt
 simp only[List.append_nil] at this;simp only[List.length_cons,List.length_nil];omega
theorem qh:∀ (cs:List gu) (k:KS) (ext:List Int),Bk k (kids cs++ext) []→Pos k→Bk (gP k cs) ext []∧Pos (gP k cs)∧(∀ p∈(gP k cs).L,p∈k.L)∧(gP k cs).hs=k.hs
 | [],k,ext,hb,hp=>⟨hb,hp,fun p h=>h,rfl⟩
 | c::cs,k,ext,hb,hp=>by
  obtain⟨a1,a2,a3,a4⟩:=qg (k:=k) (r:=c.n.lo) (ext:=c.n.hi::(kids cs++ext)) hb hp;obtain⟨b1,b2,b3,b4⟩:=qg (r:=c.n.hi) a1 a2;obtain⟨c1,c2,c3,c4⟩:=qh cs _ ext b1 b2;exact⟨c1,c2,fun p hp=>a3 p (b3 p (c3 p hp)),c4.trans (b4.trans a4)⟩
theorem BG (K:KI k0) (x y:Int):(aB k0 x y).length≤1048576:=by
 have h1:((aB k0 x y).map (·.r)).length≤(rising (jv k0.L x.toNat)).length:=by rw[LA];exact List.length_filter_le _ _
 rw[List.length_map,jI] at h1;have h2:(jv k0.L x.toNat).length≤k0.L.length:=List.length_filter_le _ _;have h3:=K.bk.cnt;have h4:=K.bk.gK;have h5:=K.bk.lim;have h6:=K.bk.cM;simp only[List.length_append] at h3;omega
theorem BH (h:XY k0 l x y) (K:KI k0):((aB k0 x y).map (·.n)).Nodup:=by
 have h1:=vM K (x:Int) (y:Int);rw[List.Nodup,List.pairwise_map] at h1 ⊢;refine h1.imp_of_mem (fun {a b} ha hb hab he=>hab ?_);have ma:=(iL h K ha).mem;have mb:=(iL h K hb).mem;rw[← he] at mb;exact fI K.bk.kn ma mb
theorem LG (h:XY k0 l x y) (K:KI k0) (hR:qa k0 x y=true):T2 k0 x y [] (aB k0 x y) (bD k0 (aB k0 x y)):=by
 have hcs:=fun c (hc:c∈aB k0 x y)=>iL h K hc
 obtain⟨xn,yn,lx,ly,xy,ix,iy⟩:=h.facts K;have hlen:=BG K (x:Int) (y:Int);have hLl:k0.L.length≤1048576:=by
  have h3:=K.bk.cnt;have h4:=K.bk.gK;have h5:=K.bk.lim;have h6:=K.bk.cM;simp only[List.length_append] at h3;omega
 obtain⟨a1,a2,a3,a4,a5⟩:=BD (aB k0 x y) k0 [] [] K.bk (fun c hc=>(hcs c hc).mem) (BH h K) (by simp only[List.length_nil];omega);rw[List.append_nil,List.append_nil] at a1;have hback:∀ p∈k0.L,(∀ c∈aB k0 x y,p.2≠c.r)→p∈(bD k0 (aB k0 x y)).L:=fun p hp hq =>
  (a2 p).2 ⟨hp,fun c hc he=>hq c hc (fI K.bk.kn (n:=p.1) hp (by rw[he];exact(hcs c hc).mem))⟩
 refine⟨a1,a5,hback,fun p hp=>?_,(fun c hc=>by cases hc),?_,(fun m=>by rw[a3])⟩
 ·obtain⟨b1,b2⟩:=(a2 p).1 hp;refine .inl ⟨b1,fun c hc he=>b2 c hc ?_⟩;exact K.uniq (r:=p.2) b1 (by rw[he];exact(hcs c hc).mem)
 ·have hr:k0.ac+(news k0.L ((aB k0 x y).flatMap (dS x))).length≤k0.c:=by
   have:=of_decide_eq_true hR
   rwa [Bz] at this
  have hc:(bD k0 (aB k0 x y)).c=k0.c:=congrArg (fun t=>t.2.1) a5;rw[a4,hc];have hle:(news (bD k0 (aB k0 x y)).L ((aB k0 x y).flatMap (dS x))).length≤(news k0.L ((aB k0 x y).flatMap (dS x))).length:=by
   refine gm (oQ _ _) (fun n hn=>?_);obtain⟨n1,n2,n3⟩:=iK.1 hn;refine iK.2 ⟨n1,?_,n3⟩;rw[bX] at n2 ⊢;intro hk;obtain⟨r,hr⟩:=mem_keys.1 hk;refine n2 (mem_keys.2 ⟨r,(a2 _).2 ⟨hr,fun d hd he=>?_⟩⟩);simp only at he
   -- a candidate is no crossing
   obtain⟨c,hc,Gi⟩:=List.mem_flatMap.1 n1;have hC:=hcs c hc;have hD:=hcs d hd;have hlow:Low k0 l n.lo∧Low k0 l n.hi:=by
    simp only[dS,List.mem_cons,List.not_mem_nil,or_false] at Gi;rcases Gi with rfl | rfl
    ·exact⟨hC.O3,hC.l10⟩
    ·exact⟨hC.A9,hC.Xc⟩
   rw[he] at hlow;have noy:∀ q,Low k0 l q→(bZ k0 q y).1=(bZ k0 q y).2:=by
    intro q hq;rcases fU (y:=y) K hq.1 hq.2.1 with⟨m,hm,N8,_⟩ | ⟨_,_,hp⟩
    ·have:=hq.2.2 m hm
     rw[N8,ly] at this;omega
    ·rw[hp]
   have e1:=noy _ hlow.1;have e2:=noy _ hlow.2;rw[hD.p0] at e1;rw[hD.p1] at e2;rcases hD.ne with h1 | h1
   ·exact h1 e1
   ·exact h1 e2
  omega
theorem Gl (h:XY k0 l x y) (K:KI k0) (hR:qa k0 x y=true):∀ (i:Nat),i≤(aB k0 x y).length→
  T2 k0 x y ((aB k0 x y).take i) ((aB k0 x y).drop i) (dI (bD k0 (aB k0 x y)) x y ((aB k0 x y).take i))∧
  (∀ c,(aB k0 x y)[i]?=some c→zo (dI (bD k0 (aB k0 x y)) x y ((aB k0 x y).take i)) x y c):=by
 intro i;have hstep:∀ i c,(aB k0 x y)[i]?=some c→T2 k0 x y ((aB k0 x y).take i) ((aB k0 x y).drop i) (dI (bD k0 (aB k0 x y)) x y ((aB k0 x y).take i))→
   zo (dI (bD k0 (aB k0 x y)) x y ((aB k0 x y).take i)) x y c∧T2 k0 x y ((aB k0 x y).take i++[c]) ((aB k0 x y).drop (i+1)) (gY x y (dI (bD k0 (aB k0 x y)) x y ((aB k0 x y).take i)) c):=by
  intro i c hc ht;have hlt:=aY hc;have hd:(aB k0 x y).drop i=c::(aB k0 x y).drop (i+1):=by
   rw[List.drop_eq_getElem_cons hlt];congr 1;rw[List.getElem?_eq_getElem hlt] at hc;injection hc
  rw[hd] at ht;have hall:(aB k0 x y).take i++c::(aB k0 x y).drop (i+1)=aB k0 x y:=by rw[← hd,List.take_append_drop]
  refine O4 h K (fun d hd=>iL h K (by rwa [hall] at hd)) (by rw[hall];exact vM K _ _) (by rw[hall];exact BG K _ _) ht
 induction i with
 | zero =>
  intro _;have hs:T2 k0 x y ((aB k0 x y).take 0) ((aB k0 x y).drop 0) (dI (bD k0 (aB k0 x y)) x y ((aB k0 x y).take 0)):=LG h K hR;exact⟨hs,fun c hc=>(hstep 0 c hc hs).1⟩
 | succ i ih =>
  intro hi;obtain⟨t,_⟩:=ih (by omega);obtain⟨c,hc⟩:∃ c,(aB k0 x y)[i]?=some c:=⟨_,List.getElem?_eq_getElem (by omega)⟩;have h2:=(hstep i c hc t).2;have e1:(aB k0 x y).take (i+1)=(aB k0 x y).take i++[c]:=by rw[List.take_add_one,hc];rfl
  have e2:dI (bD k0 (aB k0 x y)) x y ((aB k0 x y).take (i+1))=gY x y (dI (bD k0 (aB k0 x y)) x y ((aB k0 x y).take i)) c:=lF _ _ hc;have hs:T2 k0 x y ((aB k0 x y).take (i+1)) ((aB k0 x y).drop (i+1)) (dI (bD k0 (aB k0 x y)) x y ((aB k0 x y).take (i+1))):=by rw[e1,e2] at *;exact h2
  exact⟨hs,fun c hc=>(hstep (i+1) c hc hs).1⟩
theorem Eu (h:XY k0 l x y) (K:KI k0) (hR:qa k0 x y=true):T2 k0 x y (aB k0 x y) [] (dI (bD k0 (aB k0 x y)) x y (aB k0 x y)):=by
 have:=(Gl h K hR (aB k0 x y).length (Nat.le_refl _)).1
 rwa [List.take_length,List.drop_length] at this
theorem zB {L:List bN} {p:bN} {r:Int} (hp:p∈L) (hr:p.1.lo=r∨p.1.hi=r):0<par L r:=by
 rcases Nat.eq_zero_or_pos (par L r) with h | h
 ·obtain⟨a,b⟩:=gJ.1 h p hp;rcases hr with h | h
  ·exact absurd h a
  ·exact absurd h b
 ·exact h
theorem Ew (h:XY k0 l x y) (K:KI k0) (t:T2 k0 x y (aB k0 x y) [] k):Pos k:=by
 intro n r hn;have hb:=t.bk;have happ:aB k0 x y++[]=aB k0 x y:=List.append_nil _;rw[happ] at hb;obtain⟨hu,_⟩:=hb.KY (List.mem_append_left _ hn);rw[hu];rcases Nat.eq_zero_or_pos (par k.L r+(if k.hs.getD r.toNat 0=0 then 0 else 1)+(kids (aB k0 x y)).count r) with h0 | h0
 ·exfalso;have hp0:par k.L r=0:=by omega
  have hk0:(kids (aB k0 x y)).count r=0:=by omega
  have hh0:k.hs.getD r.toNat 0=0:=by
   by_cases hh:k.hs.getD r.toNat 0=0
   ·exact hh
   ·rw[if_neg hh] at h0;omega
  have old:∀ m,(m,r)∈k0.L→False:=by
   intro m hm;have h1:=K.pos m r hm;obtain⟨h2,_⟩:=K.bk.KY (List.mem_append_left [] hm);rw[h2,← t.hsd,hh0] at h1;simp only[if_true,List.count_nil] at h1;have h3:0<par k0.L r:=by omega
   obtain⟨p,hp,hpr⟩:∃ p∈k0.L,p.1.lo=r∨p.1.hi=r:=by
    refine Classical.byContradiction (fun hno=>?_)
    have:=gJ.2 (fun p hp=>⟨fun e=>hno ⟨p,hp,.inl e⟩,fun e=>hno ⟨p,hp,.inr e⟩⟩:∀ p∈k0.L,p.1.lo≠r∧p.1.hi≠r)
    omega
   by_cases hc:∃ c∈aB k0 x y,p.2=c.r
   ·obtain⟨c,hc1,hc2⟩:=hc;have he:=K.uniq (r:=p.2) hp (by rw[hc2];exact(iL h K hc1).mem)
    have:r∈kids (aB k0 x y):=by
     unfold kids;refine List.mem_flatMap.2 ⟨c,hc1,?_⟩;rw[he] at hpr;simp;rcases hpr with e | e
     ·exact .inl e.symm
     ·exact .inr e.symm
    exact absurd this (List.count_eq_zero.1 hk0)
   ·have:=zB (t.base p hp (fun c hc1 he=>hc ⟨c,by rwa [happ] at hc1,he⟩)) hpr
    omega
  rcases t.ZO _ hn with⟨h1,_⟩ | ⟨c,hc,h1,h2⟩ | ⟨c,hc,h1,_⟩
  ·exact old n h1
  ·obtain⟨m,m1,_,m3,m4⟩:=t.dn c hc;simp only at h1 h2
   have:m.lo=r∨m.hi=r:=by
    rcases h1 with rfl | rfl
    ·left;unfold rF at m3;rw[if_neg h2] at m3;exact fI hb.kn m3 hn
    ·right;unfold rF at m4;rw[if_neg h2] at m4;exact fI hb.kn m4 hn
   have:=zB m1 this
   omega
  ·simp only at h1;exact old c.n (by rw[h1];exact(iL h K hc).mem)
 ·omega
theorem zC (h:XY k0 l x y) (K:KI k0):vF k0 l x y:=by
 obtain⟨xn,yn,lx,ly,xy,ix,iy⟩:=h.facts K;have hLl:k0.L.length≤1048576∧k0.c≤1048576:=by
  have h3:=K.bk.cnt;have h4:=K.bk.gK;have h5:=K.bk.lim;have h6:=K.bk.cM;simp only[List.length_append] at h3;omega
 have hcs:=fun c (hc:c∈aB k0 x y)=>iL h K hc
 have hlow:∀ q,Low k0 l q→0≤q∧q<4294967296:=fun q hq=>⟨hq.1,by have:=K.bk.lt hq.1 hq.2.1;omega⟩
 refine⟨h.hx,h.hy,xn,yn,xy,K.bk.n64,by omega,by omega,?_,?_,?_,?_,by rw[K.lv.ll];exact xn,by rw[K.lv.ll];exact yn⟩
 ·intro r hr;obtain⟨n,hn⟩:=oU.1 hr;have hn1:=(List.mem_filter.1 hn).1;have hm:=K.mem' hn1;have hlt:=K.bk.lt (by omega) hm.2.2;obtain⟨_,_,a,b,c,d⟩:=K.bk.Lu r rfl;exact⟨by omega,by omega,a,by omega,b,by omega⟩
 ·intro c hc;have hC:=hcs c hc;obtain⟨v0,v1,l0,h0,lt,ht,_⟩:=K.bk.fo _ _ hC.mem;have hl:=K.bk.lt l0 lt;have hh:=K.bk.lt h0 ht
  have:=K.bk.n64
  exact⟨⟨hlow _ hC.O3,hlow _ hC.A9,hlow _ hC.l10,hlow _ hC.Xc⟩,Nd.Bh v0 (by omega) l0 (by omega) h0 (by omega),l0,by omega,h0,by omega⟩
 ·intro hR i c hc;exact(Gl h K hR i (Nat.le_of_lt (aY hc))).2 c hc
 ·intro hR i c hc;have hlt:=aY hc;have t:=Eu h K hR;have hp:=Ew h K t;have hb:=t.bk;rw[List.append_nil] at hb;have hd:(aB k0 x y).drop i=c::(aB k0 x y).drop (i+1):=by
   rw[List.drop_eq_getElem_cons hlt];congr 1;rw[List.getElem?_eq_getElem hlt] at hc;injection hc
  have hk:kids (aB k0 x y)=kids ((aB k0 x y).take i)++kids ((aB k0 x y).drop i):=by rw[← BC,List.take_append_drop]
  have hb':Bk (dI (bD k0 (aB k0 x y)) x y (aB k0 x y)) (kids ((aB k0 x y).take i)++kids ((aB k0 x y).drop i)) []:=by rw[← hk];exact hb
  obtain⟨a1,a2,_,_⟩:=qh _ _ _ hb' hp;rw[hd] at a1;have a1':Bk (gP (dI (bD k0 (aB k0 x y)) x y (aB k0 x y)) ((aB k0 x y).take i)) (c.n.lo::(c.n.hi::kids ((aB k0 x y).drop (i+1)))) []:=a1;exact⟨⟨_,a1'⟩,⟨_,(qg a1' a2).1⟩⟩
end
section
variable {w:World} {kp:Nat} {k:KS} {a:KA} {ext:List Int} {X:List bN} {n:Nd}
theorem KW.nM (h:KW w kp k a):KW (w.setCell ⟨kp,7,none⟩ (.slice none 0 0)) kp { k with tr:=[] } { a with tA:=none,tC:=0 }∧cZ k.n kp w a (w.setCell ⟨kp,7,none⟩ (.slice none 0 0)) { a with tA:=none,tC:=0 }:=by
 refine h.ym (r:=[]) (A2:=none) (C2:=0) ((ah.refl _ w).setCell (p:=⟨kp,7,none⟩) (.inl (.inl rfl)) _) ?_ (Own.nil _ _ _ _) (fun b ⟨_,hx,_⟩=>by cases hx)
 have:=h.blk.set 7 (.slice none 0 0)
 simpa [cO] using this
theorem Bk.hsv (hb:Bk k ext X) (r:Int):∀ x,k.hs[r.toNat]?=some x→0≤x∧x≤65535:=fun x hx=>⟨(hb.hol _ x hx).1,(hb.hol _ x hx).2.1⟩
theorem rH (h:KW w kp k a) (hb:Bk k ext []) (r:Int) (h0:0≤r) (h1:r<4294967296) :
  Calls Tryz.prog 15 #[.pointer (some ⟨kp,0,none⟩),.int .u32 r] w fun e w'=>e=.returned (.int .i64 (aP k r).1)∧∃ a',KW w' kp (aP k r).2 a'∧cZ k.n kp w a w' a':=by
 have hkl:=h.blk.lt;have hlv:=nJ h r h0 h1;unfold aP;cases ht:tk k.ls r with
 | false =>
  rw[ht] at hlv;rw[if_pos rfl];have HL:=Lib.hid hlv;have H:=Lib.hid h;clear hlv h ht hb;go_enter Tryz.func15,Tryz.ntmps15;go_wp2_with (fail)
  refine HL.out.mono ?_;rintro e w1 ⟨rfl,hs1⟩;go_wp2;go_ret;exact⟨rfl,a,H.out.same hs1,cZ.same hs1⟩
 | true =>
  rw[ht] at hlv;rw[if_neg (by simp)];have HL:=Lib.hid hlv;by_cases hr:1<r
  ·rw[if_pos hr];obtain⟨n,hn⟩:∃ n,(n,r)∈k.L:=by
    rcases(hb.NT h0).1 ht with h | h | ⟨n,h⟩
    ·omega
    ·omega
    ·exact⟨n,by simpa using h⟩
   have hn':=List.mem_append_left ([]:List bN) hn;obtain⟨u,hu,hud,hu1,_⟩:=hb.uX hn';obtain⟨m,rfl,_,mu,_⟩:=hb.mem _ _ hn';rw[Int.toNat_natCast] at hu hud;have hlt:m<k.hs.length:=by rw[← hb.ul];exact mu
   obtain⟨x,hx⟩:∃ x,k.hs[m]?=some x:=⟨_,List.getElem?_eq_getElem hlt⟩;obtain⟨x0,x1,_⟩:=hb.hol m x hx;have hxd:k.hs.getD (m:Int).toNat 0=x:=by rw[Int.toNat_natCast,List.getD_eq_getElem?_getD,hx];rfl
   rw[hxd];have hgt:(m:Int)>1:=hr;have R7:(m:Int)<(k.hs.length:Int):=by omega
   have hmU:(m:Int)<(k.us.length:Int):=by omega
   have HX:=Lib.hid hx;have HU:=Lib.hid hu;have HUD:=Lib.hid hud;have HXD:=Lib.hid hxd;have H:=Lib.hid h;have HB:=Lib.hid hb;clear hlv h ht hb hn hn' hu hud hx hxd hr;by_cases hx5:x=65535
   ·rw[if_pos hx5];subst hx5;go_enter Tryz.func15,Tryz.ntmps15;go_wp2_with (fail)
    refine HL.out.mono ?_;rintro e w1 ⟨rfl,hs1⟩;have hk1:=H.out.same hs1;obtain⟨sb,hA,hsb,hne,hc,hf⟩:=hk1.Bf HX.out;have c3:=hk1.c3;rw[hA] at c3;have Il:=hk1.blk.lt;have aX:=Lib.hid hs1;clear hs1 hk1 hA;go_wp2;go_ret;exact⟨rfl,a,H.out.same aX.out,cZ.same aX.out⟩
   ·rw[if_neg hx5];have acu:(x == 65535)=false:=by simpa using hx5
    go_enter Tryz.func15,Tryz.ntmps15;go_wp2_with (fail)
    refine HL.out.mono ?_;rintro e w1 ⟨rfl,hs1⟩;have hk1:=H.out.same hs1;obtain⟨sb,hA,hsb,hne,hc,hf⟩:=hk1.Bf HX.out;have c3:=hk1.c3;rw[hA] at c3;have Il:=hk1.blk.lt;have hset:=hk1.KP hA (i:=m) (by omega) (x+1);have hx2:x<65535:=by omega
    have aX:=Lib.hid hs1;have oV:=Lib.hid hset;have HA:=Lib.hid hA;clear hs1 hk1 hset hA hx5;go_upto_region 9 with fail
    refine ai fun w2 hw2=>?_
    rw[← hw2] at oV;have hk2:=oV.out.1;have c3:w2.cell? ⟨kp,3,none⟩=some (.slice (some ⟨sb,0,none⟩) k.hs.length a.hC):=by
     have:=hk2.c3
     rw[HA.out] at this;simpa using this
    have hc:w2.cell? ⟨sb,m,none⟩=some (.int .i32 (x+1)):=by
     obtain⟨sb2,q1,_,_,q4,_⟩:=hk2.Bf (i:=m) (x:=x+1) (by show(k.hs.set m (x+1))[m]?=_;rw[List.getElem?_set,if_pos rfl,if_pos (by omega)]);rw[HA.out] at q1;injection q1 with q1
     injection q1 with q1
     subst q1;exact q4
    have IG:=hk2.blk.lt;have aaH:sb<w2.heap.size:=by
     have:=hk2.hs.block
     rw[HA.out] at this;exact this _ rfl
    by_cases hx0:x=0
    ·subst hx0;obtain⟨ub,hUA,hub,acv,huc,huf⟩:=hk2.OB HU.out;have c2:=hk2.c2;rw[hUA] at c2;have Q9:=hk2.FN hUA (i:=m) (by show m<k.us.length;omega) ((u:Int)+1);have BI:=Lib.hid Q9;clear hw2 hk2 Q9 hf;go_upto_region 11 with fail
     refine ai fun w3 hw3=>?_
     rw[← hw3] at BI;have hcl:=BI.out.1.nM;have hkb:=BI.out.1.blk;have f7:=hkb.free 7;have c7:=BI.out.1.c7;have WA:=hkb.lt;have uk:=Lib.hid hcl;clear hw3 hcl hkb IG c2 c3 hc huc huf;go_wp2;go_ret;have he:({ dD k (m:Int) with tr:=[] }:KS)={ k with hs:=k.hs.set m 1,us:=k.us.set m ((u:Int)+1),tr:=[] }:=by
      unfold dD;rw[HXD.out,if_pos rfl];unfold bF;rw[if_pos (by omega),Int.toNat_natCast,HUD.out];rfl
     rw[he];refine⟨rfl,_,uk.out.1,?_⟩;exact(cZ.same aX.out).trans (oV.out.2.trans (BI.out.2.trans uk.out.2))
    ·have aaI:(x+1 == 1)=false:=by simp <;> omega
     have hcl:=hk2.nM;have f7:=hk2.blk.free 7;have c7:=hk2.c7;have uk:=Lib.hid hcl;have HX0:=Lib.hid hx0;clear hw2 hk2 hcl hx0 hf;go_wp2;go_ret;have he:({ dD k (m:Int) with tr:=[] }:KS)={ k with hs:=k.hs.set m (x+1),tr:=[] }:=by
      unfold dD;rw[HXD.out,if_neg HX0.out];rfl
     rw[he];refine⟨rfl,_,uk.out.1,?_⟩;exact(cZ.same aX.out).trans (oV.out.2.trans uk.out.2)
  ·rw[if_neg hr];have hgt:¬ r>1:=hr;have H:=Lib.hid h;clear hlv h ht hb hr;go_enter Tryz.func15,Tryz.ntmps15;go_wp2_with (fail)
   refine HL.out.mono ?_;rintro e w1 ⟨rfl,hs1⟩;have hk1:=H.out.same hs1;have hcl:=hk1.nM;have f7:=hk1.blk.free 7;have c7:=hk1.c7;have Il:=hk1.blk.lt;have uk:=Lib.hid hcl;have aX:=Lib.hid hs1;clear hk1 hcl hs1;go_wp2;go_ret;exact⟨rfl,_,uk.out.1,(cZ.same aX.out).trans uk.out.2⟩
theorem yC (h:KW w kp k a) (hb:Bk k [] []) (r:Int) (h0:0≤r) (h1:r<4294967296) :
  Calls Tryz.prog 19 #[.pointer (some ⟨kp,0,none⟩),.int .u32 r] w fun e w'=>e=.returned (.int .i64 (aD k r).1)∧∃ a',KW w' kp (aD k r).2 a'∧cZ k.n kp w a w' a':=by
 have hkl:=h.blk.lt;have hh:=ru h r h0 h1 (hb.hsv r);unfold aD;by_cases hr:1<r
 ·rw[if_pos hr];obtain⟨x,hx⟩:∃ x,k.hs.getD r.toNat 0=x:=⟨_,rfl⟩;rw[hx] at hh;rw[hx];have HH:=Lib.hid hh;have hgt:r>1:=hr;by_cases hx0:x=0
  ·rw[if_pos hx0];subst hx0;have H:=Lib.hid h;clear hh h hx hb hr;go_enter Tryz.func19,Tryz.ntmps19;go_wp2_with (fail)
   refine HH.out.mono ?_;rintro e w1 ⟨rfl,rfl⟩;go_wp2;go_ret;exact⟨rfl,a,H.out,cZ.refl _ _ _ _⟩
  ·rw[if_neg hx0];have aaI:(x == 0)=false:=by simpa using hx0
   obtain⟨n,hn⟩:=jL hb h0 (by rw[hx];exact hx0);obtain⟨m,rfl,_,mu,_⟩:=hb.mem _ _ hn;rw[Int.toNat_natCast] at hx;have hlt:m<k.hs.length:=by rw[← hb.ul];exact mu
   have hxg:k.hs[m]?=some x:=by
    rw[List.getD_eq_getElem?_getD,List.getElem?_eq_getElem hlt] at hx;rw[List.getElem?_eq_getElem hlt,← hx];rfl
   obtain⟨x0,x1,_⟩:=hb.hol m x hxg;have R7:(m:Int)<(k.hs.length:Int):=by omega
   have hx1:1≤x:=by omega
   obtain⟨sb,hA,hsb,hne,hc,hf⟩:=h.Bf hxg;have c3:=h.c3;rw[hA] at c3;have hset:=h.KP hA (i:=m) (by omega) (x-1);have Xl:x=1→Bk { k with hs:=k.hs.set m 0 } [(m:Int)] []:=fun he=>by
    have:=rD hb hn (by rw[Int.toNat_natCast,hx];omega) (by have:=hb.bd;have:=hb.cnt;have:=hb.cM;have:=hb.lim;have:=hb.gK;simp only[List.length_append,List.length_nil] at *;omega)
    rwa [Int.toNat_natCast] at this
   have HUB:=Lib.hid Xl;have oV:=Lib.hid hset;have HXX:=Lib.hid hx;have HA:=Lib.hid hA;have pW:∀ v:Int,(k.hs.set m v)[m]?=some v:=fun v=>by rw[List.getElem?_set,if_pos rfl,if_pos hlt]
   have Kb:=Lib.hid pW;clear hh h hx hb hn hset Xl hxg hA hx0 pW hr;go_enter Tryz.func19,Tryz.ntmps19;go_wp2_with (fail)
   refine HH.out.mono ?_;rintro e w1 ⟨rfl,rfl⟩;go_upto_region 7 with fail
   refine ai fun w2 hw2=>?_
   rw[← hw2] at oV;have hk2:=oV.out.1;have c3':w2.cell? ⟨kp,3,none⟩=some (.slice (some ⟨sb,0,none⟩) k.hs.length a.hC):=by
    have:=hk2.c3
    rw[HA.out] at this;simpa using this
   have hc':w2.cell? ⟨sb,m,none⟩=some (.int .i32 (x-1)):=by
    obtain⟨sb2,q1,_,_,q4,_⟩:=hk2.Bf (i:=m) (x:=x-1) (Kb.out _);rw[HA.out] at q1;injection q1 with q1
    injection q1 with q1
    subst q1;exact q4
   have IG:=hk2.blk.lt;have aaH:sb<w2.heap.size:=by
    have:=hk2.hs.block
    rw[HA.out] at this;exact this _ rfl
   clear c3 hc hf hkl hsb;by_cases hx1:x=1
   ·subst hx1;have hr:=fun w' (hw:KW w' kp { k with hs:=k.hs.set m 0 } a)=>lD hw (HUB.out rfl)
    have HR:=Lib.hid hr;clear hw2 hk2 hr;go_wp2_with (fail)
    refine(HR.out _ oV.out.1).mono ?_;rintro e w3 ⟨rfl,a3,hk3,hg3⟩;have hcl:=hk3.nM;have f7:=hk3.blk.free 7;have c7:=hk3.c7;have WA:=hk3.blk.lt;have uk:=Lib.hid hcl;have Bi:=Lib.hid hg3;have Ls:Hid ((jh { k with hs:=k.hs.set m 0 } (m:Int)).n=k.n):=Lib.hid (mK _ _ _);clear hk3 hcl hg3 c3' hc';go_wp2;go_ret;have he:dO k (m:Int)=jh { k with hs:=k.hs.set m 0 } (m:Int):=by
     unfold dO;rw[Int.toNat_natCast,HXX.out,if_pos rfl]
    rw[he];refine⟨rfl,_,uk.out.1,?_⟩;have h2:=uk.out.2;rw[Ls.out] at h2;exact oV.out.2.trans (Bi.out.trans h2)
   ·have acw:(x-1 == 0)=false:=by simp <;> omega
    have hcl:=hk2.nM;have f7:=hk2.blk.free 7;have c7:=hk2.c7;have uk:=Lib.hid hcl;have kK:=Lib.hid hx1;clear hw2 hk2 hcl hx1;go_wp2;go_ret;have he:dO k (m:Int)={ k with hs:=k.hs.set m (x-1) }:=by
     unfold dO;rw[Int.toNat_natCast,HXX.out,if_neg kK.out]
    rw[he];exact⟨rfl,_,uk.out.1,oV.out.2.trans uk.out.2⟩
 ·rw[if_neg hr];have hgt:¬ r>1:=hr;have hcl:=h.nM;have f7:=h.blk.free 7;have c7:=h.c7;have uk:=Lib.hid hcl;clear hh h hb hr hcl;go_enter Tryz.func19,Tryz.ntmps19;go_wp2;go_ret;exact⟨rfl,_,uk.out.1,uk.out.2⟩
end
def bI (k:KS) (r:Int):Int×Int×KS:=if (aP k r).1=0 then (r,0,(aP k r).2) else (0,(aP k r).1,(aP k r).2)
def mM (k:KS) (n:Nd):Option Int→Int×Int×KS
 | some r=>bI k r
 | none=>if k.ac+1≤k.c then bI (aH k n) (au k) else (0,9,k)
def ay (k:KS) (n:Nd):Int×Int×KS:=if di k n=0 then mM k n (eP k n) else (0,di k n,k)
def eD (k:KS) (n:Nd):Option Int:=if di k n=0 then eP k n else none
section
variable {w:World} {kp:Nat} {k:KS} {a:KA} {ext:List Int} {X:List bN} {n:Nd}
theorem Gm (h:di k n=0):0≤n.v∧n.v<k.n∧tk k.ls n.lo=true∧tk k.ls n.hi=true:=by
 unfold di at h;split at h
 ·cases h
 ·rename_i h1;split at h
  ·cases h
  ·rename_i h2;have h1':0≤n.v∧n.v<k.n:=Classical.byContradiction h1;refine⟨h1'.1,h1'.2,?_,?_⟩
   ·cases ht:tk k.ls n.lo with
    | true=>rfl
    | false=>exact absurd (.inl ht) h2
   ·cases ht:tk k.ls n.hi with
    | true=>rfl
    | false=>exact absurd (.inr ht) h2
theorem jY (h:di k n=0) (l0:0≤n.lo) (h0:0≤n.hi):jH k n:=by
 obtain⟨a,b,c,d⟩:=Gm h;exact⟨a,b,l0,c,h0,d⟩
theorem yD (hb:Bk k ext []) (hn:jH k n) {r:Int} (hs:eP k n=some r):0≤r∧r<1048576∧tk k.ls r=true:=by
 unfold eP at hs;split at hs
 ·injection hs with hs
  subst hs;exact⟨hn.l0,hb.lt hn.l0 hn.l1,hn.l1⟩
 ·have hm:=hb.jG (List.mem_append_left [] (fD hs));exact⟨by omega,hb.lt (by omega) hm.2.2,hm.2.2⟩
theorem jy (hs:eP k n=none):n.lo≠n.hi∧n∉keys k.L:=by
 unfold eP at hs;split at hs
 ·cases hs
 ·rename_i h;exact⟨h,bX.1 hs⟩
theorem vO (hb:Bk k [] []) (hn:jH k n) (hs:eP k n=none) (hc:k.ac+1≤k.c):Bk (aH k n) [] []:=by
 obtain⟨h1,h2⟩:=jy hs;refine FM hb (by omega) ⟨hn.v0,hn.v1⟩ hn.l0 hn.l1 hn.h0 hn.h1 h1 h2 ?_
 have:=hb.cnt
 have:=hb.cM
 have:=hb.lim
 have:=hb.gK
 simp only[List.length_append,List.length_nil] at *
 omega
theorem LH (hb:Bk k ext X):(au k:Int)<4294967296:=by
 have:=(eH hb).2.2.1
 have:=hb.lim
 have:=hb.cM
 omega
theorem yE (h:KW w kp k a) (hb:Bk k [] []) (hl:Lv k) (n:Nd) (l0:0≤n.lo) (l1:n.lo<4294967296) (h0:0≤n.hi) (h1:n.hi<4294967296) :
  Calls Tryz.prog 14 #[.pointer (some ⟨kp,0,none⟩),.int .i64 n.v,.int .u32 n.lo,.int .u32 n.hi] w fun e w'=>e=.returned (.tuple #[.int .u32 (ay k n).1,.int .i64 (ay k n).2.1])∧∃ a',KW w' kp (ay k n).2.2 a'∧cZ k.n kp w a w' a':=by
 have hkl:=h.blk.lt;have hf:=II h hb hl n l0 l1 h0 h1;unfold ay;by_cases hz:di k n=0
 ·rw[if_pos hz];rw[hz] at hf;have hnd:=jY hz l0 h0;have hok:=hnd.ok hb;have hsk:=fun w' (hw:Same w w')=>IJ (h.same hw) n hok
  cases hl':eP k n with
  | some r =>
   obtain⟨r0,r1,_⟩:=yD hb hnd hl';rw[hl'] at hsk;have hkp:=fun w' (hw:Same w w')=>rH (h.same hw) hb r r0 (by omega)
   show Calls _ _ _ _ fun e w'=>e=.returned (.tuple #[.int .u32 (bI k r).1,.int .i64 (bI k r).2.1])∧∃ a',KW w' kp (bI k r).2.2 a'∧cZ k.n kp w a w' a'
   unfold bI;obtain⟨ke,hke⟩:∃ ke,aP k r=ke:=⟨_,rfl⟩;rw[hke] at hkp;rw[hke];have HF:=Lib.hid hf;have HS:=Lib.hid hsk;have HK:=Lib.hid hkp;clear hf hsk hkp hke hl' hz h hb hl hnd hok;by_cases h0':ke.1=0
   ·rw[if_pos h0'];have H0:=Lib.hid h0';have J7:(ke.1 != 0)=false:=by simpa using h0'
    clear h0';go_enter Tryz.func14,Tryz.ntmps14;go_wp2_with (fail)
    refine HF.out.mono ?_;rintro e w1 ⟨rfl,hs1⟩;have aX:=Lib.hid hs1;clear hs1;go_wp2_with (fail)
    refine(HS.out _ aX.out).mono ?_;rintro e w2 ⟨rfl,hs2⟩;have HS2:=Lib.hid (aX.out.trans hs2 (fun _ _ h=>h));clear hs2;simp only[Option.isSome_some,Option.getD_some];go_wp2_with (fail)
    refine(HK.out _ HS2.out).mono ?_;rintro e w3 ⟨rfl,a3,hk3,hg3⟩;have FO:=Lib.hid hk3;have Bi:=Lib.hid hg3;clear hk3 hg3;go_wp2;go_ret2;exact⟨rfl,a3,FO.out,(cZ.same HS2.out).trans Bi.out⟩
   ·rw[if_neg h0'];have J7:(ke.1 != 0)=true:=by simpa using h0'
    clear h0';go_enter Tryz.func14,Tryz.ntmps14;go_wp2_with (fail)
    refine HF.out.mono ?_;rintro e w1 ⟨rfl,hs1⟩;have aX:=Lib.hid hs1;clear hs1;go_wp2_with (fail)
    refine(HS.out _ aX.out).mono ?_;rintro e w2 ⟨rfl,hs2⟩;have HS2:=Lib.hid (aX.out.trans hs2 (fun _ _ h=>h));clear hs2;simp only[Option.isSome_some,Option.getD_some];go_wp2_with (fail)
    refine(HK.out _ HS2.out).mono ?_;rintro e w3 ⟨rfl,a3,hk3,hg3⟩;have FO:=Lib.hid hk3;have Bi:=Lib.hid hg3;clear hk3 hg3;go_wp2;go_ret2;exact⟨rfl,a3,FO.out,(cZ.same HS2.out).trans Bi.out⟩
  | none =>
   rw[hl'] at hsk;have hrm:=fun w' (hw:Same w w')=>yo (h.same hw) 1 (by omega)
   obtain⟨hne,hnew⟩:=jy hl';show Calls _ _ _ _ fun e w'=>e=.returned (.tuple #[.int .u32 (if k.ac+1≤k.c then bI (aH k n) (au k) else (0,9,k)).1,.int .i64 (if k.ac+1≤k.c then bI (aH k n) (au k) else (0,9,k)).2.1])∧∃ a',KW w' kp (if k.ac+1≤k.c then bI (aH k n) (au k) else (0,9,k)).2.2 a'∧cZ k.n kp w a w' a'
   by_cases hc:k.ac+1≤k.c
   ·rw[if_pos hc];have Xm:decide (k.ac+1≤k.c)=true:=by simpa using hc
    rw[Xm] at hrm;have htk:=fun w' (hw:Same w w')=>yt (h.same hw) hb hnd (by omega) hne hnew
    have hbt:=vO hb hnd hl' hc;have hkp:=fun w' a' (hw:KW w' kp (aH k n) a')=>rH hw hbt (au k) (by omega) (LH hb)
    have htn:=ug k n;unfold bI;obtain⟨tr,htr⟩:∃ tr,au k=tr:=⟨_,rfl⟩;rw[htr] at htk hkp;rw[htr];obtain⟨k2,hk2⟩:∃ k2,aH k n=k2:=⟨_,rfl⟩;rw[hk2] at htk hkp htn;rw[hk2];obtain⟨ke,hke⟩:∃ ke,aP k2 tr=ke:=⟨_,rfl⟩;rw[hke] at hkp;rw[hke];have HF:=Lib.hid hf;have HS:=Lib.hid hsk;have HK:=Lib.hid hkp;have HT:=Lib.hid htk;have HR:=Lib.hid hrm;have K4:=Lib.hid htn;clear hf hsk hkp hke hl' hz h hb hl hnd hok Xm hrm htk hbt htn htr hk2 hne hnew hc;by_cases h0':ke.1=0
    ·rw[if_pos h0'];have J7:(ke.1 != 0)=false:=by simpa using h0'
     clear h0';go_enter Tryz.func14,Tryz.ntmps14;go_wp2_with (fail)
     refine HF.out.mono ?_;rintro e w1 ⟨rfl,hs1⟩;have aX:=Lib.hid hs1;clear hs1;go_wp2_with (fail)
     refine(HS.out _ aX.out).mono ?_;rintro e w2 ⟨rfl,hs2⟩;have HS2:=Lib.hid (aX.out.trans hs2 (fun _ _ h=>h));clear hs2;simp only[Option.isSome_none,Option.getD_none];go_wp2_with (fail)
     refine(HR.out _ HS2.out).mono ?_;rintro e w3 ⟨rfl,hs3⟩;have dY:=Lib.hid (HS2.out.trans hs3 (fun _ _ h=>h));clear hs3;go_wp2_with (fail)
     refine(HT.out _ dY.out).mono ?_;rintro e w4 ⟨rfl,a4,hk4,hg4⟩;have J3:=Lib.hid hk4;have UZ:=Lib.hid hg4;clear hk4 hg4;go_wp2_with (fail)
     refine(HK.out _ _ J3.out).mono ?_;rintro e w5 ⟨rfl,a5,hk5,hg5⟩;rw[K4.out] at hg5;have NU:=Lib.hid hk5;have VS:=Lib.hid hg5;clear hk5 hg5;go_wp2;go_ret2;exact⟨rfl,a5,NU.out,((cZ.same dY.out).trans UZ.out).trans VS.out⟩
    ·rw[if_neg h0'];have J7:(ke.1 != 0)=true:=by simpa using h0'
     clear h0';go_enter Tryz.func14,Tryz.ntmps14;go_wp2_with (fail)
     refine HF.out.mono ?_;rintro e w1 ⟨rfl,hs1⟩;have aX:=Lib.hid hs1;clear hs1;go_wp2_with (fail)
     refine(HS.out _ aX.out).mono ?_;rintro e w2 ⟨rfl,hs2⟩;have HS2:=Lib.hid (aX.out.trans hs2 (fun _ _ h=>h));clear hs2;simp only[Option.isSome_none,Option.getD_none];go_wp2_with (fail)
     refine(HR.out _ HS2.out).mono ?_;rintro e w3 ⟨rfl,hs3⟩;have dY:=Lib.hid (HS2.out.trans hs3 (fun _ _ h=>h));clear hs3;go_wp2_with (fail)
     refine(HT.out _ dY.out).mono ?_;rintro e w4 ⟨rfl,a4,hk4,hg4⟩;have J3:=Lib.hid hk4;have UZ:=Lib.hid hg4;clear hk4 hg4;go_wp2_with (fail)
     refine(HK.out _ _ J3.out).mono ?_;rintro e w5 ⟨rfl,a5,hk5,hg5⟩;rw[K4.out] at hg5;have NU:=Lib.hid hk5;have VS:=Lib.hid hg5;clear hk5 hg5;go_wp2;go_ret2;exact⟨rfl,a5,NU.out,((cZ.same dY.out).trans UZ.out).trans VS.out⟩
   ·rw[if_neg hc];have Xm:decide (k.ac+1≤k.c)=false:=by simpa using hc
    rw[Xm] at hrm;have HF:=Lib.hid hf;have HS:=Lib.hid hsk;have HR:=Lib.hid hrm;have H:=Lib.hid h;clear hf hsk hl' hz h hb hl hnd hok Xm hrm hne hnew hc;go_enter Tryz.func14,Tryz.ntmps14;go_wp2_with (fail)
    refine HF.out.mono ?_;rintro e w1 ⟨rfl,hs1⟩;have aX:=Lib.hid hs1;clear hs1;go_wp2_with (fail)
    refine(HS.out _ aX.out).mono ?_;rintro e w2 ⟨rfl,hs2⟩;have HS2:=Lib.hid (aX.out.trans hs2 (fun _ _ h=>h));clear hs2;simp only[Option.isSome_none,Option.getD_none];go_wp2_with (fail)
    refine(HR.out _ HS2.out).mono ?_;rintro e w3 ⟨rfl,hs3⟩;have dY:=Lib.hid (HS2.out.trans hs3 (fun _ _ h=>h));clear hs3;go_wp2;go_ret2;exact⟨rfl,a,H.out.same dY.out,cZ.same dY.out⟩
 ·rw[if_neg hz];generalize di k n=fz at *
  have J7:(fz != 0)=true:=by simpa using hz
  have HF:=Lib.hid hf;have H:=Lib.hid h;clear hf hz h hb hl;go_enter Tryz.func14,Tryz.ntmps14;go_wp2_with (fail)
  refine HF.out.mono ?_;rintro e w1 ⟨rfl,hs1⟩;go_wp2;go_ret2;exact⟨rfl,a,H.out.same hs1,cZ.same hs1⟩
end
def eX (k:KS) (l:Int):Int×KS:=if l<0∨(k.n:Int)-2<l then (1,k) else if (eO k l.toNat).1 then (0,{ (eO k l.toNat).2 with tr:=(eO k l.toNat).2.tr++[l] }) else (9,(eO k l.toNat).2)
def fK (k:KS):Int×Int×KS:=match k.tr.getLast? with
 | none=>(0,10,k)
 | some l=>(l,0,{ (eO k l.toNat).2 with tr:=(eO k l.toNat).2.tr.dropLast })
theorem zD (k:KS) (l:Nat):(eO k l).2.n=k.n:=by
 unfold eO;split
 ·show(gP (dI (bD k _) _ _ _) _).n=k.n;rw[F9,zu,uh]
 ·rfl
theorem BJ (k:KS) (l:Nat):(eO k l).2.tr=k.tr:=by
 unfold eO;split
 ·show(gP (dI (bD k _) _ _ _) _).tr=k.tr
  have:=congrArg (fun t=>t.2.2.2.2) ((kJ (dI (bD k (aB k (k.ord.getD l 0) (k.ord.getD (l+1) 0))) (k.ord.getD l 0) (k.ord.getD (l+1) 0) (aB k (k.ord.getD l 0) (k.ord.getD (l+1) 0))) (aB k (k.ord.getD l 0) (k.ord.getD (l+1) 0))).trans ((nL _ _ _ _).trans (nK _ _)))
  exact this
 ·rfl
section
variable {w:World} {kp:Nat} {k:KS} {a:KA} {ext:List Int} {X:List bN} {n:Nd}
theorem IP:(Tryz.prog.info? 3).map (fun i=>(i.zero,i.size,i.bytes))=some (some (.int .i64 0),1,8):=by kernel_rfl
theorem yF (h:KW w kp k a) (hn:k.n≤64) (l:Int) (hT:0≤l→l≤(k.n:Int)-2→∃ x y,vF k l.toNat x y) (htr:(k.tr.length+1)*8≤140737488355328) :
  Calls Tryz.prog 24 #[.pointer (some ⟨kp,0,none⟩),.int .i64 l] w fun e w'=>e=.returned (.int .i64 (eX k l).1)∧∃ a',KW w' kp (eX k l).2 a'∧cZ k.n kp w a w' a':=by
 have hkl:=h.blk.lt;have c4:=h.c4;unfold eX;by_cases hl0:l<0
 ·rw[if_pos (.inl hl0)];have H:=Lib.hid h;clear h hT;go_enter Tryz.func24,Tryz.ntmps24;go_wp2;go_ret;exact⟨rfl,a,H.out,cZ.refl _ _ _ _⟩
 ·by_cases hl1:(k.n:Int)-2<l
  ·rw[if_pos (.inr hl1)];have H:=Lib.hid h;have Ov:l>(k.n:Int)-2:=hl1;clear h hT;go_enter Tryz.func24,Tryz.ntmps24;go_wp2;go_ret;exact⟨rfl,a,H.out,cZ.refl _ _ _ _⟩
  ·rw[if_neg (by omega)];obtain⟨m,rfl⟩:=Int.eq_ofNat_of_zero_le (show 0≤l by omega);obtain⟨x,y,ht⟩:=hT (by omega) (by omega);rw[Int.toNat_natCast] at ht ⊢;have hc:=yz h m x y (by omega) ht;have Ov:¬ (m:Int)>(k.n:Int)-2:=by omega
   have hgn:=zD k m;have hgt:=BJ k m;generalize eO k m=t at *
   obtain⟨tb,tk⟩:=t;simp only at hc hgn hgt ⊢;have HC:=Lib.hid hc;have U8:=Lib.hid hgn;have Xn:=Lib.hid hgt;clear h hT ht hc hgn hgt;cases tb with
   | false =>
    rw[if_neg (by simp)];go_enter Tryz.func24,Tryz.ntmps24;go_wp2_with (fail)
    refine HC.out.mono ?_;rintro e w1 ⟨rfl,a1,hk1,hg1⟩;have pq:=Lib.hid hk1;have zm:=Lib.hid hg1;clear hk1 hg1;go_wp2;go_ret;exact⟨rfl,a1,pq.out,zm.out⟩
   | true =>
    rw[if_pos rfl];go_enter Tryz.func24,Tryz.ntmps24;go_wp2_with (fail)
    refine HC.out.mono ?_;rintro e w1 ⟨rfl,a1,hk1,hg1⟩;have pq:=Lib.hid hk1;have zm:=Lib.hid hg1;have c7:=hk1.c7;have Il:=hk1.blk.lt;have htl:(tk.tr.length+1)*8≤140737488355328:=by rw[Xn.out];exact htr
    clear hk1 hg1 c4 hkl;go_upto_region 7 with fail
    refine aV 6 ?_;simp only[List.take_succ_cons,List.take_zero,List.drop_succ_cons,List.drop_zero];repeat (any_goals (first | go_big_quiet_step (fail) | quiet_step (fail)))
    refine wpQuiet_nil ?_;refine wpList_plain rfl fun K hK=>?_
    go_simp;refine hK _ _ ?_;clear hK K;refine aQ fun wa dR=>?_
    have hM:=ax.new w1 3 #[.int .i64 (m:Int)];have hsa:Same w1 wa:=by rw[dR];exact(ah.refl _ _).alloc _
    rw[← dR] at hM;clear dR;have hka:=pq.out.same hsa;refine Own.aR (f:=eU) rfl (.tmp 29) (.tmp 31) _ rfl Tryz.underlying46 IP rfl (by omega) rfl hka.tr (fun _=>rfl) (m:Int) w1.heap.size 1 rfl hM (by simp[Value.oneCell',eU]) (by unfold maxLen;omega) (by omega) ?_;intro gg cap wb hOb hgb hat;have hgr:=pq.out.KU (wa:=wa) (wb:=wb) (x:=(m:Int)) (g:=gg) (cap:=cap) hsa hOb hgb hat;have hkb:ax wb kp 100 _:=hka.blk.grown hgb (fun hx=>hka.dj 0 11 kp (by omega) rfl (af.1 hx.symm));have b2:=hkb.free 7;have b2':=hkb.cell 7;have OE:=hkb.lt;simp[cO] at b2';have HGR:=Lib.hid hgr;clear hgr hOb hgb hat hkb hka hsa hM c7;go_wp2;go_ret;refine⟨rfl,_,HGR.out.1,?_⟩;have h2:=HGR.out.2;rw[U8.out] at h2;exact zm.out.trans h2
theorem IQ (h:KW w kp k a) (hT:∀ l,k.tr.getLast?=some l→0≤l∧l<4000000∧∃ x y,vF k l.toNat x y) (htr:k.tr.length≤1000000000000000000) :
  Calls Tryz.prog 26 #[.pointer (some ⟨kp,0,none⟩)] w fun e w'=>e=.returned (.tuple #[.int .i64 (fK k).1,.int .i64 (fK k).2.1])∧∃ a',KW w' kp (fK k).2.2 a'∧cZ k.n kp w a w' a':=by
 have hkl:=h.blk.lt;have c7:=h.c7;unfold fK;rcases List.eq_nil_or_concat k.tr with htn | ⟨t,l,htl⟩
 ·rw[htn] at c7 ⊢;simp only[List.getLast?_nil,List.length_nil] at c7 ⊢;have H:=Lib.hid h;clear h hT htn htr;go_enter Tryz.func26,Tryz.ntmps26;go_wp2;go_ret2;exact⟨rfl,a,H.out,cZ.refl _ _ _ _⟩
 ·rw[List.concat_eq_append] at htl;have hlast:k.tr.getLast?=some l:=by rw[htl];simp
  obtain⟨hl0,hl4,x,y,ht⟩:=hT l hlast;rw[hlast];simp only;have hN:k.tr.length=t.length+1:=by rw[htl];simp
  rw[hN] at c7 htr;obtain⟨m,rfl⟩:=Int.eq_ofNat_of_zero_le hl0;rw[Int.toNat_natCast] at ht ⊢;obtain⟨tb,etb,htb,htc⟩:=h.tr.dQ (i:=t.length) (x:=(m:Int)) (by rw[htl];simp);rw[etb] at c7;replace htc:w.cell? ⟨tb,t.length,none⟩=some (.int .i64 m):=htc;have hc:=yz h m x y (by omega) ht;have hgn:=zD k m;have hgt:=BJ k m;generalize eO k m=tt at *
  obtain⟨tt,tk⟩:=tt;simp only at hc hgn hgt ⊢;have HC:=Lib.hid hc;have U8:=Lib.hid hgn;have Xn:Hid (tk.tr=t++[(m:Int)]):=Lib.hid (by rw[hgt,htl]);have hI:(((t.length:Int)+1) == 0)=false:=by simp <;> omega
  clear h hT ht hc hgn hgt htl hlast hN etb;go_enter Tryz.func26,Tryz.ntmps26;go_wp2_with (fail)
  refine HC.out.mono ?_;rintro e w1 ⟨rfl,a1,hk1,hg1⟩;have hlen1:tk.tr.length=t.length+1:=by rw[Xn.out];simp
  have d7:=hk1.c7;rw[hlen1] at d7;have f7:=hk1.blk.free 7;have Il:=hk1.blk.lt;have hrow:=hk1.tr;rw[Xn.out] at hrow;have Bl:=Go.Tk.Own.pop (f:=eU) (fun _=>rfl) hrow;obtain⟨sb,ZQ,hsb⟩:=hk1.tr.Vz (by omega);rw[ZQ] at d7;have hcap:t.length+1≤a1.tC∧a1.tC≤9223372036854775807:=by
   rcases hk1.tr.own.2 with⟨h0,_⟩ | ⟨_,cap,_,h1,_,_,h3,h4,_⟩
   ·rw[ZQ] at h0;cases h0
   ·injection h1 with _ _ h1
    rw[h1];unfold maxLen at h4;rw[hlen1] at h3;omega
  have hto:=hk1.ym (w':=w1.setCell ⟨kp,7,none⟩ (.slice (some ⟨sb,0,none⟩) t.length a1.tC)) (r:=t) (A2:=a1.tA) (C2:=a1.tC) ((ah.refl _ w1).setCell (p:=⟨kp,7,none⟩) (.inl (.inl rfl)) _) (by
   have:=hk1.blk.set 7 (.slice (some ⟨sb,0,none⟩) t.length a1.tC)
   rw[← ZQ] at this ⊢
   simpa [cO] using this) (Bl.far (p:=⟨kp,7,none⟩) (fun ad had hx=>hk1.dj 11 0 kp (by omega) ⟨ad,had,hx⟩ rfl) _) (fun b hb=>.inl hb)
  have oF:=Lib.hid hto;have zm:=Lib.hid hg1;obtain⟨hcp1,hcp2⟩:=hcap;have htI:(0:Int)≤(t.length:Int):=by omega
  clear hk1 hrow Bl hto hg1 c7 htc hkl ZQ hlen1;go_wp2;go_ret2;have e:({ tk with tr:=tk.tr.dropLast }:KS)={ tk with tr:=t }:=by rw[Xn.out];simp
  rw[e];refine⟨rfl,_,oF.out.1,?_⟩;have h2:=oF.out.2;rw[U8.out] at h2;exact zm.out.trans h2
end
theorem kL:(Tryz.prog.info? 4).map (fun i=>(i.zero,i.size,i.bytes))=some (some (.bool false),1,1):=by kernel_rfl
theorem jN:(Tryz.prog.info? 3).map (fun i=>(i.zero,i.size,i.bytes))=some (some (.int .i64 0),1,8):=by kernel_rfl
theorem rJ {α:Type} {xs:List α} {k:Nat} {x:α} (h:xs[k]?=some x):xs.take (k+1)=xs.take k++[x]:=by
 have hl:=aY h;rw[List.getElem?_eq_getElem hl] at h;injection h with h
 rw[List.take_succ_eq_append_getElem hl,h]
end Go.Proofs.YtiomgckodmecbaaGreat
namespace Go.Tk
open Go.RowKit
theorem ah.LJ {w0 w wa wb:World} {A:Option Addr} {N C:Nat} (h:ah (fun _=>False) w0 w) (ha:ah (fun _=>False) w wa) (hg:wa.grownBy wb (Value.slice A N C).ownBlock) (hA:bQ w0.heap.size A):ah (fun _=>False) w0 wb :=
 (h.trans ha (fun _ _ h=>h)).grown hg (fun g hg=>.inr (hA g (af.1 hg)))
theorem Same.app {w0 w wa wb:World} {A:Option Addr} {N C:Nat} (h:Same w0 w) (ha:Same w wa) (hg:wa.grownBy wb (Value.slice A N C).ownBlock) (hA:bQ w0.heap.size A):Same w0 wb:=ah.LJ h ha hg hA
theorem IL.src {w:World} {A:Option Addr} {n:Nat} {xs:List Int} (h:IL w A n xs) (hne:xs≠[]):∃ ad,A=some ad∧∀ j u,(xs.flatMap eU)[j]?=some u→w.cell? (ad.add j)=some u:=by
 have h0:0<xs.length:=List.length_pos_iff.2 hne;obtain⟨b,off,rfl,_,_⟩:=h.dQ (List.getElem?_eq_getElem h0);refine⟨_,rfl,fun j u hj=>?_⟩;have hfl:∀ l:List Int,l.flatMap eU=l.map (fun x=>Value.int .i64 x):=by
  intro l
  induction l with
  | nil=>rfl
  | cons x l ih=>rw[List.flatMap_cons,ih];rfl
 rw[hfl,List.getElem?_map] at hj;cases hx:xs[j]? with
 | none=>rw[hx] at hj;cases hj
 | some x =>
  rw[hx] at hj;simp at hj;subst hj;obtain⟨b',off',h1,_,h3⟩:=h.dQ hx;injection h1 with h1
  injection h1 with h1 h2
  subst h1 h2
  have:(⟨b,off,none⟩:Addr).add j=⟨b,off+j,none⟩:=by unfold Addr.add;split <;> simp_all
  rw[this];exact h3
theorem IL.nil {w:World} {n:Nat} {xs:List Int} (h:IL w none n xs):xs=[]:=by
 cases xs with
 | nil=>rfl
 | cons x xs =>
  obtain⟨b,off,h1,_⟩:=h.dQ (i:=0) (x:=x) rfl;cases h1
end Go.Tk
namespace Go.Proofs.YtiomgckodmecbaaGreat
open Go.RowKit Go.Tk
def Ex (w:World) (ys:List Int) (A:Option Addr) (C:Nat) (w':World):Prop:=gq w' 3 A ys.length C ys∧bQ w.heap.size A∧Same w w'
def IU (w:World) (ys:List Int) (e:Ending) (w':World):Prop:=∃ A C,e=.returned (.slice A ys.length C)∧Ex w ys A C w'
def aaJ (w:World) (ys:List Int) (err:Int) (e:Ending) (w':World):Prop:=∃ A C,e=.returned (.tuple #[.slice A ys.length C,.int .i64 err])∧Ex w ys A C w'
theorem Ex.nil (w:World):Ex w [] none 0 w:=⟨Own.nil _ _ _ _,aS _,ah.refl _ _⟩
theorem yG (A:Option Addr) (n C:Nat) (xs:List Int) (x:Int) (w:World) (h:IL w A n xs) (hr:n*8≤140737488351232) :
  Calls Tryz.prog 115 #[.slice A n C,.int .i64 x] w fun e w'=>e=.returned (.int .i64 (Om xs x))∧w=w':=by
 obtain rfl:=h.len;have H:=Lib.hid h;clear h;go_enter Tryz.func115,Tryz.ntmps115;go_wp2;go_loopw [9] (fun i wr=>∃ k:Nat,k≤xs.length∧i=.int .i64 k∧x∉xs.take k∧w=wr) (fun i _=>xs.length-(intOf i).toNat)
 case atStart=>exact⟨0,by omega,rfl,by simp,rfl⟩
 case round =>
  obtain⟨k,hk,rfl,hn,rfl⟩:=hrel;by_cases hlt:k<xs.length
  ·obtain⟨y,hy⟩:∃ y,xs[k]?=some y:=⟨_,List.getElem?_eq_getElem hlt⟩;obtain⟨b,off,rfl,hb,hc⟩:=H.out.dQ hy;have hi0:(0:Int)≤k:=by omega
   have hi1:(k:Int)<xs.length:=by omega
   have HN:=Lib.hid hn;have HY:=Lib.hid hy;clear hn hy;by_cases he:y=x
   ·subst he;go_wp2;go_ret;exact⟨fG (Hu HY.out HN.out).symm,rfl⟩
   ·have he':(y == x)=false:=by simpa using he
    have HE:=Lib.hid he;clear he;go_wp2;go_roundw
    case rel=>exact⟨k+1,by omega,by go_num,by rw[rJ HY.out];simp[HN.out,Ne.symm HE.out],trivial⟩
    case measure=>simp[intOf] <;> omega
  ·obtain rfl:k=xs.length:=by omega
   have HN:=Lib.hid hn;clear hn;go_wp2;go_ret;exact⟨fG (Kv (by simpa using HN.out)).symm,rfl⟩
theorem zF (A:Option Addr) (n C:Nat) (xs:List Int) (w:World) (h:IL w A n xs) (hr:n*8≤140737488351232) :
  Calls Tryz.prog 83 #[.slice A n C] w fun e w'=>e=.returned (.int .i64 (Ku xs))∧w=w':=by
 obtain rfl:=h.len;have H:=Lib.hid h;clear h;go_enter Tryz.func83,Tryz.ntmps83;go_wp2;go_loopw [3] (fun i wr=>∃ k:Nat,k≤xs.length∧i=.int .i64 k∧(∀ v:Nat,v<k→(v:Int)∈xs)∧w=wr) (fun i _=>xs.length-(intOf i).toNat)
 case atStart=>exact⟨0,by omega,rfl,fun v hv=>by omega,rfl⟩
 case round =>
  obtain⟨k,hk,rfl,hn,rfl⟩:=hrel;have HN:=Lib.hid hn;clear hn;by_cases hlt:k<xs.length
  ·have hi1:(k:Int)<xs.length:=by omega
   by_cases he:(k:Int)∈xs
   ·have hp:¬ Om xs k<0:=fun h=>FE.1 h he
    have HE:=Lib.hid he;clear he;go_wp2_with (fail)
    refine(yG A _ C xs k w H.out hr).mono ?_;rintro e w1 ⟨rfl,rfl⟩;go_wp2;go_roundw
    case rel=>exact⟨k+1,by omega,by go_num,fun v hv=>by
     rcases Nat.lt_or_ge v k with h | h
     ·exact HN.out v h
     ·obtain rfl:v=k:=by omega
      exact HE.out,trivial⟩
    case measure=>simp[intOf] <;> omega
   ·have hp:Om xs k<0:=FE.2 he;have HE:=Lib.hid he;clear he;go_wp2_with (fail)
    refine(yG A _ C xs k w H.out hr).mono ?_;rintro e w1 ⟨rfl,rfl⟩;go_wp2;go_ret;exact⟨fG (by unfold Ku;rw[if_neg (fun h=>HE.out (h.mem hlt))]),rfl⟩
  ·obtain rfl:k=xs.length:=by omega
   have HP:=Lib.hid (xx HN.out);by_cases h64:64<xs.length
   ·have aaK:(xs.length:Int)>64:=by omega
    go_wp2;go_ret;exact⟨fG (by unfold Ku;rw[if_pos HP.out,if_pos h64]),rfl⟩
   ·have aaK:¬ (xs.length:Int)>64:=by omega
    go_wp2;go_ret;exact⟨fG (by unfold Ku;rw[if_pos HP.out,if_neg h64]),rfl⟩
theorem yH (A:Option Addr) (n C:Nat) (xs:List Int) (w:World) (h:IL w A n xs) (hr:n*8≤140737488351232) :
  Calls Tryz.prog 54 #[.slice A n C] w (IU w xs):=by
 obtain rfl:=h.len;cases A with
 | none =>
  have hx:=h.nil;subst hx;clear h;go_enter Tryz.func54,Tryz.ntmps54;go_wp2;go_ret;exact⟨none,0,rfl,Ex.nil w⟩
 | some ad =>
  have H:=Lib.hid h;clear h;go_enter Tryz.func54,Tryz.ntmps54;go_upto_region 3 with fail
  refine wp_region_lit ?_;refine wpList_plain rfl fun K hK=>?_
  go_simp;refine hK _ _ ?_;clear hK K;refine aQ fun wa dR=>?_
  have hO:=Own.lit w 3 eU (fun _=>rfl) [] (by simp) (cs:=#[]) rfl;have hsa:Same w wa:=by rw[dR];exact(ah.refl _ _).alloc _
  rw[← dR] at hO;clear dR;refine jW 1 ?_;simp only[List.take_succ_cons,List.take_zero,List.drop_succ_cons,List.drop_zero];repeat (any_goals (first | go_big_quiet_step (fail) | quiet_step (fail)))
  refine wpQuiet_nil ?_;refine wpList_plain rfl fun K hK=>?_
  refine Own.bT (.tmp 5) (.tmp 6) _ rfl Tryz.underlying46 jN rfl (by omega) rfl hO (fun _=>rfl) xs (some ad) C rfl (fun hne=>IL.src (Sl.same H.out hsa) hne) (by simp[eU,Value.oneCell']) (by simp[maxLen] <;> omega) (by simp <;> omega) ?_;intro A1 C1 w1 SS hg1 LK;refine hK _ _ ?_;clear hK K;simp only[List.nil_append] at SS ⊢;have hF0:bQ w.heap.size (some ⟨w.heap.size,0,none⟩):=bR (Nat.le_refl _);have hs1:=Same.app (ah.refl _ _) hsa hg1 hF0;have hF1:bQ w.heap.size A1:=fun b hb=>by
   have:=hsa.size
   rcases LK b hb with h | h
   ·exact hF0 b h
   ·omega
  have WJ:=Lib.hid SS;have aX:=Lib.hid hs1;have HF1:=Lib.hid hF1;clear SS hs1 hF1 LK hg1 hF0 hO hsa;go_wp2;go_ret;exact⟨A1,C1,rfl,WJ.out,HF1.out,aX.out⟩
def Kc (n k:Nat):List Int:=(List.range n).map fun j:Nat=>if j<k then (j:Int) else 0
theorem jZ (n k:Nat):(Kc n k).length=n:=by simp[Kc]
theorem LM (n:Nat):Kc n 0=List.replicate n 0:=by
 apply List.ext_getElem?;intro j;rcases Nat.lt_or_ge j n with h | h
 ·simp[Kc,h]
 ·rw[List.getElem?_eq_none (by rw[jZ];exact h),List.getElem?_eq_none (by simpa using h)]
theorem LP (n:Nat):Kc n n=qO n:=by
 apply List.ext_getElem?;intro j;rcases Nat.lt_or_ge j n with h | h
 ·rw[Oj h];simp[Kc,h]
 ·rw[List.getElem?_eq_none (by rw[jZ];exact h),List.getElem?_eq_none (by rw[jd];exact h)]
theorem O5 {n k:Nat} (_h:k<n):(Kc n k).set k (k:Int)=Kc n (k+1):=by
 apply List.ext_getElem?;intro j;rcases Nat.lt_or_ge j n with hj | hj
 ·rw[List.getElem?_set,jZ];simp only[Kc,List.getElem?_map,List.getElem?_range hj,Option.map_some];split
  ·rename_i he;subst he;simp
  ·rename_i he;congr 1;by_cases h:j<k
   ·rw[if_pos h,if_pos (by omega)]
   ·rw[if_neg h,if_neg (by omega)]
 ·rw[List.getElem?_eq_none (by simp[jZ,hj]),List.getElem?_eq_none (by rw[jZ];exact hj)]
theorem zG (n:Nat) (w:World) (hn:n≤1000):Calls Tryz.prog 87 #[.int .i64 n] w (IU w (qO n)):=by
 have hmk:=fun w=>eZ (P:=Tryz.prog) Tryz.underlying46 jN .i64 .i64 n (show 8*n≤281474976710656 by omega) (show n≤9223372036854775807 by omega) w
 have hO:=Own.mh (m:=1) w 3 eU (fun _=>rfl) (by decide) 0 n (show n≤9223372036854775807 by omega) rfl;rw[← LM n] at hO;have hs1:∀ cs,Same w (w.alloc (.cells cs 3)):=fun cs=>(ah.refl _ _).alloc _
 have HO:=Lib.hid hO;clear hO;go_enter Tryz.func87,Tryz.ntmps87;go_wp2;go_loopw [8] (fun i wr=>∃ k:Nat,k≤n∧i=.int .i64 k∧Same w wr∧gq wr 3 (some ⟨w.heap.size,0,none⟩) n n (Kc n k)) (fun i _=>n-(intOf i).toNat)
 case atStart=>exact⟨0,by omega,rfl,hs1 _,by simpa [eU] using HO.out⟩
 case round =>
  clear hmk hs1 HO;obtain⟨k,hk,rfl,hs,ho⟩:=hrel;have HS:=Lib.hid hs;have HR:=Lib.hid ho;clear hs ho;by_cases hlt:k<n
  ·have hi1:(k:Int)<n:=by omega
   have hi0:(0:Int)≤k:=by omega
   obtain⟨sb,hsb,hsl,hsc⟩:=HR.out.dQ (c:=fun x=>.int .i64 x) (i:=k) (x:=(Kc n k)[k]'(by rw[jZ];exact hlt)) (List.getElem?_eq_getElem _);injection hsb with hsb
   injection hsb with hsb
   subst hsb;have hfr:=Own.free HR.out k;have hst:=Own.l5 (c:=fun x=>.int .i64 x) HR.out (i:=k) (by rw[jZ];exact hlt) (k:Int);rw[O5 hlt] at hst;generalize (Kc n k)[k]'(by rw[jZ];exact hlt)=old at hsc;have HST:=Lib.hid hst;clear hst;go_wp2;go_roundw
   case rel=>exact⟨k+1,by omega,by go_num,HS.out.aj _ _ (Nat.le_refl _),HST.out⟩
   case measure=>simp[intOf] <;> omega
  ·obtain rfl:k=n:=by omega
   go_wp2;go_ret;refine⟨some ⟨w.heap.size,0,none⟩,k,by rw[jd];rfl,?_,bR (Nat.le_refl _),HS.out⟩
   have:=HR.out
   rw[LP] at this
   rwa [jd]
theorem swp_get (p:List Int) (l:Nat) {a b:Int} (ha:p[l]?=some a) (hb:p[l+1]?=some b):swp p l=(p.set l b).set (l+1) a:=by
 unfold swp;simp[List.getD_eq_getElem?_getD,ha,hb]
def IV (n:Int):Int:=if n<0∨64<n then 1 else 0
def O6 (n:Int):List Int:=if n<0∨64<n then [] else qO n.toNat
theorem qi (n:Int) (w:World):Calls Tryz.prog 51 #[.int .i64 n] w (aaJ w (O6 n) (IV n)):=by
 by_cases h0:n<0
 ·have he:IV n=1:=by unfold IV;rw[if_pos (.inl h0)]
  have hy:O6 n=[]:=by unfold O6;rw[if_pos (.inl h0)]
  rw[he,hy];clear he hy;go_enter Tryz.func51,Tryz.ntmps51;go_wp2;go_ret2;exact⟨none,0,rfl,Ex.nil w⟩
 ·by_cases h1:n>64
  ·have he:IV n=1:=by unfold IV;rw[if_pos (.inr h1)]
   have hy:O6 n=[]:=by unfold O6;rw[if_pos (.inr h1)]
   rw[he,hy];clear he hy;go_enter Tryz.func51,Tryz.ntmps51;go_wp2;go_ret2;exact⟨none,0,rfl,Ex.nil w⟩
  ·have he:IV n=0:=by unfold IV;rw[if_neg (by omega)]
   have hy:O6 n=qO n.toNat:=by unfold O6;rw[if_neg (by omega)]
   rw[he,hy];clear he hy;obtain⟨m,rfl⟩:∃ m:Nat,n=m:=⟨n.toNat,by omega⟩;go_enter Tryz.func51,Tryz.ntmps51;go_wp2_with (fail)
   refine(zG m w (by omega)).mono ?_;rintro e w1 ⟨A2,C2,rfl,hN⟩;have HN:=Lib.hid hN;clear hN;go_wp2;go_ret2;exact⟨A2,C2,rfl,HN.out⟩
def dG (l:List Int) (n:Nat):List Int:=((List.range n).filter fun i=>decide (0<l.getD i 0)).map fun (i:Nat)=>(i:Int)
def aU (k:KS):List Int:=dG k.hs k.hs.length
theorem zH (l:List Int) (n:Nat):dG l (n+1)=if 0<l.getD n 0 then dG l n++[(n:Int)] else dG l n:=by
 unfold dG;rw[List.range_succ,List.filter_append,List.map_append];by_cases h:0<l.getD n 0
 ·rw[if_pos h,List.filter_cons,if_pos (decide_eq_true h)];rfl
 ·rw[if_neg h,List.filter_cons,if_neg (by simpa using h)];simp
theorem sO (l:List Int) (n:Nat):(dG l n).length≤n:=by
 unfold dG;rw[List.length_map];exact Nat.le_trans (List.length_filter_le _ _) (by simp)
section
variable {w:World} {kp:Nat} {k:KS} {a:KA} {ext:List Int} {X:List bN} {n:Nd}
theorem vP (h:KW w kp k a) (hb:Bk k ext X) :
  Calls Tryz.prog 22 #[.pointer (some ⟨kp,0,none⟩)] w fun e w'=>∃ A C,e=.returned (.slice A (aU k).length C)∧Row1 w' 28 rc A (aU k).length C (aU k)∧bQ w.heap.size A∧Same w w':=by
 have hkl:=h.blk.lt;have c3:=h.c3;have hlen:k.hs.length≤1048576:=by
  have:=hb.ul
  have:=hb.Eb
  have:=hb.lim
  have:=hb.cM
  omega
 have hval:∀ (i:Nat) x,k.hs[i]?=some x→0≤x∧x≤65535:=fun i x hx=>⟨(hb.hol i x hx).1,(hb.hol i x hx).2.1⟩
 have H:=Lib.hid h;have HV:=Lib.hid hval;unfold aU;clear h hb hval;go_enter Tryz.func22,Tryz.ntmps22;go_wp2_with (fail)
 go_loopw [14,3] (fun i l wr=>∃ (n:Nat) (A:Option Addr) (C:Nat),n≤k.hs.length∧i=.int .i64 n∧l=.slice A (dG k.hs n).length C∧Row1 wr 28 rc A (dG k.hs n).length C (dG k.hs n)∧bQ w.heap.size A∧Same w wr) (fun i _ _=>k.hs.length-(intOf i).toNat)
 case atStart=>exact⟨0,none,0,by omega,rfl,rfl,Own.nil _ _ _ _,aS _,ah.refl _ _⟩
 case round =>
  obtain⟨n,A,C,hn,rfl,rfl,hO,hF,hS⟩:=hrel;have HO:=Lib.hid hO;have HF:=Lib.hid hF;have HS:=Lib.hid hS;clear hO hF hS;by_cases hlt:n<k.hs.length
  ·obtain⟨x,hx⟩:∃ x,k.hs[n]?=some x:=⟨_,List.getElem?_eq_getElem hlt⟩;obtain⟨x0,x1⟩:=HV.out n x hx;have hk:=H.out.same HS.out;obtain⟨sb,hA,hsb,_,hc,_⟩:=hk.Bf hx;have hstep:=zH k.hs n;have hxd:k.hs.getD n 0=x:=by rw[List.getD_eq_getElem?_getD,hx];rfl
   rw[hxd] at hstep;have HST:=Lib.hid hstep;have hI:(n:Int)<(k.hs.length:Int):=by omega
   have hrl:=sO k.hs n;rw[hA];clear hk hx hxd hstep hA;by_cases hx0:0<x
   ·have hx0':x>0:=hx0;have HX0:=Lib.hid hx0;clear hx0;go_upto_region 8 with fail
    refine aV 3 ?_;simp only[List.take_succ_cons,List.take_zero,List.drop_succ_cons,List.drop_zero];repeat (any_goals (first | go_big_quiet_step (fail) | quiet_step (fail)))
    refine wpQuiet_nil ?_;refine wpList_plain rfl fun K hK=>?_
    go_simp;refine hK _ _ ?_;clear hK K;refine aQ fun wa dR=>?_
    have hM:=ax.new wr 28 #[.int .u32 (n:Int)];have hsa:Same wr wa:=by rw[dR];exact(ah.refl _ _).alloc _
    rw[← dR] at hM;clear dR;refine Own.aR (f:=fun x=>[rc x]) rfl (.tmp 21) (.tmp 24) _ rfl Tryz.underlying40 iE rfl (by omega) rfl (HO.out.ag hsa (fun _ _=>id)) (fun _=>rfl) (n:Int) wr.heap.size 1 rfl hM (by simp[Value.oneCell',rc]) (by unfold maxLen;omega) (by omega) ?_;intro gg cap wb hOb hgb hat;have hSb:Same w wb:=by
     refine(HS.out.trans hsa (fun _ _ h=>h)).grown hgb (fun g hg=>.inr ?_);exact HF.out g (af.1 hg)
    have QX:bQ w.heap.size (some ⟨gg,0,none⟩):=by
     refine bR ?_;rcases hat with h | h
     ·exact HF.out gg (af.1 h)
     ·have:=HS.out.size;have:=hsa.size;omega
    have Bt:=Lib.hid hOb;have kS:=Lib.hid hSb;have J8:=Lib.hid QX;clear hOb hSb QX hgb hat hM hsa;go_wp2;go_roundw
    case rel =>
     have hst:dG k.hs (n+1)=dG k.hs n++[(n:Int)]:=by rw[HST.out,if_pos HX0.out]
     refine⟨n+1,some ⟨gg,0,none⟩,cap,by omega,by go_num,?_,?_,J8.out,kS.out⟩
     ·rw[hst,List.length_append];rfl
     ·rw[hst,List.length_append];exact Bt.out
    case measure=>simp[intOf] <;> omega
   ·have hx0':¬ x>0:=hx0;have HX0:=Lib.hid hx0;clear hx0;go_wp2;go_roundw
    case rel =>
     have hst:dG k.hs (n+1)=dG k.hs n:=by rw[HST.out,if_neg HX0.out]
     refine⟨n+1,A,C,by omega,by go_num,by rw[hst],?_,HF.out,HS.out⟩;rw[hst];exact HO.out
    case measure=>simp[intOf] <;> omega
  ·obtain rfl:n=k.hs.length:=by omega
   have hI:¬ ((k.hs.length:Nat):Int)<(k.hs.length:Int):=by omega
   go_wp2;go_ret;exact⟨A,C,rfl,HO.out,HF.out,HS.out⟩
theorem vQ (h:KW w kp k a) (hl:k.ord.length≤64) :
  Calls Tryz.prog 25 #[.pointer (some ⟨kp,0,none⟩)] w (IU w k.ord):=by
 have hkl:=h.blk.lt;have c5:=h.c5;have hc:=yH a.oA k.ord.length a.oC k.ord w h.ord.il (by omega);have HC:=Lib.hid hc;clear h hc;go_enter Tryz.func25,Tryz.ntmps25;go_wp2_with (fail)
 refine HC.out.mono ?_;rintro e w1 ⟨A,C,rfl,hN⟩;go_wp2;go_ret;exact⟨A,C,rfl,hN⟩
theorem IW (h:KW w kp k a):Calls Tryz.prog 29 #[.pointer (some ⟨kp,0,none⟩)] w fun e w'=>e=.returned (.int .i64 k.n)∧w=w':=by
 have hkl:=h.blk.lt;have c4:=h.c4;clear h;go_enter Tryz.func29,Tryz.ntmps29;go_wp2;go_ret;exact⟨rfl,rfl⟩
theorem Ey (h:KW w kp k a):Calls Tryz.prog 30 #[.pointer (some ⟨kp,0,none⟩)] w fun e w'=>e=.returned (.int .i64 k.c)∧w=w':=by
 have hkl:=h.blk.lt;have c0:=h.c0;have hp:=Lib.hid h.ar.places;clear h;go_enter Tryz.func30,Tryz.ntmps30;go_wp2_with (fail)
 refine hp.out.mono ?_;rintro e w1 ⟨rfl,rfl⟩;go_wp2;go_ret;exact⟨rfl,rfl⟩
theorem oW (h:KW w kp k a) (hc:k.ac≤4000000):Calls Tryz.prog 18 #[.pointer (some ⟨kp,0,none⟩)] w fun e w'=>e=.returned (.int .i64 ((k.ac:Int)-2))∧w=w':=by
 have hkl:=h.blk.lt;have c0:=h.c0;have hp:=Lib.hid h.ar.used;clear h;go_enter Tryz.func18,Tryz.ntmps18;go_wp2_with (fail)
 refine hp.out.mono ?_;rintro e w1 ⟨rfl,rfl⟩;go_wp2;go_ret;exact⟨rfl,rfl⟩
theorem vR (h:KW w kp k a):Calls Tryz.prog 35 #[.pointer (some ⟨kp,0,none⟩)] w fun e w'=>e=.returned (.int .i64 k.tr.length)∧w=w':=by
 have hkl:=h.blk.lt;have c7:=h.c7;clear h;go_enter Tryz.func35,Tryz.ntmps35;go_wp2;go_ret;exact⟨rfl,rfl⟩
theorem zI (p:Option Addr):Calls Tryz.prog 34 #[.pointer p] w fun e w'=>e=.returned (.tuple #[])∧w=w':=by
 go_enter Tryz.func34,Tryz.ntmps34;go_wp2;go_end0
 exact⟨rfl,rfl⟩
def tH (k:KS) (v:Int):Int:=if 0≤v∧v<k.n then 0 else 2
def zJ (k:KS) (v:Int):Int:=if 0≤v∧v<k.n then bz k v else 0
theorem vS (h:KW w kp k a) (hl:Lv k) (v:Int) :
  Calls Tryz.prog 33 #[.pointer (some ⟨kp,0,none⟩),.int .i64 v] w fun e w'=>e=.returned (.tuple #[.int .i64 (zJ k v),.int .i64 (tH k v)])∧w=w':=by
 have hkl:=h.blk.lt;have hv:=ko h v;unfold zJ tH bz;have HV:=Lib.hid hv;by_cases hc:0≤v∧v<k.n
 ·rw[if_pos hc,if_pos hc];have hb:decide (0≤v∧v<k.n)=true:=by simpa using hc
  rw[hb] at HV;obtain⟨m,rfl⟩:=Int.eq_ofNat_of_zero_le hc.1;have hm:m<k.bH.length:=by rw[hl.ll];omega
  have hx:=List.getElem?_eq_getElem hm;obtain⟨lb,U7,hlb,hlc⟩:=h.bH.dQ hx;have c6:=h.c6;rw[U7] at c6;have hd:k.bH.getD (m:Int).toNat 0=k.bH[m]:=by rw[Int.toNat_natCast,List.getD_eq_getElem?_getD,hx];rfl
  rw[hd];replace hlc:w.cell? ⟨lb,m,none⟩=some (.int .i64 k.bH[m]):=hlc;generalize k.bH[m]=x at *
  have R7:(m:Int)<(k.bH.length:Int):=by omega
  clear h hv hb hx U7 hd hc hl;go_enter Tryz.func33,Tryz.ntmps33;go_wp2_with (fail)
  refine HV.out.mono ?_;rintro e w1 ⟨rfl,rfl⟩;go_wp2;go_ret2;exact⟨rfl,rfl⟩
 ·rw[if_neg hc,if_neg hc];have hb:decide (0≤v∧v<k.n)=false:=by simpa using hc
  rw[hb] at HV;clear h hv hb hc hl;go_enter Tryz.func33,Tryz.ntmps33;go_wp2_with (fail)
  refine HV.out.mono ?_;rintro e w1 ⟨rfl,rfl⟩;go_wp2;go_ret2;exact⟨rfl,rfl⟩
def N9 (k:KS) (v:Int):Nat:=if 0≤v∧v<k.n then (jv k.L v.toNat).length else 0
theorem vT (h:KW w kp k a) (v:Int) :
  Calls Tryz.prog 32 #[.pointer (some ⟨kp,0,none⟩),.int .i64 v] w fun e w'=>e=.returned (.tuple #[.int .i64 (N9 k v),.int .i64 (tH k v)])∧w=w':=by
 have hkl:=h.blk.lt;have hv:=ko h v;have hct:=Bb a.U k.n k.L v w h.ut;have c1:=h.c1;unfold N9 tH;have HV:=Lib.hid hv;by_cases hc:0≤v∧v<k.n
 ·have hve:nX k.n v=0:=by unfold nX;rw[if_pos hc]
  rw[if_pos hc,hve] at hct;rw[if_pos hc,if_pos hc];have hb:decide (0≤v∧v<k.n)=true:=by simpa using hc
  rw[hb] at HV;have ZR:=Lib.hid hct;clear h hv hb hc hct hve;go_enter Tryz.func32,Tryz.ntmps32;go_wp2_with (fail)
  refine HV.out.mono ?_;rintro e w1 ⟨rfl,rfl⟩;go_wp2_with (fail)
  refine ZR.out.mono ?_;rintro e w1 ⟨rfl,rfl⟩;go_wp2;go_ret2;exact⟨rfl,rfl⟩
 ·rw[if_neg hc,if_neg hc];have hb:decide (0≤v∧v<k.n)=false:=by simpa using hc
  rw[hb] at HV;clear h hv hb hc hct;go_enter Tryz.func32,Tryz.ntmps32;go_wp2_with (fail)
  refine HV.out.mono ?_;rintro e w1 ⟨rfl,rfl⟩;go_wp2;go_ret2;exact⟨rfl,rfl⟩
end
def xK (n c:Nat):KS:=⟨n,c,2,A9,[],[],[],[],qO n,qO n,[]⟩
section
variable {w:World}
theorem Xo (n c:Int) (h:n<1∨64<n∨c<2∨1048576<c):Calls Tryz.prog 13 #[.int .i64 n,.int .i64 c] w fun e w'=>e=.returned (.tuple #[.pointer none,.int .i64 1])∧Same w w':=by
 have hid:=qi n w;by_cases h1:n<0∨64<n
 ·have he:IV n=1:=by unfold IV;rw[if_pos h1]
  rw[he] at hid;have HI:=Lib.hid hid;clear hid h h1 he;go_enter Tryz.func13,Tryz.ntmps13;go_wp2_with (fail)
  refine HI.out.mono ?_;rintro e w1 ⟨A,C,rfl,hN⟩;go_wp2;go_ret2;exact⟨rfl,hN.2.2⟩
 ·have he:IV n=0:=by unfold IV;rw[if_neg h1]
  rw[he] at hid;have HI:=Lib.hid hid;clear hid he;by_cases h2:n<1
  ·clear h h1;go_enter Tryz.func13,Tryz.ntmps13;go_wp2_with (fail)
   refine HI.out.mono ?_;rintro e w1 ⟨A,C,rfl,hN⟩;go_wp2;go_ret2;exact⟨rfl,hN.2.2⟩
  ·by_cases h3:c<2
   ·clear h h1;go_enter Tryz.func13,Tryz.ntmps13;go_wp2_with (fail)
    refine HI.out.mono ?_;rintro e w1 ⟨A,C,rfl,hN⟩;go_wp2;go_ret2;exact⟨rfl,hN.2.2⟩
   ·have h4:c>1048576:=by omega
    clear h h1;go_enter Tryz.func13,Tryz.ntmps13;go_wp2_with (fail)
    refine HI.out.mono ?_;rintro e w1 ⟨A,C,rfl,hN⟩;go_wp2;go_ret2;exact⟨rfl,hN.2.2⟩
theorem xL (c:Int) (t:Nat) (h1:¬ c<2) (h2:c≤1048576) :
  Calls Tryz.prog 53 #[.int .i64 c,.pointer (some ⟨t,0,none⟩)] w fun e w'=>∃ g A C,e=.returned (.tuple #[.agg #[.pointer (some ⟨g,0,none⟩),.pointer (some ⟨t,0,none⟩),.slice none 0 0,.slice none 0 0],.int .i64 0])∧lV w' g c 2 A9 [] A C none 0∧Same w w'∧w.heap.size≤g∧bQ w.heap.size A:=by
 have hn:=fun w=>RP c w h1 h2
 have HN:=Lib.hid hn;clear hn;go_enter Tryz.func53,Tryz.ntmps53;go_wp2_with (fail)
 refine ek fun w1 hw1=>?_
 have hs1:Same w w1:=by rw[hw1];exact(ah.refl _ _).alloc _
 have hX:ax w1 w.heap.size 96 #[.pointer none,.pointer none,.slice none 0 0,.slice none 0 0]:=by rw[hw1];exact ax.new w _ _
 have hsz:w1.heap.size=w.heap.size+1:=by rw[hw1];simp
 clear hw1;refine(HN.out _).mono ?_;rintro e w2 ⟨rfl,A,C,hA,hs2,hF⟩;have hX2:=hX.ag hs2 id;have x0:=hX2.cell 0;have x1:=hX2.cell 1;have x2:=hX2.cell 2;have x3:=hX2.cell 3;have f0:=hX2.free 0;have f1:=hX2.free 1;have f2:=hX2.free 2;have f3:=hX2.free 3;have hxl:=hX2.lt;simp at x0 x1 x2 x3;have HX:=Lib.hid hX2;have HS:=Lib.hid (hs1.trans hs2 (fun _ _ h=>h));have HA:=Lib.hid hA;have HF:=Lib.hid hF;have tJ:=Lib.hid hsz;clear hX hX2 hs1 hs2 hA hF hsz;go_wp2;have hle:w.heap.size≤w.heap.size:=Nat.le_refl _;refine bodyPost_ret (v:=.tuple #[.agg #[.pointer (some ⟨w1.heap.size,0,none⟩),.pointer (some ⟨t,0,none⟩),.slice none 0 0,.slice none 0 0],.int .i64 0]) ?_ rfl ⟨w1.heap.size,A,C,rfl,?_,?_,?_,?_⟩
 ·have hY:=(((HX.out.set 0 (.pointer (some ⟨w1.heap.size,0,none⟩))).set 1 (.pointer (some ⟨t,0,none⟩))).set 2 (.slice none 0 0)).set 3 (.slice none 0 0);generalize (((w2.setCell ⟨w.heap.size,0,none⟩ (.pointer (some ⟨w1.heap.size,0,none⟩))).setCell ⟨w.heap.size,1,none⟩ (.pointer (some ⟨t,0,none⟩))).setCell ⟨w.heap.size,2,none⟩ (.slice none 0 0)).setCell ⟨w.heap.size,3,none⟩ (.slice none 0 0)=W at hY ⊢;have y0:=hY.cell 0;have y1:=hY.cell 1;have y2:=hY.cell 2;have y3:=hY.cell 3;simp at y0 y1 y2 y3;simp[results,Tryz.results53,go_sem,y0,y1,y2,y3]
 ·have hF:ah (fun b=>b=w.heap.size) w2 ((((w2.setCell ⟨w.heap.size,0,none⟩ (.pointer (some ⟨w1.heap.size,0,none⟩))).setCell ⟨w.heap.size,1,none⟩ (.pointer (some ⟨t,0,none⟩))).setCell ⟨w.heap.size,2,none⟩ (.slice none 0 0)).setCell ⟨w.heap.size,3,none⟩ (.slice none 0 0)) :=
   ((((ah.refl (fun b=>b=w.heap.size) w2).set _ _ rfl).set _ _ rfl).set _ _ rfl).set _ _ rfl
  refine HA.out.ag hF ?_;rintro b hb rfl;have hz:=tJ.out;rcases hb with hb | hb | hb
  ·omega
  ·have:=HF.out _ hb;omega
  ·obtain⟨_,hx,_⟩:=hb;cases hx
 ·exact(((HS.out.aj _ _ hle).aj _ _ hle).aj _ _ hle).aj _ _ hle
 ·have:=tJ.out;omega
 ·intro b hb;have h1:=tJ.out;have h2:=HF.out b hb;omega
theorem BK (n c:Nat) (h1:1≤n) (h2:n≤64) (h3:2≤c) (h4:c≤1048576):Calls Tryz.prog 13 #[.int .i64 n,.int .i64 c] w fun e w'=>∃ kp a,e=.returned (.tuple #[.pointer (some ⟨kp,0,none⟩),.int .i64 0])∧KW w' kp (xK n c) a∧Same w w'∧∀ b,gX n kp a b→w.heap.size≤b:=by
 have hid:=qi n w;have he:IV n=0:=by unfold IV;rw[if_neg (by omega)]
 have hr:O6 n=qO n:=by unfold O6;rw[if_neg (by omega),Int.toNat_natCast]
 rw[he,hr] at hid;have hun:=fun w=>Io n h1 h2 w
 have hst:=fun w t=>xL (w:=w) c t (by omega) (by omega)
 have hcl:=fun w A C (h:IL w A n (qO n))=>yH A n C (qO n) w h (by omega)
 have HI:=Lib.hid hid;have HU:=Lib.hid hun;have HST:=Lib.hid hst;have uk:=Lib.hid hcl;have n1:¬ (n:Int)<1:=by omega
 have n2:¬ (c:Int)<2:=by omega
 have n3:¬ (c:Int)>1048576:=by omega
 have hrl:=jd n;have um:=Lib.hid hrl;clear hid he hr hun hst hcl hrl;go_enter Tryz.func13,Tryz.ntmps13;go_wp2_with (fail)
 refine HI.out.mono ?_;rintro e w1 ⟨oA,oC,rfl,hO,hOF,hs1⟩;rw[um.out] at hO;have HO:=Lib.hid hO;have HOF:=Lib.hid hOF;have aX:=Lib.hid hs1;clear hO hOF hs1;rw[um.out];go_wp2_with (fail)
 refine(HU.out _).mono ?_;rintro e w2 ⟨U,rfl,hs2,hut,SE,hU2,Xp⟩;have HS2:=Lib.hid hs2;have U9:=Lib.hid hut;have SV:=Lib.hid SE;have Ij:=Lib.hid hU2;have xM:=Lib.hid Xp;clear hs2 hut SE hU2 Xp;go_wp2_with (fail)
 refine(HST.out _ _).mono ?_;rintro e w3 ⟨g,A,C,rfl,hA,hs3,hg,hAF⟩;have dY:=Lib.hid hs3;have HA:=Lib.hid hA;have HGL:=Lib.hid hg;have HAF:=Lib.hid hAF;clear hs3 hA hg hAF;go_upto_region 10 with fail
 refine ai fun w4 hw4=>?_
 have hX:=ax.new w3 96 #[.pointer (some ⟨g,0,none⟩),.pointer (some ⟨U.T,0,none⟩),.slice none 0 0,.slice none 0 0];have hs4:Same w3 w4:=by rw[hw4];exact(ah.refl _ _).alloc _
 rw[← hw4] at hX;clear hw4;have x0:=hX.cell 0;have x1:=hX.cell 1;have x2:=hX.cell 2;have x3:=hX.cell 3;have hxl:=hX.lt;simp at x0 x1 x2 x3;have SX:=(HS2.out.trans dY.out (fun _ _ h=>h)).trans hs4 (fun _ _ h=>h);have hcl:=fun w' (hw:Same w4 w')=>uk.out w' oA oC ((HO.out.ag (SX.trans hw (fun _ _ h=>h)) (fun _ _=>id)).il)
 have aaL:=Lib.hid hcl;have iB:=Lib.hid hs4;have acy:=Lib.hid SX;clear hX hs4 SX hcl uk HST HU HI;refine aJ (fun _=>False) [([0,1,2,3],4),([5],6),([7],8)] (by kernel_rfl) (by kernel_rfl) ?_;simp only[cK,pick,List.map_cons,List.map_nil,List.getD_cons_zero,List.getD_cons_succ];repeat (any_goals (first | go_big_quiet_step (fail) | quiet_step (fail)))
 refine wpQuiet_nil ?_;refine aa rfl fun K hK=>?_
 go_simp;refine(aaL.out _ ((ah.refl _ _).drew)).mono ?_;rintro e w5 ⟨lA,lC,rfl,hL,hLF,hs5⟩;rw[um.out] at hL;rw[um.out];have O7:Same w4 w5:=(ah.refl _ _).drew.trans hs5 (fun _ _ h=>h);refine hK _ _ (aZ.bu O7) ?_;clear hK K hs5;repeat (any_goals (first | go_big_quiet_step (fail) | quiet_step (fail)))
 refine wpQuiet_nil ?_;refine aa rfl fun K hK=>?_
 go_simp;have SY:=O7.alloc (.cells #[.pointer (some ⟨g,0,none⟩),.pointer (some ⟨U.T,0,none⟩),.slice none 0 0,.slice none 0 0,.int .i64 n,.slice oA n oC,.slice lA n lC,.slice none 0 0] 100);refine hK _ _ (aZ.bu SY) ?_;clear hK K;have hB:=ax.new w5 100 #[.pointer (some ⟨g,0,none⟩),.pointer (some ⟨U.T,0,none⟩),.slice none 0 0,.slice none 0 0,.int .i64 n,.slice oA n oC,.slice lA n lC,.slice none 0 0];have hL6:=hL.ag ((ah.refl (fun _=>False) w5).alloc (.cells #[.pointer (some ⟨g,0,none⟩),.pointer (some ⟨U.T,0,none⟩),.slice none 0 0,.slice none 0 0,.int .i64 n,.slice oA n oC,.slice lA n lC,.slice none 0 0] 100)) (fun _ _=>id);have hz6:=Lib.hid (show w5.heap.size<(w5.alloc (.cells #[.pointer (some ⟨g,0,none⟩),.pointer (some ⟨U.T,0,none⟩),.slice none 0 0,.slice none 0 0,.int .i64 n,.slice oA n oC,.slice lA n lC,.slice none 0 0] 100)).heap.size by simp);generalize w5.alloc (.cells #[.pointer (some ⟨g,0,none⟩),.pointer (some ⟨U.T,0,none⟩),.slice none 0 0,.slice none 0 0,.int .i64 n,.slice oA n oC,.slice lA n lC,.slice none 0 0] 100)=w6 at *
 have HB:=Lib.hid hB;have Xq:=Lib.hid hL6;have HLF:=Lib.hid hLF;have aaM:=Lib.hid O7;have Xr:=Lib.hid SY;have O8:Hid (∀ b,rowOf lA b→b<w5.heap.size):=Lib.hid (fun b hb=>Own.NS hL hb);clear hB hL hL6 hLF O7 SY;repeat (any_goals (first | go_big_quiet_step (fail) | quiet_step (fail)))
 refine wpQuiet_nil ?_;go_wp2;go_ret2;have Xt:=(dY.out.trans iB.out (fun _ _ h=>h)).trans Xr.out (fun _ _ h=>h);have aaN:=iB.out.trans Xr.out (fun _ _ h=>h);have Xu:=HS2.out.trans Xt (fun _ _ h=>h);have z1:=aX.out.size;have z2:=HS2.out.size;have z3:=dY.out.size;have z4:=iB.out.size;have z5:=aaM.out.size;have S9:=U9.out.same Xt;have ha6:=HA.out.ag aaN (fun _ _=>id);have aaO:U.T≠U.sb:=by
  intro he;have h0:=S9.s 0 (by omega);rw[← he,S9.t.cell 0] at h0;cases h0
 have hap:=HA.out.apart;refine⟨w5.heap.size,⟨g,A,C,none,0,U,none,0,none,0,oA,oC,lA,lC,none,0⟩,rfl,⟨?_,ha6,S9,Own.nil _ _ _ _,Own.nil _ _ _ _,?_,?_,Own.nil _ _ _ _,?_⟩,aX.out.trans Xu (fun _ _ h=>h),?_⟩
 ·have:=HB.out
  simpa [cO,xK,um.out] using this
 ·have:=HO.out.ag Xu (fun _ _=>id)
  simpa [xK,um.out] using this
 ·have:=Xq.out
  simpa [xK,um.out] using this
 ·have hcl:∀ i b,KA.comp n w5.heap.size ⟨g,A,C,none,0,U,none,0,none,0,oA,oC,lA,lC,none,0⟩ i b→
    (i=0∧b=w5.heap.size)∨((i=1∨i=2)∧w2.heap.size≤b∧b<w3.heap.size)∨((i=4∨i=5∨i=6)∧w1.heap.size≤b∧b<w2.heap.size)∨(i=9∧w.heap.size≤b∧b<w1.heap.size)∨(i=10∧w4.heap.size≤b∧b<w5.heap.size):=by
   intro i b hb
   match i with
   | 0=>exact .inl ⟨rfl,hb⟩
   | 1 =>
    have hb':b=g:=hb
    have:=HA.out.blk.lt
    have:=HGL.out
    exact .inr (.inl ⟨.inl rfl,by omega,by omega⟩)
   | 2=>exact .inr (.inl ⟨.inr rfl,HAF.out b hb,Own.NS HA.out.own hb⟩)
   | 3=>obtain⟨_,hx,_⟩:=hb;cases hx
   | 4 =>
    have hb':b=U.T:=hb
    have:=U9.out.t.lt
    have:=SV.out
    exact .inr (.inr (.inl ⟨.inl rfl,by omega,by omega⟩))
   | 5 =>
    have hb':b=U.sb:=hb
    have:=U9.out.sl
    have:=Ij.out
    exact .inr (.inr (.inl ⟨.inr (.inl rfl),by omega,by omega⟩))
   | 6 =>
    obtain⟨v,hv,hb'⟩:=hb;replace hb':b=U.mb v:=hb';have h1:=xM.out v hv;have h2:=U9.out.ltm ⟨v,hv,rfl⟩;exact .inr (.inr (.inl ⟨.inr (.inr rfl),by omega,by omega⟩))
   | 7=>obtain⟨_,hx,_⟩:=hb;cases hx
   | 8=>obtain⟨_,hx,_⟩:=hb;cases hx
   | 9=>exact .inr (.inr (.inr (.inl ⟨rfl,HOF.out b hb,Own.NS HO.out hb⟩)))
   | 10 =>
    have h1:=HLF.out b hb;have h3:w4.drew.heap.size=w4.heap.size:=rfl;obtain⟨ad,had,hbb⟩:=hb;have h2:b<w5.heap.size:=by
     have:=O8.out
     exact this b ⟨ad,had,hbb⟩
    exact .inr (.inr (.inr (.inr ⟨rfl,by omega,h2⟩)))
   | 11=>obtain⟨_,hx,_⟩:=hb;cases hx
   | _+12=>exact hb.elim
  intro i j b hij hi hj;rcases hcl i b hi with h | h | h | h | h <;> rcases hcl j b hj with h' | h' | h' | h' | h' <;> (try omega)
  ·obtain⟨hi1,_⟩:=h;obtain⟨hj1,_⟩:=h';rcases hi1 with rfl | rfl <;> rcases hj1 with rfl | rfl
   ·exact absurd rfl hij
   ·exact absurd hi (hap.1 b hj).1
   ·exact absurd hj (hap.1 b hi).1
   ·exact absurd rfl hij
  ·obtain⟨hi1,_⟩:=h;obtain⟨hj1,_⟩:=h';have a1:∀ b,b=U.T→b=U.sb→False:=fun b e1 e2=>aaO (e1.symm.trans e2)
   have a2:∀ b,b=U.T→UB U n b→False:=fun b e1 ⟨v,hv,e2⟩=>(U9.out.nt v hv).1 (e2.symm.trans e1)
   have a3:∀ b,b=U.sb→UB U n b→False:=fun b e1 ⟨v,hv,e2⟩=>(U9.out.nt v hv).2 (e2.symm.trans e1)
   rcases hi1 with rfl | rfl | rfl <;> rcases hj1 with rfl | rfl | rfl
   ·exact absurd rfl hij
   ·exact a1 b hi hj
   ·exact a2 b hi hj
   ·exact a1 b hj hi
   ·exact absurd rfl hij
   ·exact a3 b hi hj
   ·exact a2 b hj hi
   ·exact a3 b hj hi
   ·exact absurd rfl hij
 ·rintro b ⟨i,hb⟩
  match i with
  | 0=>have hb':b=w5.heap.size:=hb;omega
  | 1=>have hb':b=g:=hb;have:=HGL.out;omega
  | 2=>have:=HAF.out b hb;omega
  | 3=>obtain⟨_,hx,_⟩:=hb;cases hx
  | 4=>have hb':b=U.T:=hb;have:=SV.out;omega
  | 5=>have hb':b=U.sb:=hb;have:=Ij.out;omega
  | 6=>obtain⟨v,hv,hb'⟩:=hb;replace hb':b=U.mb v:=hb';have h1:=xM.out v hv;omega
  | 7=>obtain⟨_,hx,_⟩:=hb;cases hx
  | 8=>obtain⟨_,hx,_⟩:=hb;cases hx
  | 9=>have:=HOF.out b hb;omega
  | 10=>have h1:=HLF.out b hb;have h3:w4.drew.heap.size=w4.heap.size:=rfl;omega
  | 11=>obtain⟨_,hx,_⟩:=hb;cases hx
  | _+12=>exact hb.elim
end
section
variable {k0 k:KS} {l x y:Nat} {ext:List Int} {X:List bN} {n:Nd}
theorem BM (h:XY k0 l x y) (K:KI k0) (k3:KS) (hl:k3.bH=k0.bH) (v:Int) (v0:0≤v) :
  bz (lW k3 l x y) v=if v=y then (l:Int) else if v=x then (l:Int)+1 else bz k0 v:=by
 obtain⟨xn,yn,lx,ly,xy,ix,iy⟩:=h.facts K;obtain⟨m,rfl⟩:=Int.eq_ofNat_of_zero_le v0;have hxl:x<k3.bH.length:=by rw[hl,K.lv.ll];exact xn
 have hyl:y<(k3.bH.set x ((l:Int)+1)).length:=by rw[List.length_set,hl,K.lv.ll];exact yn
 show((k3.bH.set ((x:Int).toNat) ((l:Int)+1)).set ((y:Int).toNat) (l:Int)).getD ((m:Int).toNat) 0=_;rw[Int.toNat_natCast,Int.toNat_natCast,Int.toNat_natCast,iI hyl,iI hxl,hl];unfold bz;rw[Int.toNat_natCast];by_cases h1:y=m
 ·rw[if_pos h1,if_pos (show(m:Int)=(y:Int) by omega)]
 ·rw[if_neg h1,if_neg (show ¬ (m:Int)=(y:Int) by omega)];by_cases h2:x=m
  ·rw[if_pos h2,if_pos (show(m:Int)=(x:Int) by omega)]
  ·rw[if_neg h2,if_neg (show ¬ (m:Int)=(x:Int) by omega)]
theorem O9 (h:XY k0 l x y) (K:KI k0) (k3:KS) (hs:iZ k3=iZ k0):Lv (lW k3 l x y):=by
 obtain⟨xn,yn,lx,ly,xy,ix,iy⟩:=h.facts K;have hn:k3.n=k0.n:=congrArg (fun t=>t.1) hs;have ho:k3.ord=k0.ord:=congrArg (fun t=>t.2.2.1) hs;have hl:k3.bH=k0.bH:=congrArg (fun t=>t.2.2.2.1) hs;have hol:=aY h.hy;have hlx:k0.bH[x]?=some (l:Int):=by
  obtain⟨m,h1,_,h3⟩:=K.lv.o2 l _ h.hx;obtain rfl:x=m:=by omega
  exact h3
 have Iy:k0.bH[y]?=some ((l+1:Nat):Int):=by
  obtain⟨m,h1,_,h3⟩:=K.lv.o2 (l+1) _ h.hy;obtain rfl:y=m:=by omega
  exact h3
 have hO:(lW k3 l x y).ord=(k0.ord.set l (y:Int)).set (l+1) (x:Int):=by show(k3.ord.set l (y:Int)).set (l+1) (x:Int)=_;rw[ho]
 have hL:(lW k3 l x y).bH=(k0.bH.set x ((l:Int)+1)).set y (l:Int):=by show(k3.bH.set _ _).set _ _=_;rw[hl,Int.toNat_natCast,Int.toNat_natCast]
 have hN:(lW k3 l x y).n=k0.n:=hn;have xl:x<k0.bH.length:=by rw[K.lv.ll];exact xn
 have yl:y<k0.bH.length:=by rw[K.lv.ll];exact yn
 have gO:∀ i:Nat,(lW k3 l x y).ord[i]?=if i=l+1 then some (x:Int) else if i=l then some (y:Int) else k0.ord[i]?:=by
  intro i;rw[hO,List.getElem?_set,List.length_set,List.getElem?_set];by_cases h1:l+1=i
  ·rw[if_pos h1,if_pos (by omega),if_pos h1.symm]
  ·rw[if_neg h1,if_neg (show ¬ i=l+1 by omega)];by_cases h2:l=i
   ·rw[if_pos h2,if_pos (by omega),if_pos h2.symm]
   ·rw[if_neg h2,if_neg (show ¬ i=l by omega)]
 have gL:∀ i:Nat,(lW k3 l x y).bH[i]?=if i=y then some (l:Int) else if i=x then some ((l:Int)+1) else k0.bH[i]?:=by
  intro i;rw[hL,List.getElem?_set,List.length_set,List.getElem?_set];by_cases h1:y=i
  ·rw[if_pos h1,if_pos (by omega),if_pos h1.symm]
  ·rw[if_neg h1,if_neg (show ¬ i=y by omega)];by_cases h2:x=i
   ·rw[if_pos h2,if_pos (by omega),if_pos h2.symm]
   ·rw[if_neg h2,if_neg (show ¬ i=x by omega)]
 refine⟨by rw[hO,hN,List.length_set,List.length_set];exact K.lv.ol,by rw[hL,hN,List.length_set,List.length_set];exact K.lv.ll,?_,?_⟩
 ·intro i v hv;rw[gO] at hv;rw[hN];split at hv
  ·rename_i h1;injection hv with hv
   exact⟨x,hv.symm,xn,by rw[gL,if_neg (by omega),if_pos rfl,h1];rfl⟩
  ·rename_i h1;split at hv
   ·rename_i h2;injection hv with hv
    exact⟨y,hv.symm,yn,by rw[gL,if_pos rfl,h2]⟩
   ·rename_i h2;obtain⟨m,e1,e2,e3⟩:=K.lv.o2 i v hv;refine⟨m,e1,e2,?_⟩;rw[gL,if_neg (fun he=>?_),if_neg (fun he=>?_)]
    ·exact e3
    ·rw[he,hlx] at e3;injection e3 with e3;omega
    ·rw[he,Iy] at e3;injection e3 with e3;omega
 ·intro m i hi;rw[gL] at hi;rw[hN];split at hi
  ·rename_i h1;injection hi with hi
   exact⟨l,hi.symm,by rw[← K.lv.ol];omega,by rw[gO,if_neg (by omega),if_pos rfl,h1]⟩
  ·rename_i h1;split at hi
   ·rename_i h2;injection hi with hi
    exact⟨l+1,by omega,by rw[← K.lv.ol];omega,by rw[gO,if_pos rfl,h2]⟩
   ·rename_i h2;obtain⟨j,e1,e2,e3⟩:=K.lv.l2 m i hi;refine⟨j,e1,e2,?_⟩;rw[gO,if_neg (fun he=>?_),if_neg (fun he=>?_)]
    ·exact e3
    ·rw[he,h.hx] at e3;injection e3 with e3;omega
    ·rw[he,h.hy] at e3;injection e3 with e3;omega
theorem Ta (h:XY k0 l x y) (K:KI k0) (t:T2 k0 x y (aB k0 x y) [] k) {k3:KS} (hs:iZ k3=iZ k0) (hsub:∀ p∈k3.L,p∈k.L):Ord (lW k3 l x y):=by
 obtain⟨xn,yn,lx,ly,xy,ix,iy⟩:=h.facts K;have hl:k3.bH=k0.bH:=congrArg (fun t=>t.2.2.2.1) hs;have happ:aB k0 x y++[]=aB k0 x y:=List.append_nil _;have hcs:=fun c (hc:c∈aB k0 x y)=>iL h K hc
 have hbase:=t.base;rw[happ] at hbase;have hb:=t.bk
 -- what stands at a ref that stood there before
 have old:∀ {m m':Nd} {q:Int},(m,q)∈k0.L→(m',q)∈k.L→(m'=m∧∀ c∈aB k0 x y,q≠c.r)∨(m.v=x∧m'.v=y):=by
  intro m m' q hm hm';by_cases hc:∃ c∈aB k0 x y,q=c.r
  ·obtain⟨c,hc1,rfl⟩:=hc;have hC:=hcs c hc1;have e:=K.uniq hm hC.mem;obtain⟨n',a1,a2,_,_⟩:=t.dn c hc1;have e2:=hb.uniq (List.mem_append_left _ hm') (List.mem_append_left _ a1);exact .inr ⟨by rw[e];exact hC.v,by rw[e2];exact a2⟩
  ·have:=hbase (m,q) hm (fun c hc1 he=>hc ⟨c,hc1,he⟩)
   have e2:=hb.uniq (List.mem_append_left _ hm') (List.mem_append_left _ this);exact .inl ⟨e2,fun c hc1 he=>hc ⟨c,hc1,he⟩⟩
 have key:∀ n r m q,(n,r)∈k.L→(m,q)∈k.L→(q=n.lo∨q=n.hi)→bz (lW k3 l x y) n.v<bz (lW k3 l x y) m.v:=by
  intro n r m q hn hm hq;have hm0:0≤m.v:=(hb.fo m q hm).1;have hn0:0≤n.v:=(hb.fo n r hn).1;rw[BM h K k3 hl _ hn0,BM h K k3 hl _ hm0];have uo:Low k0 l q→(l:Int)+1<(if m.v=y then (l:Int) else if m.v=x then (l:Int)+1 else bz k0 m.v):=by
   intro hlow;obtain⟨_,_,h3⟩:=jM h K hcs hb hbase hlow;obtain⟨h4,h5,h6⟩:=h3 m hm;rw[if_neg h6,if_neg h5];exact hlow.2.2 m h4
  rcases t.ZO _ hn with⟨h1,h2⟩ | ⟨c,hc,h1,h2⟩ | ⟨c,hc,h1,h2,h3,h4⟩
  ·rw[happ] at h2;simp only at h1 h2;by_cases hx:n.v=x
   ·rw[if_neg (by omega),if_pos hx];exact uo (LC h K h1 hx (fun c hc he=>h2 c hc he.symm) hq)
   ·by_cases hy:n.v=y
    ·rw[if_pos hy];have hlow:Low k0 l q:=by
      obtain⟨_,_,a,b,c',d,_⟩:=K.bk.fo n r h1;refine⟨by rcases hq with rfl | rfl <;> assumption,by rcases hq with rfl | rfl <;> assumption,fun m' hm'=>?_⟩;have hlt:bz k0 n.v<bz k0 m'.v:=by
       rcases hq with rfl | rfl
       ·exact K.ord.lo n r m' h1 hm'
       ·exact K.ord.hi n r m' h1 hm'
      rw[hy,ly] at hlt;exact hlt
     have:=uo hlow
     omega
    ·rw[if_neg hy,if_neg hx]
     -- another variable
     obtain⟨nv0,nv1,a,b,c',d,_⟩:=K.bk.fo n r h1;have q0:0≤q:=by rcases hq with rfl | rfl <;> assumption
     have qt:tk k0.ls q=true:=by rcases hq with rfl | rfl <;> assumption
     obtain⟨m',hm'⟩:∃ m',(m',q)∈k0.L:=by
      rcases(K.live q0).1 qt with e | e | e
      ·have:=(hb.jG (List.mem_append_left _ hm)).1;omega
      ·have:=(hb.jG (List.mem_append_left _ hm)).1;omega
      ·exact e
     have hlt:bz k0 n.v<bz k0 m'.v:=by
      rcases hq with rfl | rfl
      ·exact K.ord.lo n r m' h1 hm'
      ·exact K.ord.hi n r m' h1 hm'
     have hnl:bz k0 n.v≠l:=fun e=>hx (ix n.v nv0 nv1 e)
     rcases old hm' hm with⟨e,_⟩ | ⟨e1,e2⟩
     ·rw[e];split
      ·rename_i e3;rw[e3,ly] at hlt;omega
      ·split
       ·rename_i e3;rw[e3,lx] at hlt;omega
       ·exact hlt
     ·rw[if_pos e2];rw[e1,lx] at hlt;exact hlt
  ·simp only at h1 h2;have hv:n.v=x:=by rcases h1 with rfl | rfl <;> rfl
   rw[if_neg (by omega),if_pos hv];have hC:=hcs c hc;refine uo ?_;rcases h1 with rfl | rfl
   ·rcases hq with rfl | rfl
    ·exact hC.O3
    ·exact hC.l10
   ·rcases hq with rfl | rfl
    ·exact hC.A9
    ·exact hC.Xc
  ·simp only at h1 h2 h3 h4;rw[if_pos h2];have hC:=hcs c hc;have g:∀ a b,Low k0 l a→rF k.L ⟨x,a,b⟩ q→(l:Int)<(if m.v=y then (l:Int) else if m.v=x then (l:Int)+1 else bz k0 m.v):=by
    intro a b ha hg;unfold rF at hg;split at hg
    ·simp only at hg
     have:=uo (by rw[hg];exact ha)
     omega
    ·have e:=hb.uniq (List.mem_append_left _ hm) (List.mem_append_left _ hg);rw[e];show(l:Int)<(if (x:Int)=y then (l:Int) else if (x:Int)=x then (l:Int)+1 else bz k0 x);rw[if_neg (by omega),if_pos rfl];omega
   rcases hq with rfl | rfl
   ·exact g _ _ hC.O3 h3
   ·exact g _ _ hC.A9 h4
 exact⟨fun n r m hn hm=>key n r m _ (hsub _ hn) (hsub _ hm) (.inl rfl),fun n r m hn hm=>key n r m _ (hsub _ hn) (hsub _ hm) (.inr rfl)⟩
theorem Bk.swap (h:Bk k ext X) (l:Nat) (x y:Int):Bk (lW k l x y) ext X:=⟨h.n1,h.n64,h.c2,h.cM,h.l0,h.l1,h.mem,h.conv,h.kn,h.rn,h.Ea,h.fn,h.cnt,h.gK,h.lim,h.ul,h.Eb,h.fo,h.use,h.hol,h.Ap,h.bd⟩
theorem LQ (h:XY k0 l x y) (K:KI k0) (hR:qa k0 x y=true):KI (yx k0 l x y):=by
 have t:=Eu h K hR;have hp:=Ew h K t;have hb:=t.bk;rw[List.append_nil] at hb;have hb':Bk (dI (bD k0 (aB k0 x y)) x y (aB k0 x y)) (kids (aB k0 x y)++[]) []:=by rw[List.append_nil];exact hb
 obtain⟨a1,a2,a3,a4⟩:=qh _ _ _ hb' hp;have hs:iZ (gP (dI (bD k0 (aB k0 x y)) x y (aB k0 x y)) (aB k0 x y))=iZ k0:=(kJ _ _).trans t.same;exact⟨a1.swap _ _ _,O9 h K _ hs,a2,Ta h K t hs a3⟩
theorem BN (K:KI k) (h1:l+1<k.n):∃ x y,XY k l x y:=by
 obtain⟨x,a1,_,_⟩:=K.lv.o2 l _ (List.getElem?_eq_getElem (by rw[K.lv.ol];omega));obtain⟨y,b1,_,_⟩:=K.lv.o2 (l+1) _ (List.getElem?_eq_getElem (by rw[K.lv.ol];omega));exact⟨x,y,by rw[List.getElem?_eq_getElem (by rw[K.lv.ol];omega),a1],by rw[List.getElem?_eq_getElem (by rw[K.lv.ol];omega),b1]⟩
theorem Gn (K:KI k) (h1:l+1<k.n):KI (eO k l).2:=by
 obtain⟨x,y,h⟩:=BN K h1;unfold eO;have e1:k.ord.getD l 0=x:=by rw[List.getD_eq_getElem?_getD,h.hx];rfl
 have e2:k.ord.getD (l+1) 0=y:=by rw[List.getD_eq_getElem?_getD,h.hy];rfl
 rw[e1,e2];split
 ·rename_i hR;exact LQ h K hR
 ·exact K
theorem KI.tr (K:KI k) (t:List Int):KI { k with tr:=t }:=⟨K.bk.tr t,⟨K.lv.ol,K.lv.ll,K.lv.o2,K.lv.l2⟩,K.pos,⟨K.ord.lo,K.ord.hi⟩⟩
theorem Gp (K:KI k) (l:Int):KI (eX k l).2:=by
 unfold eX;split
 ·exact K
 ·rename_i h;have K':=Gn (l:=l.toNat) K (by omega);split
  ·exact K'.tr _
  ·exact K'
theorem LU {n c:Nat} (h1:1≤n) (h2:n≤64) (h3:2≤c) (h4:c≤1048576):KI (xK n c):=by
 have hr:∀ i:Nat,(qO n)[i]?=if i<n then some (i:Int) else none:=by
  intro i;unfold qO;rw[List.getElem?_map];by_cases h:i<n
  ·rw[if_pos h,List.getElem?_range h];rfl
  ·rw[if_neg h,List.getElem?_eq_none (by simp <;> omega)];rfl
 have Xv:∀ p,p∈(xK n c).L++[]→False:=fun p hp=>by simp[xK] at hp
 refine⟨⟨h1,h2,h3,h4,rfl,rfl,(fun _ _ hm=>(Xv _ hm).elim),?_,List.nodup_nil,List.nodup_nil,(fun _ hm=>absurd hm (List.not_mem_nil)),List.nodup_nil,rfl,rfl,?_,rfl,Nat.zero_le _,(fun _ _ hm=>absurd hm (List.not_mem_nil)),(fun _ _ hm=>(Xv _ hm).elim),?_,(fun _ hm=>absurd hm (List.not_mem_nil)),Nat.zero_le _⟩,⟨jd n,jd n,?_,?_⟩,(fun _ _ hm=>absurd hm (List.not_mem_nil)),⟨(fun _ _ _ hm=>absurd hm (List.not_mem_nil)),(fun _ _ _ hm=>absurd hm (List.not_mem_nil))⟩⟩
 ·intro m p h2 hp _
  have:m<2:=aY hp
  omega
 ·show 2≤c;exact h3
 ·intro m v hv;replace hv:([]:List Int)[m]?=some v:=hv;simp at hv
 ·intro l v hv;replace hv:(qO n)[l]?=some v:=hv;rw[hr] at hv;split at hv
  ·rename_i h;injection hv with hv
   exact⟨l,hv.symm,h,by show(qO n)[l]?=_;rw[hr,if_pos h]⟩
  ·cases hv
 ·intro l v hv;replace hv:(qO n)[l]?=some v:=hv;rw[hr] at hv;split at hv
  ·rename_i h;injection hv with hv
   exact⟨l,hv.symm,h,by show(qO n)[l]?=_;rw[hr,if_pos h]⟩
  ·cases hv
end
section
variable {k:KS} {ext:List Int} {X:List bN} {n:Nd}
theorem Lv.of_eq {k k':KS} (h:Lv k) (h1:k'.n=k.n) (h2:k'.ord=k.ord) (h3:k'.bH=k.bH):Lv k':=⟨by rw[h1,h2];exact h.ol,by rw[h1,h3];exact h.ll,by rw[h1,h2,h3];exact h.o2,by rw[h1,h2,h3];exact h.l2⟩
theorem Lv.Ez {k k':KS} (h:Lv k) (hs:iZ k'=iZ k):Lv k':=h.of_eq (congrArg (fun t=>t.1) hs) (congrArg (fun t=>t.2.2.1) hs) (congrArg (fun t=>t.2.2.2.1) hs)
theorem gT {k k':KS} (h:k'.bH=k.bH) (v:Int):bz k' v=bz k v:=by unfold bz;rw[h]
theorem Ord.sub {k k':KS} (h:Ord k) (hl:k'.bH=k.bH) (hs:∀ p∈k'.L,p∈k.L):Ord k' :=
 ⟨fun n r m a b=>by rw[gT hl,gT hl];exact h.lo n r m (hs _ a) (hs _ b),fun n r m a b=>by rw[gT hl,gT hl];exact h.hi n r m (hs _ a) (hs _ b)⟩
def LV (k:KS) (r:Int):Prop:=∀ n q,(n,q)∈k.L→q≠r→0<k.us.getD q.toNat 0
theorem Pos.but (h:Pos k) (r:Int):LV k r:=fun n q hq _=>h n q hq
theorem IX (k:KS) (r:Int) (m:Nat):k.us.getD m 0≤(bF k r).us.getD m 0:=by
 rw[List.getD_eq_getElem?_getD,List.getD_eq_getElem?_getD,nI];cases k.us[m]? with
 | none=>simp
 | some u =>
  simp only[Option.map_some,Option.getD_some];split <;> omega
theorem Gq {r:Int} (hb:Bk k [] []) (hl:Lv k) (ho:Ord k) (hp:LV k r) (hn:∃ n,(n,r)∈k.L) (h0:k.hs.getD r.toNat 0=0):KI (dD k r):=by
 obtain⟨n,hn⟩:=hn;have hm:=hb.jG (List.mem_append_left [] hn);have hr0:0≤r:=by omega
 have hcnt:=hb.cnt;have hcl:=hb.gK;have hli:=hb.lim;have UW:=hb.cM;simp only[List.append_nil] at hcnt;have h1:=Ec hb hr0 hm.2.2 (by simp only[List.length_nil];omega);have hL:=Et k r;have hH:=vN k r;have h2:=O1 h1 (n:=n) (by rw[hL];exact List.mem_append_left _ hn) (by rw[hH];exact h0);have e:dD k r={ bF k r with hs:=(bF k r).hs.set r.toNat 1 }:=by
  unfold dD;rw[if_pos h0,h0,hH];rfl
 rw[e];have hk:iZ { bF k r with hs:=(bF k r).hs.set r.toNat 1 }=iZ k:=gQ k r;refine⟨h2,hl.Ez hk,?_,ho.sub (congrArg (fun t=>t.2.2.2.1) hk) (fun p hp=>by have:p∈(bF k r).L:=hp;rwa [hL] at this)⟩;intro m q hq;replace hq:(m,q)∈k.L:=by have:(m,q)∈(bF k r).L:=hq;rwa [hL] at this
 show 0<(bF k r).us.getD q.toNat 0;by_cases QM:q=r
 ·subst QM;obtain⟨u,hu,_⟩:=hb.uX (List.mem_append_left [] hn);rw[List.getD_eq_getElem?_getD,nI,hu];simp only[Option.map_some,Option.getD_some];rw[if_pos ⟨by omega,by omega⟩];omega
 ·have:=hp m q hq QM
  have:=IX k r q.toNat
  omega
theorem Ra {h' r:Int} (K:KI k) (hb:Bk { k with hs:=k.hs.set r.toNat h' } [] []):KI { k with hs:=k.hs.set r.toNat h' } :=
 ⟨hb,K.lv.of_eq rfl rfl rfl,K.pos,K.ord.sub rfl (fun _ h=>h)⟩
theorem zK (K:KI k) {r:Int} (h0:0≤r):KI (aP k r).2:=by
 unfold aP;split
 ·exact K
 ·rename_i ht;split
  ·rename_i h1;obtain⟨n,hn⟩:∃ n,(n,r)∈k.L:=by
    rcases(K.live h0).1 (by simpa using ht) with h | h | h
    ·omega
    ·omega
    ·exact h
   split
   ·exact K
   ·rename_i h5;refine KI.tr ?_ _;by_cases hh:k.hs.getD r.toNat 0=0
    ·exact Gq K.bk K.lv K.ord (K.pos.but r) ⟨n,hn⟩ hh
    ·have e:dD k r={ k with hs:=k.hs.set r.toNat (k.hs.getD r.toNat 0+1) }:=by unfold dD;rw[if_neg hh]
     rw[e];have hv:0≤k.hs.getD r.toNat 0∧k.hs.getD r.toNat 0≤65535:=by
      rw[List.getD_eq_getElem?_getD];cases hx:k.hs[r.toNat]? with
      | none=>simp
      | some x=>exact⟨(K.bk.hol _ x hx).1,(K.bk.hol _ x hx).2.1⟩
     exact Ra K (Gc K.bk (List.mem_append_left [] hn) hh (by omega) (by omega))
  ·exact K.tr _
theorem lH (K:KI k) {r:Int} (h0:0≤r):KI (aD k r).2:=by
 unfold aD;split
 ·rename_i h1;split
  ·exact K
  ·rename_i hh;refine KI.tr ?_ _;obtain⟨n,hn⟩:=jL K.bk h0 hh;have hv:0≤k.hs.getD r.toNat 0∧k.hs.getD r.toNat 0≤65535:=by
    rw[List.getD_eq_getElem?_getD];cases hx:k.hs[r.toNat]? with
    | none=>simp
    | some x=>exact⟨(K.bk.hol _ x hx).1,(K.bk.hol _ x hx).2.1⟩
   unfold dO;split
   ·rename_i h1;have hcnt:=K.bk.cnt;have hcl:=K.bk.gK;have hli:=K.bk.lim;have UW:=K.bk.cM;simp only[List.append_nil] at hcnt;have hb:=rD K.bk hn hh (by simp only[List.length_nil];omega);obtain⟨a1,a2,a3,a4⟩:=qg hb K.pos;have hk:iZ (jh { k with hs:=k.hs.set r.toNat 0 } r)=iZ k:=iJ _ _ _;exact⟨a1,K.lv.Ez hk,a2,K.ord.sub (congrArg (fun t=>t.2.2.2.1) hk) a3⟩
   ·exact Ra K (Gc K.bk hn hh (by omega) (by omega))
 ·exact K.tr _
theorem LW (h:di k n=0) (hne:n.lo≠n.hi):bz k n.v<bn k n.lo∧bz k n.v<bn k n.hi:=by
 unfold di at h;split at h
 ·cases h
 ·split at h
  ·cases h
  ·split at h
   ·cases h
   ·rename_i h3
    have:¬ min (bn k n.lo) (bn k n.hi)≤bz k n.v:=fun hc=>h3 ⟨hne,hc⟩
    omega
theorem bG (K:KI k) {m:Nd} {q:Int} (hm:(m,q)∈k.L):bn k q=bz k m.v:=by
 unfold bn bz;rw[(K.mem' hm).2.1,if_pos (K.bk.fo m q hm).1]
theorem LX (K:KI k) (hn:jH k n) (hf:di k n=0) (hs:eP k n=none) (hc:k.ac+1≤k.c):KI (dD (aH k n) (au k)):=by
 obtain⟨hne,hnew⟩:=jy hs;have hb:=vO K.bk hn hs hc;have hL:=qf (k:=k) ⟨hn.v0,hn.v1⟩ hnew;have hk:=jw k n;obtain⟨r2,rf,_⟩:=eH K.bk;have LY:∀ m,(m,(au k:Int))∈k.L→False:=fun m hm=>by
  have:=(K.mem' hm).2.2
  rw[rf] at this;cases this
 have hin:(n,(au k:Int))∈(aH k n).L:=by rw[hL];simp
 refine Gq hb (K.lv.Ez hk) ?_ ?_ ⟨n,hin⟩ ?_
 ·have hlv:=congrArg (fun t=>t.2.2.2.1) hk;have hl:(aH k n).bH=k.bH:=hlv;obtain⟨f1,f2⟩:=LW hf hne;have key:∀ n' r m q,(n',r)∈(aH k n).L→(m,q)∈(aH k n).L→(q=n'.lo∨q=n'.hi)→bz k n'.v<bz k m.v:=by
   intro n' r m q h1 h2 hq;rw[hL] at h1 h2;have hq':tk k.ls q=true→(m,q)∈k.L:=by
    intro ht;rcases List.mem_append.1 h2 with h2 | h2
    ·exact h2
    ·simp at h2;rw[h2.2,rf] at ht;cases ht
   rcases List.mem_append.1 h1 with h1 | h1
   ·obtain⟨_,_,a,b,c,d,_⟩:=K.bk.fo n' r h1;rcases hq with rfl | rfl
    ·exact K.ord.lo n' r m h1 (hq' c)
    ·exact K.ord.hi n' r m h1 (hq' d)
   ·simp at h1;rw[h1.1] at hq ⊢;rcases hq with rfl | rfl
    ·rw[← bG K (hq' hn.l1)];exact f1
    ·rw[← bG K (hq' hn.h1)];exact f2
  exact⟨fun n' r m h1 h2=>by rw[gT hl,gT hl];exact key n' r m _ h1 h2 (.inl rfl),fun n' r m h1 h2=>by rw[gT hl,gT hl];exact key n' r m _ h1 h2 (.inr rfl)⟩
 ·intro m q hq QM;rw[hL] at hq;have hq':(m,q)∈k.L:=by
   rcases List.mem_append.1 hq with h | h
   ·exact h
   ·simp at h;exact absurd h.2 QM
  have hpos:=K.pos m q hq';obtain⟨i,e1,_,e3,_⟩:=K.bk.mem m q (List.mem_append_left [] hq');subst e1;rw[Int.toNat_natCast] at hpos ⊢;have hne':au k≠i:=by omega
  rw[List.getD_eq_getElem?_getD,Be,List.getElem?_set,if_neg hne',kH,if_pos e3,List.getElem?_eq_getElem e3];rw[List.getD_eq_getElem?_getD,List.getElem?_eq_getElem e3] at hpos;simp only[Option.map_some,Option.getD_some] at hpos ⊢;split <;> split <;> omega
 ·rw[Int.toNat_natCast,qd K.bk n];rw[List.getD_eq_getElem?_getD];cases hx:k.hs[au k]? with
  | none=>rfl
  | some x =>
   by_cases h0:x=0
   ·subst h0;rfl
   ·obtain⟨m,hm⟩:=(K.bk.hol _ x hx).2.2 h0;exact(LY m (by simpa using hm)).elim
theorem oZ (K:KI k) (hn:jH k n) (hs:eP k n=none) (hc:k.ac+1≤k.c):aP (aH k n) (au k)=(0,{ dD (aH k n) (au k) with tr:=[] }):=by
 have hb:=vO K.bk hn hs hc;obtain⟨_,hnew⟩:=jy hs;have hL:=qf (k:=k) ⟨hn.v0,hn.v1⟩ hnew;obtain⟨r2,rf,_⟩:=eH K.bk;have hin:(n,(au k:Int))∈(aH k n).L:=by rw[hL];simp
 have ht:=(hb.jG (List.mem_append_left [] hin)).2.2;have h0:(aH k n).hs.getD (au k:Int).toNat 0=0:=by
  rw[Int.toNat_natCast,qd K.bk n,List.getD_eq_getElem?_getD];cases hx:k.hs[au k]? with
  | none=>rfl
  | some x =>
   by_cases h0:x=0
   ·subst h0;rfl
   ·obtain⟨m,hm⟩:=(K.bk.hol _ x hx).2.2 h0
    have:=(K.mem' (r:=au k) (by simpa using hm)).2.2
    rw[rf] at this;cases this
 unfold aP;rw[if_neg (by rw[ht];simp),if_pos (by omega),if_neg (by rw[h0];omega)]
theorem qj (K:KI k) (l0:0≤n.lo) (h0:0≤n.hi):KI (ay k n).2.2:=by
 unfold ay;split
 ·rename_i hf;have hn:=jY hf l0 h0;cases hs:eP k n with
  | some r =>
   have:=yD K.bk hn hs
   have hk:=zK K this.1;show KI (bI k r).2.2;unfold bI;split
   ·exact hk
   ·exact hk
  | none =>
   show KI (if k.ac+1≤k.c then bI (aH k n) (au k) else (0,9,k)).2.2;split
   ·rename_i hc;unfold bI;rw[oZ K hn hs hc];rw[if_pos rfl];exact(LX K hn hf hs hc).tr _
   ·exact K
 ·exact K
theorem Pb (K:KI k) (h:∀ l,k.tr.getLast?=some l→0≤l∧l+1<k.n):KI (fK k).2.2:=by
 unfold fK;cases hl:k.tr.getLast? with
 | none=>exact K
 | some l =>
  have:=h l hl
  exact(Gn (l:=l.toNat) K (by omega)).tr _
end
inductive Ev (L:List bN) (p:Int→Bool):Int→Bool→Prop
 | c0:Ev L p 0 false
 | c1:Ev L p 1 true
 | nd {n:Nd} {r:Int} {b:Bool}:(n,r)∈L→Ev L p (if p n.v then n.hi else n.lo) b→Ev L p r b
theorem Ev.mono {L L':List bN} {p:Int→Bool} (h:∀ e∈L,e∈L') {r:Int} {b:Bool} (he:Ev L p r b):Ev L' p r b:=by
 induction he with
 | c0=>exact .c0
 | c1=>exact .c1
 | nd hm _ ih=>exact .nd (h _ hm) ih
noncomputable def sem (L:List bN) (r:Int) (p:Int→Bool):Bool:=by classical exact decide (Ev L p r true)
section
variable {k k':KS} {n m:Nd} {r q s:Int} {p p':Int→Bool} {b b':Bool} {l:Nat}
theorem Pf (K:KI k) (h:(n,r)∈k.L):Ev k.L p r b↔Ev k.L p (if p n.v then n.hi else n.lo) b:=by
 refine⟨fun he=>?_,fun he=>.nd h he⟩;have h2:=(K.mem' h).1;cases he with
 | c0=>omega
 | c1=>omega
 | nd hm he =>
  rw[K.uniq h hm];exact he
theorem Xw (K:KI k):Ev k.L p 0 b↔b=false:=by
 constructor
 ·intro h;cases h with
  | c0=>rfl
  | nd hm _=>have:=(K.mem' hm).1;omega
 ·rintro rfl;exact .c0
theorem Xx (K:KI k):Ev k.L p 1 b↔b=true:=by
 constructor
 ·intro h;cases h with
  | c1=>rfl
  | nd hm _=>have:=(K.mem' hm).1;omega
 ·rintro rfl;exact .c1
theorem LZ (K:KI k) (h:Ev k.L p r b):∀ {b'},Ev k.L p r b'→b=b':=by
 induction h with
 | c0=>intro b' h;exact((Xw K).1 h).symm
 | c1=>intro b' h;exact((Xx K).1 h).symm
 | nd hm _ ih=>intro b' h;exact ih ((Pf K hm).1 h)
structure Lf (k:KS) (r:Int):Prop where
 h0:0≤r
 h1:tk k.ls r=true
theorem Lf.zero (K:KI k):Lf k 0:=⟨by decide,(K.live (by decide)).2 (.inl rfl)⟩
theorem Lf.one (K:KI k):Lf k 1:=⟨by decide,(K.live (by decide)).2 (.inr (.inl rfl))⟩
theorem Lf.of (K:KI k) (h:(n,r)∈k.L):Lf k r:=⟨by have:=(K.mem' h).1;omega,(K.mem' h).2.2⟩
theorem Lf.lo (K:KI k) (h:(n,r)∈k.L):Lf k n.lo:=let c:=K.bk.fo n r h;⟨c.2.2.1,c.2.2.2.2.1⟩
theorem Lf.hi (K:KI k) (h:(n,r)∈k.L):Lf k n.hi:=let c:=K.bk.fo n r h;⟨c.2.2.2.1,c.2.2.2.2.2.1⟩
theorem Lf.kid (K:KI k) (h:(n,r)∈k.L):Lf k (if b then n.hi else n.lo):=by
 cases b with
 | false=>exact Lf.lo K h
 | true=>exact Lf.hi K h
theorem Lf.cases (K:KI k) (h:Lf k r):r=0∨r=1∨∃ n,(n,r)∈k.L:=(K.live h.h0).1 h.h1
theorem dJ (K:KI k) (h:r=0∨r=1):bn k r=k.n:=by
 unfold bn;rw[if_neg (by rw[K.const h] <;> decide)]
theorem eT (K:KI k) (h:Lf k r):∃ d:Nat,bn k r=d∧d≤k.n∧(d<k.n↔∃ n,(n,r)∈k.L):=by
 rcases h.cases K with h1 | h1 | ⟨n,hn⟩
 ·refine⟨k.n,dJ K (.inl h1),Nat.le_refl _,⟨fun h=>absurd h (Nat.lt_irrefl _),fun ⟨n,hn⟩=>?_⟩⟩
  have:=(K.mem' hn).1;omega
 ·refine⟨k.n,dJ K (.inr h1),Nat.le_refl _,⟨fun h=>absurd h (Nat.lt_irrefl _),fun ⟨n,hn⟩=>?_⟩⟩
  have:=(K.mem' hn).1;omega
 ·obtain⟨c0,c1,_⟩:=K.bk.fo n r hn;obtain⟨i,e1,e2,_⟩:=K.lv.dM c0 c1;exact⟨i,by rw[bG K hn,e1],Nat.le_of_lt e2,⟨fun _=>⟨n,hn⟩,fun _=>e2⟩⟩
theorem bJ (K:KI k) (h:(n,r)∈k.L) (hq:q=n.lo∨q=n.hi):bz k n.v<bn k q:=by
 obtain⟨c0,c1,_⟩:=K.bk.fo n r h;obtain⟨i,e1,e2,_⟩:=K.lv.dM c0 c1;have hl:Lf k q:=by rcases hq with rfl | rfl;exact Lf.lo K h;exact Lf.hi K h
 rcases hl.cases K with h1 | h1 | ⟨m,hm⟩
 ·rw[dJ K (.inl h1),e1];omega
 ·rw[dJ K (.inr h1),e1];omega
 ·rw[bG K hm];rcases hq with rfl | rfl
  ·exact K.ord.lo n r m h hm
  ·exact K.ord.hi n r m h hm
theorem EA (K:KI k) (h:(n,r)∈k.L):bz k n.v<bn k (if b then n.hi else n.lo):=by
 cases b with
 | false=>exact bJ K h (.inl rfl)
 | true=>exact bJ K h (.inr rfl)
theorem BO (K:KI k) {P:Int→Prop} (h0:P 0) (h1:P 1) (hn:∀ n r,(n,r)∈k.L→P n.lo→P n.hi→P r):∀ {r},Lf k r→P r:=by
 have key:∀ f r,Lf k r→(k.n:Int)-bn k r≤(f:Nat)→P r:=by
  intro f
  induction f with
  | zero =>
   intro r hl hf;rcases hl.cases K with rfl | rfl | ⟨n,hn'⟩
   ·exact h0
   ·exact h1
   ·obtain⟨d,e1,_,e3⟩:=eT K hl
    have:=e3.2 ⟨n,hn'⟩
    omega
  | succ f ih =>
   intro r hl hf;rcases hl.cases K with rfl | rfl | ⟨n,hn'⟩
   ·exact h0
   ·exact h1
   ·rw[bG K hn'] at hf;have a:=bJ K hn' (.inl rfl);have b:=bJ K hn' (.inr rfl);exact hn n r hn' (ih _ (Lf.lo K hn') (by omega)) (ih _ (Lf.hi K hn') (by omega))
 intro r hl;obtain⟨d,e1,_⟩:=eT K hl;exact key k.n r hl (by omega)
theorem L6 (K:KI k) (hl:Lf k r):∃ b,Ev k.L p r b:=by
 refine BO K (P:=fun r=>∃ b,Ev k.L p r b) ⟨_,.c0⟩ ⟨_,.c1⟩ ?_ hl;rintro n r hn ⟨b1,h1⟩ ⟨b2,h2⟩;cases hp:p n.v with
 | false=>exact⟨b1,.nd hn (by rw[hp];exact h1)⟩
 | true=>exact⟨b2,.nd hn (by rw[hp];exact h2)⟩
theorem qm (K:KI k) (hl:Lf k r):Ev k.L p r b↔sem k.L r p=b:=by
 obtain⟨c,hc⟩:=L6 (p:=p) K hl;have hs:sem k.L r p=c:=by
  unfold sem;cases c with
  | true=>simpa using hc
  | false =>
   have:¬ Ev k.L p r true:=fun h=>by cases LZ K hc h
   simpa using this
 rw[hs];exact⟨fun h=>LZ K hc h,fun h=>h ▸ hc⟩
theorem EB (K:KI k) (hl:Lf k r):Ev k.L p r (sem k.L r p):=(qm K hl).2 rfl
theorem ja (K:KI k):sem k.L 0 p=false:=(qm K (Lf.zero K)).1 .c0
theorem oG (K:KI k):sem k.L 1 p=true:=(qm K (Lf.one K)).1 .c1
theorem iM (K:KI k) (h:(n,r)∈k.L):sem k.L r p=if p n.v then sem k.L n.hi p else sem k.L n.lo p:=by
 refine(qm K (Lf.of K h)).1 (.nd h ?_);cases hp:p n.v with
 | false=>exact EB K (Lf.lo K h)
 | true=>exact EB K (Lf.hi K h)
theorem Gr (K:KI k) (hl:Lf k r) (ha:∀ v:Int,0≤v→v<k.n→bn k r≤bz k v→p v=p' v):sem k.L r p=sem k.L r p':=by
 revert ha
 refine BO K (P:=fun r=>(∀ v:Int,0≤v→v<k.n→bn k r≤bz k v→p v=p' v)→sem k.L r p=sem k.L r p') ?_ ?_ ?_ hl
 ·intro _;rw[ja K,ja K]
 ·intro _;rw[oG K,oG K]
 ·intro n r hn i1 i2 ha;obtain⟨c0,c1,_⟩:=K.bk.fo n r hn;have hd:=bG K hn;have e:=ha n.v c0 c1 (by rw[hd];exact Int.le_refl _);have kl:=bJ K hn (.inl rfl);have kh:=bJ K hn (.inr rfl);rw[iM K hn,iM K hn,e,i1 (fun v v0 v1 hv=>ha v v0 v1 (by rw[hd];omega)),i2 (fun v v0 v1 hv=>ha v v0 v1 (by rw[hd];omega))]
def upd (p:Int→Bool) (v:Int) (b:Bool):Int→Bool:=fun u=>if u=v then b else p u
theorem upd_same (p:Int→Bool) (v:Int) (b:Bool):upd p v b v=b:=if_pos rfl
theorem IY {p:Int→Bool} {u v:Int} {b:Bool} (h:u≠v):upd p v b u=p u:=if_neg h
theorem jk (K:KI k) (hl:Lf k r) {v:Int} (hv:0≤v→v<k.n→bz k v<bn k r):sem k.L r (upd p v b)=sem k.L r p:=by
 refine Gr K hl (fun u u0 u1 hu=>?_);by_cases h:u=v
 ·subst h
  have:=hv u0 u1
  omega
 ·exact IY h
theorem rM (K:KI k) (h:(n,r)∈k.L):sem k.L n.hi p=sem k.L r (upd p n.v true):=by
 rw[iM K h,upd_same,if_pos rfl,jk K (Lf.hi K h) (fun _ _=>bJ K h (.inr rfl))]
theorem rO (K:KI k) (h:(n,r)∈k.L):sem k.L n.lo p=sem k.L r (upd p n.v false):=by
 rw[iM K h,upd_same,if_neg (by decide),jk K (Lf.lo K h) (fun _ _=>bJ K h (.inl rfl))]
theorem Nd.ext {n m:Nd} (h1:n.v=m.v) (h2:n.lo=m.lo) (h3:n.hi=m.hi):n=m:=by
 cases n;cases m;simp_all
theorem L8 (K:KI k) (h1:(n,r)∈k.L) (h2:(m,q)∈k.L) (hv:n.v=m.v) (hl:n.lo=m.lo) (hh:n.hi=m.hi):r=q :=
 fI K.bk.kn h1 (by rw[Nd.ext hv hl hh];exact h2)
theorem zL (K:KI k) {u v:Int} (u0:0≤u) (u1:u<k.n) (v0:0≤v) (v1:v<k.n) (h:bz k u=bz k v):u=v:=by
 obtain⟨i,a1,_,a3⟩:=K.lv.dM u0 u1;obtain⟨j,b1,_,b3⟩:=K.lv.dM v0 v1;obtain rfl:i=j:=by omega
 rw[a3] at b3;injection b3
theorem canon (K:KI k):∀ {r q},Lf k r→Lf k q→(∀ p,sem k.L r p=sem k.L q p)→r=q:=by
 have key:∀ f r q,Lf k r→Lf k q→(k.n:Int)-bn k r≤(f:Nat)→(k.n:Int)-bn k q≤(f:Nat)→(∀ p,sem k.L r p=sem k.L q p)→r=q:=by
  intro f
  induction f with
  | zero =>
   intro r q hr hq f1 f2 hs;have cr:r=0∨r=1:=by
    rcases hr.cases K with h | h | h
    ·exact .inl h
    ·exact .inr h
    ·obtain⟨d,e1,_,e3⟩:=eT K hr
     have:=e3.2 h
     omega
   have cq:q=0∨q=1:=by
    rcases hq.cases K with h | h | h
    ·exact .inl h
    ·exact .inr h
    ·obtain⟨d,e1,_,e3⟩:=eT K hq
     have:=e3.2 h
     omega
   have h:=hs (fun _=>true);rcases cr with rfl | rfl <;> rcases cq with rfl | rfl
   ·rfl
   ·rw[ja K,oG K] at h;cases h
   ·rw[ja K,oG K] at h;cases h
   ·rfl
  | succ f ih =>
   -- a node is not like what lies deeper
   have one:∀ n r q,(n,r)∈k.L→Lf k q→(k.n:Int)-bz k n.v≤(f+1:Nat)→bz k n.v<bn k q→(∀ p,sem k.L r p=sem k.L q p)→False:=by
    intro n r q hn hq hf hlt hs;have hd:=(K.bk.fo n r hn).2.2.2.2.2.2;refine hd (ih _ _ (Lf.lo K hn) (Lf.hi K hn) ?_ ?_ (fun p=>?_))
    ·have:=bJ K hn (.inl rfl);omega
    ·have:=bJ K hn (.inr rfl);omega
    ·rw[rO K hn,rM K hn,hs,hs,jk K hq (fun _ _=>hlt),jk K hq (fun _ _=>hlt)]
   intro r q hr hq f1 f2 hs;rcases hr.cases K with h | h | ⟨n,hn⟩
   ·rcases hq.cases K with g | g | ⟨m,hm⟩
    ·rw[h,g]
    ·have:=hs (fun _=>true)
     rw[h,g,ja K,oG K] at this;cases this
    ·exfalso;rw[bG K hm] at f2;refine one m q r hm hr f2 ?_ (fun p=>(hs p).symm);rw[dJ K (.inl h)];obtain⟨c0,c1,_⟩:=K.bk.fo m q hm;obtain⟨i,e1,e2,_⟩:=K.lv.dM c0 c1;omega
   ·rcases hq.cases K with g | g | ⟨m,hm⟩
    ·have:=hs (fun _=>true)
     rw[h,g,ja K,oG K] at this;cases this
    ·rw[h,g]
    ·exfalso;rw[bG K hm] at f2;refine one m q r hm hr f2 ?_ (fun p=>(hs p).symm);rw[dJ K (.inr h)];obtain⟨c0,c1,_⟩:=K.bk.fo m q hm;obtain⟨i,e1,e2,_⟩:=K.lv.dM c0 c1;omega
   ·have dn:=bG K hn;rw[dn] at f1;by_cases h1:bz k n.v<bn k q
    ·exact(one n r q hn hq f1 h1 hs).elim
    ·rcases hq.cases K with g | g | ⟨m,hm⟩
     ·exfalso;rw[dJ K (.inl g)] at h1;obtain⟨c0,c1,_⟩:=K.bk.fo n r hn;obtain⟨i,e1,e2,_⟩:=K.lv.dM c0 c1;omega
     ·exfalso;rw[dJ K (.inr g)] at h1;obtain⟨c0,c1,_⟩:=K.bk.fo n r hn;obtain⟨i,e1,e2,_⟩:=K.lv.dM c0 c1;omega
     ·have dm:=bG K hm;rw[dm] at f2 h1;by_cases h2:bz k m.v<bz k n.v
      ·exact(one m q r hm hr f2 (by rw[dn];exact h2) (fun p=>(hs p).symm)).elim
      ·obtain⟨c0,c1,_⟩:=K.bk.fo n r hn;obtain⟨d0,d1,_⟩:=K.bk.fo m q hm;have hv:n.v=m.v:=zL K c0 c1 d0 d1 (by omega);refine L8 K hn hm hv (ih _ _ (Lf.lo K hn) (Lf.lo K hm) ?_ ?_ (fun p=>?_)) (ih _ _ (Lf.hi K hn) (Lf.hi K hm) ?_ ?_ (fun p=>?_))
       ·have:=bJ K hn (.inl rfl);omega
       ·have:=bJ K hm (.inl rfl);omega
       ·rw[rO K hn,rO K hm,hs,hv]
       ·have:=bJ K hn (.inr rfl);omega
       ·have:=bJ K hm (.inr rfl);omega
       ·rw[rM K hn,rM K hm,hs,hv]
 intro r q hr hq hs;obtain⟨d,e1,_⟩:=eT K hr;obtain⟨d',e1',_⟩:=eT K hq;exact key k.n r q hr hq (by omega) (by omega) hs
theorem BP (K:KI k) (h:(n,r)∈k.L):∃ p,sem k.L r (upd p n.v false)≠sem k.L r (upd p n.v true):=by
 refine Classical.byContradiction (fun hno=>(K.bk.fo n r h).2.2.2.2.2.2 (canon K (Lf.lo K h) (Lf.hi K h) (fun p=>?_)));rw[rO K h,rM K h];exact Classical.byContradiction (fun h2=>hno ⟨p,h2⟩)
theorem zM (K:KI k) (K':KI k') (hs:∀ e∈k'.L,e∈k.L) (h:Lf k r) (h':Lf k' r):sem k'.L r p=sem k.L r p :=
 (((qm K h).1 ((EB K' h').mono hs))).symm
end
end Go.Proofs.YtiomgckodmecbaaGreat
