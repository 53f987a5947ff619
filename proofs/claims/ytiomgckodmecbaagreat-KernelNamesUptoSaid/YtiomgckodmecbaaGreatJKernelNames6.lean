/- Contracts and plain laws, put together in one file. No condition. -/
import Derived.Test.YtiomgckodmecbaaGreatJKernelNames5
import Derived.Test.YtiomgckodmecbaaGreatProg
import Derived.KernelRfl
import Derived.BigRegion

set_option maxRecDepth 100000
set_option maxHeartbeats 32000000
namespace Go.Proofs.YtiomgckodmecbaaGreat
open Go.RowKit Go.Tk
theorem gK {α:Type} [DecidableEq α]:∀ {l m:List α},l.Nodup→(∀ a∈l,a∈m)→l.length≤m.length
 | [],_,_,_=>Nat.zero_le _
 | a::l,m,hn,hs=>by
  rw[List.nodup_cons] at hn;have ha:=hs a (List.mem_cons_self ..)
  have h1:=gK (l:=l) (m:=m.erase a) hn.2 (fun b hb=>by
   have hne:b≠a:=fun h=>hn.1 (h ▸ hb)
   exact(List.mem_erase_of_ne hne).2 (hs b (List.mem_cons_of_mem _ hb)))
  have h2:=List.length_erase_of_mem ha;have h3:0<m.length:=List.length_pos_of_mem ha;simp only[List.length_cons];omega
def Uy (L:List bP) (l:List Nd) (n:Nd):List Nd:=if look L n=none∧n.lo≠n.hi then (if n∈l then l else l++[n]) else l
def news (L:List bP) (bQ:List Nd):List Nd:=bQ.foldl (Uy L) []
theorem kr (k:KS) (x:Int) (cs:List gI):bI k x cs=news k.L (cs.flatMap (dP x)):=rfl
theorem wU (L:List bP):∀ (bQ s:List Nd),s.Nodup→(bQ.foldl (Uy L) s).Nodup∧∀ n,n∈bQ.foldl (Uy L) s↔n∈s∨(n∈bQ∧look L n=none∧n.lo≠n.hi)
 | [],s,hs=>⟨hs,fun n=>by simp⟩
 | c::bQ,s,hs=>by
  have hs':(Uy L s c).Nodup∧∀ n,n∈Uy L s c↔n∈s∨(n=c∧look L n=none∧n.lo≠n.hi):=by
   unfold Uy;split
   ·rename_i h;split
    ·rename_i hm;refine⟨hs,fun n=>⟨.inl,fun hh=>hh.elim id (fun h1=>by rw[h1.1];exact hm)⟩⟩
    ·rename_i hm;refine⟨?_,fun n=>?_⟩
     ·rw[List.nodup_append];exact⟨hs,by simp,by rintro a ha b hb rfl;simp at hb;subst hb;exact hm ha⟩
     ·rw[List.mem_append,List.mem_singleton];constructor
      ·rintro(h1 | h1)
       ·exact .inl h1
       ·exact .inr ⟨h1,by rw[h1];exact h⟩
      ·rintro(h1 | h1)
       ·exact .inl h1
       ·exact .inr h1.1
   ·rename_i h;refine⟨hs,fun n=>⟨.inl,fun hh=>hh.elim id (fun h1=>?_)⟩⟩;rw[h1.1] at h1;exact absurd h1.2 h
  obtain⟨h1,h2⟩:=wU L bQ (Uy L s c) hs'.1;refine⟨h1,fun n=>?_⟩;rw[List.foldl_cons,h2,hs'.2];constructor
  ·rintro((h | h) | h)
   ·exact .inl h
   ·exact .inr ⟨by rw[h.1];exact List.mem_cons_self ..,h.2⟩
   ·exact .inr ⟨List.mem_cons_of_mem _ h.1,h.2⟩
  ·rintro(h | h)
   ·exact .inl (.inl h)
   ·rcases List.mem_cons.1 h.1 with h3 | h3
    ·exact .inl (.inr ⟨h3,h.2⟩)
    ·exact .inr ⟨h3,h.2⟩
theorem gq {L:List bP} {bQ:List Nd} {n:Nd}:n∈news L bQ↔n∈bQ∧look L n=none∧n.lo≠n.hi:=by
 unfold news;rw[(wU L bQ [] List.nodup_nil).2];simp
theorem mg (L:List bP) (bQ:List Nd):(news L bQ).Nodup:=(wU L bQ [] List.nodup_nil).1
theorem CZ {L L':List bP} (h:∀ p∈L,p∈L') {n:Nd} (hn:look L' n=none):look L n=none:=by
 rw[cB] at hn ⊢;intro hm;obtain⟨r,hr⟩:=mem_keys.1 hm;exact hn (mem_keys.2 ⟨r,h _ hr⟩)
theorem sO {L L':List bP} {bQ wV:List Nd} (h:∀ p∈L,p∈L') (hc:∀ n∈wV,n∈bQ):(news L' wV).length≤(news L bQ).length:=by
 refine gK (mg _ _) (fun n hn=>?_);rw[gq] at hn ⊢;exact⟨hc n hn.1,CZ h hn.2.1,hn.2.2⟩
theorem JB {L:List bP} {bQ:List Nd} {n:Nd} {r:Int} (hl:look L n=none) (hne:n.lo≠n.hi):(news (L++[(n,r)]) bQ).length+1≤(news L (n::bQ)).length:=by
 have h1:(n::news (L++[(n,r)]) bQ).length≤(news L (n::bQ)).length:=by
  refine gK ?_ (fun m hm=>?_)
  ·rw[List.nodup_cons];refine⟨fun hm=>?_,mg _ _⟩
   have:=(gq.1 hm).2.1
   rw[cB] at this;exact this (mem_keys.2 ⟨r,by simp⟩)
  ·rcases List.mem_cons.1 hm with rfl | hm
   ·exact gq.2 ⟨List.mem_cons_self ..,hl,hne⟩
   ·obtain⟨a,b,c⟩:=gq.1 hm;exact gq.2 ⟨List.mem_cons_of_mem _ a,CZ (fun p hp=>List.mem_append_left _ hp) b,c⟩
 simpa using h1
theorem C9 {L:List bP} {bQ:List Nd} {n:Nd} (hm:n∈bQ) (hl:look L n=none) (hne:n.lo≠n.hi):0<(news L bQ).length :=
 List.length_pos_of_mem (gq.2 ⟨hm,hl,hne⟩)
section
variable {k:KS} {ext:List Int} {X:List bP} {n:Nd}
theorem JC {n0:Nd} {r:Int} (h:Bk k (n.hi::n.lo::ext) ((n0,r)::X)) (hn:jO k n) (hne:n.lo≠n.hi) (hnew:n∉keys k.L) (hb:ext.length+k.L.length+1≤8000000):Bk (qH (o5 k r n) n r) ext X:=by
 have Yp:(k.L++(n0,r)::X).Perm ((n0,r)::(k.L++X)):=List.perm_middle;have hr0:(n0,r)∈k.L++(n0,r)::X:=by simp
 obtain⟨m,rfl,m2,mu,ml⟩:=h.mem _ _ hr0;have hlt:=aQ ml;have hL:(qH (o5 k (m:Int) n) n (m:Int)).L=k.L++[(n,(m:Int))]:=qI ⟨hn.v0,hn.v1⟩ hnew;have hls:∀ i:Nat,(qH (o5 k (m:Int) n) n (m:Int)).ls[i]?=if i=m then some ⟨n,true,0⟩ else k.ls[i]?:=by
  intro i;show(k.ls.set (m:Int).toNat ⟨n,true,0⟩)[i]?=_;rw[Int.toNat_natCast,List.getElem?_set];by_cases hi:m=i
  ·subst hi;rw[if_pos rfl,if_pos hlt,if_pos rfl]
  ·rw[if_neg hi,if_neg (fun h=>hi h.symm)]
 have hll:(qH (o5 k (m:Int) n) n (m:Int)).ls.length=k.ls.length:=by show(k.ls.set _ _).length=_;rw[List.length_set]
 have hP:((qH (o5 k (m:Int) n) n (m:Int)).L++X).Perm ((n,(m:Int))::(k.L++X)):=by
  rw[hL,List.append_assoc,List.singleton_append];exact List.perm_middle
 have hmem:∀ p,p∈(qH (o5 k (m:Int) n) n (m:Int)).L++X↔p=(n,(m:Int))∨p∈k.L++X:=fun p=>by rw[hP.mem_iff,List.mem_cons]
 have Hf:∀ p,p∈k.L++(n0,(m:Int))::X↔p=(n0,(m:Int))∨p∈k.L++X:=fun p=>by rw[Yp.mem_iff,List.mem_cons]
 have hrn:=(Yp.map (·.2)).nodup_iff.1 h.rn;rw[List.map_cons,List.nodup_cons] at hrn;have hnq:∀ n' q,(n',q)∈k.L++X→q≠m:=by
  rintro n' q hq rfl;exact hrn.1 (List.mem_map_of_mem (f:=(·.2)) hq)
 have htk:∀ q:Int,0≤q→tk (qH (o5 k (m:Int) n) n (m:Int)).ls q=tk k.ls q:=by
  intro q hq;obtain⟨i,rfl⟩:=Int.eq_ofNat_of_zero_le hq;unfold tk;rw[Int.toNat_natCast,hls];by_cases him:i=m
  ·subst him;rw[if_pos rfl,ml]
  ·rw[if_neg him]
 have hcnt:=h.cnt;rw[Yp.length_eq,List.length_cons] at hcnt;refine⟨h.n1,h.n64,h.c2,h.cM,by rw[hls,if_neg (by omega)];exact h.l0,by rw[hls,if_neg (by omega)];exact h.l1,?_,?_,?_,?_,?_,h.fn,?_,by rw[hll];exact h.iG,by rw[hll];exact h.lim,h.ul,by rw[hll];exact h.E8,?_,?_,?_,?_,?_⟩
 ·intro n' q hq;rcases(hmem _).1 hq with he | hq
  ·injection he with e1 e2
   subst e1 e2;exact⟨m,rfl,m2,mu,by rw[hls,if_pos rfl]⟩
  ·obtain⟨i,rfl,i2,iu,il⟩:=h.mem n' q ((Hf _).2 (.inr hq))
   have:=hnq _ _ hq
   exact⟨i,rfl,i2,iu,by rw[hls,if_neg (by omega)];exact il⟩
 ·intro i p i2 hp ht;rw[hls] at hp;by_cases him:i=m
  ·subst him;rw[if_pos rfl] at hp;injection hp with hp
   subst hp;exact(hmem _).2 (.inl rfl)
  ·rw[if_neg him] at hp;rcases(Hf _).1 (h.conv i p i2 hp ht) with h1 | h1
   ·injection h1 with _ h2;omega
   ·exact(hmem _).2 (.inr h1)
 ·rw[hL];unfold keys at hnew ⊢;rw[List.map_append,List.nodup_append];refine⟨h.kn,by simp,?_⟩;intro a ha b hb hab;simp at hb;subst hb hab;exact hnew ha
 ·rw[(hP.map _).nodup_iff,List.map_cons,List.nodup_cons];refine⟨?_,hrn.2⟩;intro hm;obtain⟨⟨n',q⟩,hq,he⟩:=List.mem_map.1 hm;exact hnq _ _ hq he
 ·intro q hq;obtain⟨i,rfl,i2,p,hp,hpt⟩:=h.E5 q hq
  have:i≠m:=by
   rintro rfl;rw[ml] at hp;injection hp with hp
   rw[← hp] at hpt;cases hpt
  exact⟨i,rfl,i2,p,by rw[hls,if_neg this];exact hp,hpt⟩
 ·rw[hP.length_eq,List.length_cons];exact hcnt
 ·rw[hL];intro n' q hq;rcases List.mem_append.1 hq with hq | hq
  ·obtain⟨a,b,c,d,e,f,g⟩:=h.eZ n' q hq;exact⟨a,b,c,d,by rw[htk _ c];exact e,by rw[htk _ d];exact f,g⟩
  ·simp at hq;obtain⟨rfl,_⟩:=hq;exact⟨hn.v0,hn.v1,hn.l0,hn.h0,by rw[htk _ hn.l0];exact hn.l1,by rw[htk _ hn.h0];exact hn.h1,hne⟩
 ·intro n' q hq;have hu:k.us[q.toNat]?=some ((par k.L q+(if k.hs.getD q.toNat 0=0 then 0 else 1)+(n.hi::n.lo::ext).count q:Nat):Int):=by
   rcases(hmem _).1 hq with he | hq
   ·injection he with _ e2
    rw[e2];exact h.use n0 _ hr0
   ·exact h.use n' q ((Hf _).2 (.inr hq))
  show k.us[q.toNat]?=_;rw[hu,hL,wF,jN,uU];congr 1;rw[List.count_cons,List.count_cons];show((_+(if k.hs.getD q.toNat 0=0 then 0 else 1)+_:Nat):Int)=((_+(if k.hs.getD q.toNat 0=0 then 0 else 1)+_:Nat):Int);simp only[beq_iff_eq];omega
 ·intro i v hv;obtain⟨a,b,c⟩:=h.hol i v hv;refine⟨a,b,fun h0=>?_⟩;obtain⟨n',hn'⟩:=c h0;rcases(Hf _).1 hn' with h1 | h1
  ·injection h1 with _ h2
   exact⟨n,(hmem _).2 (.inl (by rw[h2]))⟩
  ·exact⟨n',(hmem _).2 (.inr h1)⟩
 ·intro q hq;obtain⟨a,b⟩:=h.BN q (List.mem_cons_of_mem _ (List.mem_cons_of_mem _ hq));exact⟨a,by rw[htk _ a];exact b⟩
 ·rw[hL,List.length_append,List.length_singleton];omega
theorem Fw (n:Nd):(n.lo=n.hi∧dD k n=(n.lo,k))∨(n.lo≠n.hi∧∃ r,look k.L n=some r∧dD k n=(r,k))∨(n.lo≠n.hi∧look k.L n=none∧dD k n=((aC k:Int),aT k n)):=by
 unfold dD;by_cases h:n.lo=n.hi
 ·rw[if_pos h];exact .inl ⟨h,rfl⟩
 ·rw[if_neg h];cases hl:look k.L n with
  | none=>exact .inr (.inr ⟨h,rfl,rfl⟩)
  | some r=>exact .inr (.inl ⟨h,r,rfl,rfl⟩)
def qQ (L:List bP) (n:Nd) (r:Int):Prop:=if n.lo=n.hi then r=n.lo else (n,r)∈L
theorem qQ.mono {L L':List bP} {n:Nd} {r:Int} (h:qQ L n r) (hs:∀ p∈L,p∈L'):qQ L' n r:=by
 unfold qQ at h ⊢;split
 ·rename_i hc;rwa [if_pos hc] at h
 ·rename_i hc;rw[if_neg hc] at h;exact hs _ h
structure Yq (k:KS) (n:Nd) (ext:List Int) (X:List bP):Prop where
 bk:Bk (dD k n).2 ext X
 live:0≤(dD k n).1∧tk (dD k n).2.ls (dD k n).1=true
 got:qQ (dD k n).2.L n (dD k n).1
 sub:∀ p∈k.L,p∈(dD k n).2.L
 new:∀ p∈(dD k n).2.L,p∈k.L∨(p.1=n∧n.lo≠n.hi)
 room:∀ bQ,(dD k n).2.ac+(news (dD k n).2.L bQ).length≤k.ac+(news k.L (n::bQ)).length
 len:(dD k n).2.L.length≤k.L.length+1
 hsd:∀ m,(dD k n).2.hs.getD m 0=k.hs.getD m 0
theorem qR (h:Bk k ext X) (n:Nd) (m:Nat):(aT k n).hs.getD m 0=k.hs.getD m 0:=by
 have e:(aT k n).hs=(upto k.hs (aC k+1)).set (aC k) 0:=by rw[ek]
 have hlt:aC k<(upto k.hs (aC k+1)).length:=by rw[gY];omega
 rw[e,iU hlt];split
 ·rename_i hm;subst hm;obtain⟨_,rf,_⟩:=fC h;rw[List.getD_eq_getElem?_getD];cases hx:k.hs[aC k]? with
  | none=>rfl
  | some x =>
   obtain⟨_,_,c⟩:=h.hol _ x hx;by_cases h0:x=0
   ·subst h0;rfl
   ·obtain⟨n',hn'⟩:=c h0
    have:=(h.jq hn').2.2
    rw[rf] at this;cases this
 ·rw[List.getD_eq_getElem?_getD,List.getD_eq_getElem?_getD,kV];split
  ·rfl
  ·rename_i hge;rw[List.getElem?_eq_none (by omega)];split <;> rfl
theorem AL {n:Nd} (hv:0≤n.v∧n.v<k.n) (hnew:n∉keys k.L):(aT k n).L=k.L++[(n,(aC k:Int))]:=by
 rw[ek];exact qI hv hnew
theorem SK (h:Bk k ext X) (hn:jO k n) (hc:n.lo≠n.hi→look k.L n=none→k.ac<k.c) (hb:ext.length+k.L.length<8000000):Yq k n ext X:=by
 rcases Fw (k:=k) n with⟨he,e⟩ | ⟨hne,r,hl,e⟩ | ⟨hne,hl,e⟩
 ·refine⟨by rw[e];exact h,by rw[e];exact⟨hn.l0,hn.l1⟩,by rw[e];unfold qQ;rw[if_pos he],by rw[e];exact fun p hp=>hp,by rw[e];exact fun p hp=>.inl hp,fun bQ=>?_,by rw[e];exact Nat.le_succ _,by rw[e];exact fun _=>rfl⟩;rw[e]
  have:=sO (L:=k.L) (L':=k.L) (bQ:=n::bQ) (wV:=bQ) (fun p hp=>hp) (fun m hm=>List.mem_cons_of_mem _ hm)
  simp only;omega
 ·have hm:=gp hl;have hml:=h.jq (List.mem_append_left X hm);refine⟨by rw[e];exact h,by rw[e];exact⟨by simp only;omega,hml.2.2⟩,by rw[e];unfold qQ;rw[if_neg hne];exact hm,by rw[e];exact fun p hp=>hp,by rw[e];exact fun p hp=>.inl hp,fun bQ=>?_,by rw[e];exact Nat.le_succ _,by rw[e];exact fun _=>rfl⟩;rw[e]
  have:=sO (L:=k.L) (L':=k.L) (bQ:=n::bQ) (wV:=bQ) (fun p hp=>hp) (fun m hm=>List.mem_cons_of_mem _ hm)
  simp only;omega
 ·have hnew:=cB.1 hl;have hbk:=GG h (hc hne hl) ⟨hn.v0,hn.v1⟩ hn.l0 hn.l1 hn.h0 hn.h1 hne hnew hb;have hL:=AL (k:=k) ⟨hn.v0,hn.v1⟩ hnew;have hin:(n,(aC k:Int))∈(aT k n).L:=by rw[hL];simp
  have hml:=hbk.jq (List.mem_append_left X hin);have hac:(aT k n).ac=k.ac+1:=by rw[ek];rfl
  refine⟨by rw[e];exact hbk,by rw[e];exact⟨by simp only;omega,hml.2.2⟩,by rw[e];unfold qQ;rw[if_neg hne];exact hin,by rw[e];simp only;rw[hL];exact fun p hp=>List.mem_append_left _ hp,?_,fun bQ=>?_,by rw[e];simp only;rw[hL];simp,by rw[e];exact qR h n⟩
  ·rw[e];simp only;rw[hL];intro p hp;rcases List.mem_append.1 hp with hp | hp
   ·exact .inl hp
   ·simp at hp;subst hp;exact .inr ⟨rfl,hne⟩
  ·rw[e];simp only;rw[hac,hL]
   have:=JB (bQ:=bQ) (r:=(aC k:Int)) hl hne
   omega
end
structure Ord (k:KS):Prop where
 lo:∀ n r m,(n,r)∈k.L→(m,n.lo)∈k.L→bH k n.v<bH k m.v
 hi:∀ n r m,(n,r)∈k.L→(m,n.hi)∈k.L→bH k n.v<bH k m.v
structure KI (k:KS):Prop where
 bk:Bk k [] []
 lv:Lv k
 pos:Pos k
 ord:Ord k
theorem KI.mem' {k:KS} (K:KI k) {n:Nd} {r:Int} (h:(n,r)∈k.L):2≤r∧aH k.ls r=n∧tk k.ls r=true:=K.bk.jq (List.mem_append_left [] h)
theorem KI.uniq {k:KS} (K:KI k) {n m:Nd} {r:Int} (h:(n,r)∈k.L) (h':(m,r)∈k.L):n=m:=K.bk.uniq (List.mem_append_left [] h) (List.mem_append_left [] h')
theorem KI.live {k:KS} (K:KI k) {r:Int} (h0:0≤r):tk k.ls r=true↔r=0∨r=1∨∃ n,(n,r)∈k.L:=by
 have:=K.bk.Pm h0
 rwa [List.append_nil] at this
theorem KI.const {k:KS} (K:KI k) {r:Int} (h:r=0∨r=1):(aH k.ls r).v = -1:=by
 rcases h with rfl | rfl
 ·unfold aH;rw[show((0:Int).toNat)=0 from rfl,K.bk.l0];rfl
 ·unfold aH;rw[show((1:Int).toNat)=1 from rfl,K.bk.l1];rfl
theorem Lv.wW {k:KS} (h:Lv k) {l v:Nat} (ho:k.ord[l]?=some (v:Int)):v<k.n∧bH k v=l:=by
 obtain⟨m,h1,h2,h3⟩:=h.o2 l v ho;obtain rfl:v=m:=by omega
 exact⟨h2,by unfold bH;rw[Int.toNat_natCast,List.getD_eq_getElem?_getD,h3];rfl⟩
theorem Lv.dK {k:KS} (h:Lv k) {v:Int} (h0:0≤v) (h1:v<k.n):∃ i:Nat,bH k v=i∧i<k.n∧k.ord[i]?=some v:=by
 obtain⟨m,rfl⟩:=Int.eq_ofNat_of_zero_le h0;have hlt:m<k.dN.length:=by rw[h.ll];omega
 obtain⟨i,a,b,c⟩:=h.l2 m _ (List.getElem?_eq_getElem hlt);exact⟨i,by unfold bH;rw[Int.toNat_natCast,List.getD_eq_getElem?_getD,List.getElem?_eq_getElem hlt,Option.getD_some,a],b,c⟩
structure XY (k:KS) (l x y:Nat):Prop where
 hx:k.ord[l]?=some (x:Int)
 hy:k.ord[l+1]?=some (y:Int)
section
variable {k:KS} {l x y:Nat}
theorem XY.facts (h:XY k l x y) (K:KI k):x<k.n∧y<k.n∧bH k x=l∧bH k y=l+1∧x≠y∧(∀ v:Int,0≤v→v<k.n→bH k v=l→v=x)∧(∀ v:Int,0≤v→v<k.n→bH k v=l+1→v=y):=by
 obtain⟨h1,h2⟩:=K.lv.wW h.hx;obtain⟨h3,h4⟩:=K.lv.wW h.hy;refine⟨h1,h3,h2,by simpa using h4,?_,?_,?_⟩
 ·rintro rfl;rw[h2] at h4;omega
 ·intro v v0 v1 hv;obtain⟨i,e1,_,e3⟩:=K.lv.dK v0 v1;obtain rfl:i=l:=by omega
  rw[h.hx] at e3;injection e3 with e3
  exact e3.symm
 ·intro v v0 v1 hv;obtain⟨i,e1,_,e3⟩:=K.lv.dK v0 v1;obtain rfl:i=l+1:=by omega
  rw[h.hy] at e3;injection e3 with e3
  exact e3.symm
def Low (k:KS) (l:Nat) (q:Int):Prop:=0≤q∧tk k.ls q=true∧∀ m,(m,q)∈k.L→(l:Int)+1<bH k m.v
theorem fF (K:KI k) {q:Int} (h0:0≤q) (ht:tk k.ls q=true):(∃ m,(m,q)∈k.L∧m.v=y∧aS k q y=(m.lo,m.hi))∨((∀ m,(m,q)∈k.L→m.v≠y)∧(aH k.ls q).v≠y∧aS k q y=(q,q)):=by
 rcases(K.live h0).1 ht with h | h | ⟨m,hm⟩
 ·have hc:=K.const (.inl h);exact .inr ⟨fun m hm=>by have:=(K.mem' hm).1;omega,by omega,by unfold aS;rw[if_neg (by omega)]⟩
 ·have hc:=K.const (.inr h);exact .inr ⟨fun m hm=>by have:=(K.mem' hm).1;omega,by omega,by unfold aS;rw[if_neg (by omega)]⟩
 ·have hg:=(K.mem' hm).2.1;by_cases hy:m.v=y
  ·exact .inl ⟨m,hm,hy,by unfold aS;rw[hg,if_pos hy]⟩
  ·exact .inr ⟨fun m' hm'=>by rw[K.uniq hm' hm];exact hy,by rw[hg];exact hy,by unfold aS;rw[hg,if_neg hy]⟩
theorem lu (h:XY k l x y) (K:KI k) {n:Nd} {r q:Int} (hn:(n,r)∈k.L) (hv:n.v=x) (hq:q=n.lo∨q=n.hi):Low k l (aS k q y).1∧Low k l (aS k q y).2:=by
 obtain⟨xn,yn,lx,ly,xy,ix,iy⟩:=h.facts K;obtain⟨_,_,l0,h0,lt,ht,_⟩:=K.bk.eZ n r hn;have q0:0≤q:=by rcases hq with rfl | rfl <;> assumption
 have qt:tk k.ls q=true:=by rcases hq with rfl | rfl <;> assumption
 have MN:∀ m,(m,q)∈k.L→(l:Int)<bH k m.v:=by
  intro m hm;rw[← lx,← hv];rcases hq with rfl | rfl
  ·exact K.ord.lo n r m hn hm
  ·exact K.ord.hi n r m hn hm
 rcases fF (y:=y) K q0 qt with⟨m,hm,JD,hp⟩ | ⟨hno,_,hp⟩
 ·rw[hp];obtain⟨_,_,ml0,mh0,mlt,mht,_⟩:=K.bk.eZ m q hm;refine⟨⟨ml0,mlt,fun m' hm'=>?_⟩,⟨mh0,mht,fun m' hm'=>?_⟩⟩
  ·have:=K.ord.lo m q m' hm hm'
   rw[JD,ly] at this;exact this
  ·have:=K.ord.hi m q m' hm hm'
   rw[JD,ly] at this;exact this
 ·rw[hp]
  have:Low k l q:=⟨q0,qt,fun m hm=>by
   have h1:=MN m hm;obtain⟨v0,v1,_⟩:=K.bk.eZ m q hm;have h2:bH k m.v≠(l:Int)+1:=fun he=>hno m hm (iy m.v v0 v1 he)
   omega⟩
  exact⟨this,this⟩
theorem wX (K:KI k) {q q':Int} (h0:0≤q) (ht:tk k.ls q=true) (h0':0≤q') (ht':tk k.ls q'=true) (he:aS k q y=aS k q' y):q=q':=by
 rcases fF (y:=y) K h0 ht with⟨m,hm,JD,hp⟩ | ⟨_,_,hp⟩ <;> rcases fF (y:=y) K h0' ht' with⟨m',hm',acS,hp'⟩ | ⟨_,_,hp'⟩
 ·rw[hp,hp'] at he;injection he with e1 e2
  have:m=m':=by
   cases m;cases m'
   simp_all
  rw[this] at hm;exact fP K.bk.kn hm hm'
 ·rw[hp,hp'] at he;injection he with e1 e2
  obtain⟨_,_,_,_,_,_,hne⟩:=K.bk.eZ m q hm;exact absurd (e1.trans e2.symm) hne
 ·rw[hp,hp'] at he;injection he with e1 e2
  obtain⟨_,_,_,_,_,_,hne⟩:=K.bk.eZ m' q' hm';exact absurd (e1.symm.trans e2) hne
 ·rw[hp,hp'] at he;injection he
theorem p8 {L:List bP} {r:Int}:r∈rising L↔∃ n,(n,r)∈L:=by
 unfold rising;rw[List.mem_mergeSort,List.mem_map];constructor
 ·rintro⟨⟨n,q⟩,h,rfl⟩;exact⟨n,h⟩
 ·rintro⟨n,h⟩;exact⟨_,h,rfl⟩
theorem AO {L:List bP} (h:(L.map (·.2)).Nodup):(rising L).Nodup:=(List.mergeSort_perm _ _).nodup_iff.2 h
theorem MO (k:KS) (x y:Int):(az k x y).map (·.r)=(rising (jE k.L x.toNat)).filter (qM k y):=by
 unfold az dO;rw[List.map_map];exact List.map_id _
theorem wY (K:KI k) (x y:Int):((az k x y).map (·.r)).Nodup:=by
 rw[MO];refine jl _ (AO ?_)
 have:=K.bk.rn
 rw[List.append_nil] at this;exact this.sublist (List.Sublist.map _ (List.filter_sublist))
structure Hg (k:KS) (l x y:Nat) (c:gI):Prop where
 mem:(c.n,c.r)∈k.L
 v:c.n.v=x
 p0:aS k c.n.lo y=(c.jU,c.jG)
 p1:aS k c.n.hi y=(c.jV,c.jH)
 ne:c.jU≠c.jG∨c.jV≠c.jH
 Px:Low k l c.jU
 BM:Low k l c.jG
 l10:Low k l c.jV
 Wq:Low k l c.jH
theorem fG (h:XY k l x y) (K:KI k) {c:gI} (hc:c∈az k x y):Hg k l x y c:=by
 unfold az dO at hc;rw[Int.toNat_natCast] at hc;obtain⟨r,hr,rfl⟩:=List.mem_map.1 hc;obtain⟨hr1,hr2⟩:=List.mem_filter.1 hr;obtain⟨n,hn⟩:=p8.1 hr1;obtain⟨hn1,hn2⟩:=List.mem_filter.1 hn;replace hn2:n.v=x:=by simpa using hn2
 have hg:=(K.mem' hn1).2.1;have e:uo k y r=⟨r,n,(aS k n.lo y).1,(aS k n.lo y).2,(aS k n.hi y).1,(aS k n.hi y).2⟩:=by unfold uo;rw[hg]
 rw[e];obtain⟨_,_,l0,h0,lt,ht,_⟩:=K.bk.eZ n r hn1;have pl:=lu h K hn1 hn2 (.inl rfl);have ph:=lu h K hn1 hn2 (.inr rfl);refine⟨hn1,hn2,rfl,rfl,?_,pl.1,pl.2,ph.1,ph.2⟩;unfold qM at hr2;rw[hg] at hr2;rw[Bool.or_eq_true] at hr2;rcases hr2 with h1 | h1
 ·left;rcases fF (y:=y) K l0 lt with⟨m,hm,_,hp⟩ | ⟨_,hno,_⟩
  ·rw[hp];exact(K.bk.eZ m _ hm).2.2.2.2.2.2
  ·exact absurd (of_decide_eq_true h1) hno
 ·right;rcases fF (y:=y) K h0 ht with⟨m,hm,_,hp⟩ | ⟨_,hno,_⟩
  ·rw[hp];exact(K.bk.eZ m _ hm).2.2.2.2.2.2
  ·exact absurd (of_decide_eq_true h1) hno
theorem wZ (h:XY k l x y) (K:KI k) {n:Nd} {r:Int} (hn:(n,r)∈k.L) (hv:n.v=x) (hc:∀ c∈az k x y,c.r≠r) {q:Int} (hq:q=n.lo∨q=n.hi):Low k l q:=by
 obtain⟨_,_,l0,h0,lt,ht,_⟩:=K.bk.eZ n r hn;have q0:0≤q:=by rcases hq with rfl | rfl <;> assumption
 have qt:tk k.ls q=true:=by rcases hq with rfl | rfl <;> assumption
 have hg:=(K.mem' hn).2.1;rcases fF (y:=y) K q0 qt with⟨m,hm,JD,hp⟩ | ⟨hno,_,hp⟩
 ·exfalso;refine hc (uo k y r) ?_ rfl;unfold az dO;refine List.mem_map.2 ⟨r,List.mem_filter.2 ⟨?_,?_⟩,rfl⟩
  ·rw[Int.toNat_natCast];exact p8.2 ⟨n,List.mem_filter.2 ⟨hn,by simpa using hv⟩⟩
  ·unfold qM;rw[hg];have hgm:=(K.mem' hm).2.1;rcases hq with rfl | rfl
   ·simp[hgm,JD]
   ·simp[hgm,JD]
 ·have:=(lu h K hn hv hq).1
  rwa [hp] at this
end
def kids (cs:List gI):List Int:=cs.flatMap fun c=>[c.n.lo,c.n.hi]
def AP (cs:List gI):List bP:=cs.map fun c=>(c.n,c.r)
theorem MP (cs:List gI):(kids cs).length=2*cs.length:=by
 unfold kids
 induction cs with
 | nil=>rfl
 | cons c cs ih=>rw[List.flatMap_cons,List.length_append,ih];simp <;> omega
theorem Da (a b:List gI):kids (a++b)=kids a++kids b:=by unfold kids;rw[List.flatMap_append]
theorem Db:∀ (cs:List gI) (k:KS) (ext:List Int) (X:List bP),Bk k ext X→(∀ c∈cs,(c.n,c.r)∈k.L)→(cs.map (·.n)).Nodup→ext.length+k.L.length+cs.length≤8000000→
  Bk (aZ k cs) (kids cs++ext) (AP cs++X)∧(∀ p,p∈(aZ k cs).L↔p∈k.L∧∀ c∈cs,p.1≠c.n)∧(aZ k cs).hs=k.hs∧(aZ k cs).ac=k.ac∧iw (aZ k cs)=iw k
 | [],k,ext,X,h,_,_,_=>⟨h,fun p=>by simp[aZ],rfl,rfl,rfl⟩
 | c::cs,k,ext,X,h,hm,hn,hb=>by
  rw[List.map_cons,List.nodup_cons] at hn;have hmc:=hm c (List.mem_cons_self ..);have hlen:=(gZ h.kn hmc).length_eq;have hL:=(wI h hmc).1;simp only[List.length_cons] at hb hlen;have h1:=Mj h hmc (by omega);have hmem:∀ p,p∈(jo k c.n).L↔p∈k.L∧p.1≠c.n:=by
   intro p;rw[hL];unfold without;rw[List.mem_filter];simp
  obtain⟨g1,g2,g3,g4,g5⟩:=Db cs (jo k c.n) _ _ h1 (fun c' hc'=>(hmem _).2 ⟨hm c' (List.mem_cons_of_mem _ hc'),fun he=>hn.1 (by rw[← he];exact List.mem_map_of_mem (f:=(·.n)) hc')⟩) hn.2 (by simp only[List.length_cons];rw[hL];omega);refine⟨?_,fun p=>?_,g3,g4,g5⟩
  ·refine g1.perm ?_ ?_
   ·show(([c.n.lo,c.n.hi]++kids cs)++ext).Perm (kids cs++(c.n.hi::c.n.lo::ext));have e1:([c.n.lo,c.n.hi]++kids cs).Perm (kids cs++[c.n.lo,c.n.hi]):=List.perm_append_comm;refine(e1.append_right ext).trans ?_;rw[List.append_assoc];exact(List.Perm.swap _ _ _).append_left _
   ·show((c.n,c.r)::(AP cs++X)).Perm (AP cs++(c.n,c.r)::X);exact List.perm_middle.symm
  ·show p∈(aZ (jo k c.n) cs).L↔_;rw[g2,hmem];constructor
   ·rintro⟨⟨a,b⟩,d⟩;exact⟨a,fun c' hc'=>by rcases List.mem_cons.1 hc' with rfl | hc';exact b;exact d c' hc'⟩
   ·rintro⟨a,b⟩;exact⟨⟨a,b c (List.mem_cons_self ..)⟩,fun c' hc'=>b c' (List.mem_cons_of_mem _ hc')⟩
structure T2 (k0:KS) (x y:Nat) (done rest:List gI) (k:KS):Prop where
 bk:Bk k (kids (done++rest)) (AP rest)
 same:iw k=iw k0
 base:∀ p∈k0.L,(∀ c∈done++rest,p.2≠c.r)→p∈k.L
 ent:∀ p∈k.L,(p∈k0.L∧∀ c∈done++rest,p.2≠c.r)∨(∃ c∈done,(p.1=⟨x,c.jU,c.jV⟩∨p.1=⟨x,c.jG,c.jH⟩)∧p.1.lo≠p.1.hi)∨
  (∃ c∈done,p.2=c.r∧p.1.v=y∧qQ k.L ⟨x,c.jU,c.jV⟩ p.1.lo∧qQ k.L ⟨x,c.jG,c.jH⟩ p.1.hi)
 dn:∀ c∈done,∃ n,(n,c.r)∈k.L∧n.v=y∧qQ k.L ⟨x,c.jU,c.jV⟩ n.lo∧qQ k.L ⟨x,c.jG,c.jH⟩ n.hi
 room:k.ac+(news k.L (rest.flatMap (dP x))).length≤k.c
 hsd:∀ m,k.hs.getD m 0=k0.hs.getD m 0
section
variable {k0 k:KS} {l x y:Nat} {done rest:List gI} {ext:List Int} {X:List bP}
theorem jR (h:XY k0 l x y) (K:KI k0) {cs:List gI} (hcs:∀ c∈cs,Hg k0 l x y c) (hb:Bk k ext X) (hbase:∀ p∈k0.L,(∀ c∈cs,p.2≠c.r)→p∈k.L) {q:Int} (hq:Low k0 l q) :
  0≤q∧tk k.ls q=true∧∀ m,(m,q)∈k.L→(m,q)∈k0.L∧m.v≠x∧m.v≠y:=by
 obtain⟨xn,yn,lx,ly,xy,ix,iy⟩:=h.facts K;obtain⟨q0,qt,ql⟩:=hq;rcases(K.live q0).1 qt with h1 | h1 | ⟨m,hm⟩
 ·refine⟨q0,(hb.Pm q0).2 (.inl h1),fun m hm=>?_⟩
  have:=(hb.jq (List.mem_append_left X hm)).1
  omega
 ·refine⟨q0,(hb.Pm q0).2 (.inr (.inl h1)),fun m hm=>?_⟩
  have:=(hb.jq (List.mem_append_left X hm)).1
  omega
 ·have hlm:=ql m hm;have Sm:m.v≠x:=fun he=>by rw[he,lx] at hlm;omega
  have hvy:m.v≠y:=fun he=>by rw[he,ly] at hlm;omega
  have hk:=hbase (m,q) hm (fun c hc he=>by
   have hc2:=hcs c hc
   have:=K.uniq (r:=q) hm (by have:=hc2.mem;rwa [← he] at this)
   exact Sm (by rw[this];exact hc2.v))
  refine⟨q0,(hb.Pm q0).2 (.inr (.inr ⟨m,List.mem_append_left X hk⟩)),fun m' hm'=>?_⟩
  have:=hb.uniq (List.mem_append_left X hm') (List.mem_append_left X hk)
  rw[this];exact⟨hm,Sm,hvy⟩
theorem AQ (h:XY k0 l x y) (K:KI k0) {cs:List gI} (hcs:∀ c∈cs,Hg k0 l x y c) (hb:Bk k ext X) (hbase:∀ p∈k0.L,(∀ c∈cs,p.2≠c.r)→p∈k.L) {a b a' b' r:Int} (la:Low k0 l a) (la':Low k0 l a')
  (g:qQ k.L ⟨x,a,b⟩ r) (g':qQ k.L ⟨x,a',b'⟩ r):a=a'∧b=b':=by
 unfold qQ at g g';split at g
 ·rename_i e1;simp only at e1 g;split at g'
  ·rename_i e2;simp only at e2 g';exact⟨g.symm.trans g',by rw[← e1,← e2];exact g.symm.trans g'⟩
  ·exfalso
   have:=(jR h K hcs hb hbase la).2.2 _ (by rw[← g];exact g')
   exact this.2.1 rfl
 ·split at g'
  ·rename_i e2;simp only at e2 g';exfalso
   have:=(jR h K hcs hb hbase la').2.2 _ (by rw[← g'];exact g)
   exact this.2.1 rfl
  ·have:=hb.uniq (List.mem_append_left X g) (List.mem_append_left X g')
   injection this with _ e2 e3
   exact⟨e2,e3⟩
theorem Dc (hb:Bk k ext X) {r:Int} (h0:0≤r) (ht:tk k.ls r=true):CY k r:=by
 refine⟨h0,by have:=hb.lt h0 ht;omega,fun h1=>?_⟩;rcases(hb.Pm h0).1 ht with h | h | ⟨n,hn⟩
 ·omega
 ·omega
 ·obtain⟨u,hu,_,hu1,_⟩:=hb.wG hn;exact⟨u,hu,by omega,by omega⟩
theorem Fx (k:KS) (r:Int):(bN k r).L=k.L:=(jF (k:=k) (r:=r)).2.2.2.2.2.1
theorem Hl (k:KS) (r:Int):(bN k r).ls=k.ls:=(jF (k:=k) (r:=r)).2.2.2.1
theorem Ho (k:KS) (r:Int):(bN k r).ac=k.ac:=(jF (k:=k) (r:=r)).2.2.1
theorem xe (k:KS) (r:Int):(bN k r).hs=k.hs:=(jF (k:=k) (r:=r)).2.2.2.2.2.2.1
theorem Qy (h:XY k0 l x y) (K:KI k0) {c:gI} (hcs:∀ d∈done++c::rest,Hg k0 l x y d) (hnd:((done++c::rest).map (·.r)).Nodup) (hlen:(done++c::rest).length≤1048576) (t:T2 k0 x y done (c::rest) k) :
  Aw k x y c∧T2 k0 x y (done++[c]) rest (ic x y k c):=by
 obtain⟨xn,yn,lx,ly,xy,ix,iy⟩:=h.facts K;have hc:=hcs c (by simp);have hkn:k.n=k0.n:=congrArg (fun t=>t.1) t.same;have hkc:k.c=k0.c:=congrArg (fun t=>t.2.1) t.same;have hb1:=t.bk;have hkl:(kids (done++c::rest)).length≤2097152:=by rw[MP];omega
 have hLl:k.L.length≤1048576:=by
  have h1:=hb1.cnt;have h2:=hb1.iG;have h3:=hb1.lim;have h4:=hb1.cM;simp only[List.length_append] at h1;omega
 -- the first node
 have live:∀ {q:Int},Low k0 l q→0≤q∧tk k.ls q=true:=fun hq=>let w:=jR h K hcs hb1 t.base hq;⟨w.1,w.2.1⟩
 have nA:jO k ⟨x,c.jU,c.jV⟩:=⟨by simp,by simp only;rw[hkn];omega,(live hc.Px).1,(live hc.Px).2,(live hc.l10).1,(live hc.l10).2⟩;have qU:(c::rest).flatMap (dP x)=⟨x,c.jU,c.jV⟩::⟨x,c.jG,c.jH⟩::rest.flatMap (dP x):=rfl;have hroom:=t.room;rw[qU] at hroom;have r1:c.jU≠c.jV→look k.L ⟨x,c.jU,c.jV⟩=none→k.ac<k.c:=fun hne hl=>by
  have:=C9 (bQ:=(⟨x,c.jU,c.jV⟩:Nd)::⟨x,c.jG,c.jH⟩::rest.flatMap (dP x)) (List.mem_cons_self ..) hl hne
  omega
 have gA:=SK hb1 nA r1 (by omega);obtain⟨lo,hlo⟩:∃ lo,(dD k ⟨x,c.jU,c.jV⟩).1=lo:=⟨_,rfl⟩;obtain⟨k1,hk1⟩:∃ k1,(dD k ⟨x,c.jU,c.jV⟩).2=k1:=⟨_,rfl⟩;have aa5:iw k1=iw k:=by rw[← hk1];exact qN _ _
 obtain⟨gA1,Yr,gA3,gA4,gA5,gA6,gA7,gA8⟩:=gA;rw[hlo,hk1] at Yr gA3;rw[hk1] at gA1 gA4 gA5 gA6 gA7 gA8;have u1:CY k1 lo:=Dc gA1 Yr.1 Yr.2;have hA:bX k x c=bN k1 lo:=by unfold bX;rw[hlo,hk1]
 have hb2:Bk (bX k x c) (lo::kids (done++c::rest)) (AP (c::rest)):=by rw[hA];exact E9 gA1 Yr.1 Yr.2 (by omega)
 have Si:(bX k x c).L=k1.L:=by rw[hA,Fx]
 have acT:(bX k x c).ls=k1.ls:=by rw[hA,Hl]
 have Yt:(bX k x c).ac=k1.ac:=by rw[hA,Ho]
 have hAs:iw (bX k x c)=iw k:=by rw[hA,kY,aa5]
 have hAn:(bX k x c).n=k0.n:=(congrArg (fun t=>t.1) hAs).trans hkn;have hAc:(bX k x c).c=k.c:=congrArg (fun t=>t.2.1) hAs;have Yu:∀ p∈k0.L,(∀ d∈done++c::rest,p.2≠d.r)→p∈(bX k x c).L:=fun p hp hq=>by rw[Si];exact gA4 p (t.base p hp hq)
 -- the second
 have Hq:∀ {q:Int},Low k0 l q→0≤q∧tk (bX k x c).ls q=true:=fun hq=>let w:=jR h K hcs hb2 Yu hq;⟨w.1,w.2.1⟩
 have nB:jO (bX k x c) ⟨x,c.jG,c.jH⟩:=⟨by simp,by simp only;rw[hAn];omega,(Hq hc.BM).1,(Hq hc.BM).2,(Hq hc.Wq).1,(Hq hc.Wq).2⟩;have acs:=gA6 (⟨x,c.jG,c.jH⟩::rest.flatMap (dP x));have r2:c.jG≠c.jH→look (bX k x c).L ⟨x,c.jG,c.jH⟩=none→(bX k x c).ac<(bX k x c).c:=fun hne hl=>by
  rw[Si] at hl
  have:=C9 (bQ:=(⟨x,c.jG,c.jH⟩:Nd)::rest.flatMap (dP x)) (List.mem_cons_self ..) hl hne
  rw[Yt,hAc];omega
 have gB:=SK hb2 nB r2 (by simp only[List.length_cons];rw[Si];omega);obtain⟨hi,hhi⟩:∃ hi,(dD (bX k x c) ⟨x,c.jG,c.jH⟩).1=hi:=⟨_,rfl⟩;obtain⟨k2,hk2⟩:∃ k2,(dD (bX k x c) ⟨x,c.jG,c.jH⟩).2=k2:=⟨_,rfl⟩;have aa6:iw k2=iw k:=by rw[← hk2,qN,hAs]
 obtain⟨gB1,Yv,gB3,Yw,gB5,gB6,gB7,gB8⟩:=gB;rw[hhi,hk2] at Yv gB3;rw[hk2] at gB1 Yw gB5 gB6 gB7 gB8;rw[Si] at Yw gB5 gB6 gB7;have u2:CY k2 hi:=Dc gB1 Yv.1 Yv.2;have hB:bT k x c=bN k2 hi:=by unfold bT;rw[hhi,hk2]
 have hb3:Bk (bT k x c) (hi::lo::kids (done++c::rest)) (AP (c::rest)):=by
  rw[hB];exact E9 gB1 Yv.1 Yv.2 (by simp only[List.length_cons];omega)
 have hBL:(bT k x c).L=k2.L:=by rw[hB,Fx]
 have acU:(bT k x c).ls=k2.ls:=by rw[hB,Hl]
 have aa7:(bT k x c).ac=k2.ac:=by rw[hB,Ho]
 have hBs:iw (bT k x c)=iw k:=by rw[hB,kY,aa6]
 have hBn:(bT k x c).n=k0.n:=(congrArg (fun t=>t.1) hBs).trans hkn;have zw:∀ p∈k0.L,(∀ d∈done++c::rest,p.2≠d.r)→p∈(bT k x c).L:=fun p hp hq=>by rw[hBL];exact Yw p (gA4 p (t.base p hp hq))
 have yJ:qQ (bT k x c).L ⟨x,c.jU,c.jV⟩ lo:=by rw[hBL];exact gA3.mono Yw
 have yK:qQ (bT k x c).L ⟨x,c.jG,c.jH⟩ hi:=by rw[hBL];exact gB3
 have loL:0≤lo∧tk (bT k x c).ls lo=true:=by
  have:=hb3.BN lo (by simp)
  exact this
 have hiL:0≤hi∧tk (bT k x c).ls hi=true:=hb3.BN hi (by simp);have hN:pG k x y c=⟨y,lo,hi⟩:=by unfold pG;rw[hlo,hhi]
 have n3:jO (bT k x c) ⟨y,lo,hi⟩:=⟨by simp,by simp only;rw[hBn];omega,loL.1,loL.2,hiL.1,hiL.2⟩;obtain⟨m,hrm,m2,_,mls⟩:=hb3.mem c.n c.r (by simp[AP]);obtain⟨_,_,cl0,ch0,Mc,cht,Yx⟩:=K.bk.eZ _ _ hc.mem
 -- it is a new one,with aa8 children
 have hne:lo≠hi:=by
  rintro rfl;obtain⟨e1,e2⟩:=AQ h K hcs hb3 zw hc.Px hc.BM yJ yK;rcases hc.ne with h1 | h1
  ·exact h1 e1
  ·exact h1 e2
 have hsub:∀ p∈k.L,p∈(bT k x c).L:=fun p hp=>by rw[hBL];exact Yw p (gA4 p hp)
 have SL:∀ p∈(bT k x c).L,p∈k.L∨((p.1=⟨x,c.jU,c.jV⟩∨p.1=⟨x,c.jG,c.jH⟩)∧p.1.lo≠p.1.hi):=fun p hp=>by
  rw[hBL] at hp;rcases gB5 p hp with h1 | ⟨h1,h2⟩
  ·rcases gA5 p h1 with h3 | ⟨h3,h4⟩
   ·exact .inl h3
   ·exact .inr ⟨.inl h3,by rw[h3];exact h4⟩
  ·exact .inr ⟨.inr h1,by rw[h1];exact h2⟩
 have hyx:(y:Int)≠(x:Int):=by omega
 have hnew:(⟨y,lo,hi⟩:Nd)∉keys (bT k x c).L:=by
  intro hm;obtain⟨r,hr⟩:=mem_keys.1 hm;rcases SL _ hr with h1 | ⟨h1 | h1,_⟩
  ·rcases t.ent _ h1 with⟨h2,_⟩ | ⟨d,_,h2 | h2,_⟩ | ⟨d,hd,_,_,h3,h4⟩
   ·-- a node that was there: its children lie below
    obtain⟨_,_,a0,b0,at_,bt,_⟩:=K.bk.eZ _ _ h2;have Yy:Low k0 l lo:=⟨a0,at_,fun m' hm'=>by have:=K.ord.lo _ _ m' h2 hm';simp only at this;rw[ly] at this;exact this⟩;have Yz:Low k0 l hi:=⟨b0,bt,fun m' hm'=>by have:=K.ord.hi _ _ m' h2 hm';simp only at this;rw[ly] at this;exact this⟩;have e1:c.jU=lo∧c.jV=lo:=by
     unfold qQ at yJ;split at yJ
     ·rename_i e;simp only at e yJ;exact⟨yJ.symm,by rw[← e];exact yJ.symm⟩
     ·exact absurd rfl ((jR h K hcs hb3 zw Yy).2.2 _ yJ).2.1
    have e2:c.jG=hi∧c.jH=hi:=by
     unfold qQ at yK;split at yK
     ·rename_i e;simp only at e yK;exact⟨yK.symm,by rw[← e];exact yK.symm⟩
     ·exact absurd rfl ((jR h K hcs hb3 zw Yz).2.2 _ yK).2.1
    have:c.n.lo=c.n.hi:=wX K cl0 Mc ch0 cht (by rw[hc.p0,hc.p1,e1.1,e1.2,e2.1,e2.2])
    exact Yx this
   ·injection h2 with e;exact hyx e
   ·injection h2 with e;exact hyx e
   ·have hd':=hcs d (by simp[hd]);have g3:qQ (bT k x c).L ⟨x,d.jU,d.jV⟩ lo:=qQ.mono h3 hsub;have g4:qQ (bT k x c).L ⟨x,d.jG,d.jH⟩ hi:=qQ.mono h4 hsub;obtain⟨e1,e2⟩:=AQ h K hcs hb3 zw hc.Px hd'.Px yJ g3;obtain⟨e3,e4⟩:=AQ h K hcs hb3 zw hc.BM hd'.BM yK g4;obtain⟨_,_,dl0,dh0,dlt,dht,_⟩:=K.bk.eZ _ _ hd'.mem;have f1:c.n.lo=d.n.lo:=wX K cl0 Mc dl0 dlt (by rw[hc.p0,hd'.p0,e1,e3]);have f2:c.n.hi=d.n.hi:=wX K ch0 cht dh0 dht (by rw[hc.p1,hd'.p1,e2,e4]);have f3:c.n=d.n:=by
     have v1:=hc.v;have v2:=hd'.v;cases hcn:c.n;cases hdn:d.n;rw[hcn] at f1 f2 v1;rw[hdn] at f1 f2 v2;simp only at f1 f2 v1 v2;rw[v1,v2,f1,f2]
    have f4:c.r=d.r:=fP K.bk.kn hc.mem (by rw[f3];exact hd'.mem);rw[List.map_append,List.nodup_append] at hnd;exact hnd.2.2 _ (List.mem_map_of_mem (f:=(·.r)) hd) _ (by simp) f4.symm
  ·injection h1 with e;exact hyx e
  ·injection h1 with e;exact hyx e
 have Uz:AP (c::rest)=(c.n,c.r)::AP rest:=rfl;rw[Uz] at hb3;have hBl:(bT k x c).L.length≤1048580:=by rw[hBL];omega
 have hfin:=JC (n:=⟨y,lo,hi⟩) hb3 n3 hne hnew (by omega);have UA:ic x y k c=qH (o5 (bT k x c) c.r ⟨y,lo,hi⟩) ⟨y,lo,hi⟩ c.r:=by unfold ic;rw[hN]
 have SN:(ic x y k c).L=(bT k x c).L++[(⟨y,lo,hi⟩,c.r)]:=by rw[UA];exact qI ⟨n3.v0,n3.v1⟩ hnew
 have happ:done++[c]++rest=done++c::rest:=by simp
 refine⟨⟨⟨_,_,hb1⟩,nA,r1,by rw[hlo,hk1];exact u1,⟨_,_,hb2⟩,nB,r2,by rw[hhi,hk2];exact u2,⟨_,_,hb3⟩,by rw[hN];exact n3,⟨m,_,hrm,m2,mls⟩⟩,?_⟩;refine⟨by rw[happ,UA];exact hfin,?_,?_,?_,?_,?_,?_⟩
 ·rw[oG];exact t.same
 ·rw[happ];intro p hp hq;rw[SN];exact List.mem_append_left _ (zw p hp hq)
 ·intro p hp;rw[happ];rw[SN] at hp;have hmono:∀ p∈k.L,p∈(ic x y k c).L:=fun p hp=>by rw[SN];exact List.mem_append_left _ (hsub p hp)
  rcases List.mem_append.1 hp with hp | hp
  ·rcases SL p hp with h1 | ⟨h1,h2⟩
   ·rcases t.ent p h1 with h2 | ⟨d,hd,h2,h3⟩ | ⟨d,hd,h2,h3,h4,h5⟩
    ·exact .inl h2
    ·exact .inr (.inl ⟨d,by simp[hd],h2,h3⟩)
    ·exact .inr (.inr ⟨d,by simp[hd],h2,h3,h4.mono hmono,h5.mono hmono⟩)
   ·exact .inr (.inl ⟨c,by simp,h1,h2⟩)
  ·simp at hp;subst hp;refine .inr (.inr ⟨c,by simp,rfl,rfl,?_,?_⟩)
   ·exact yJ.mono (fun p hp=>by rw[SN];exact List.mem_append_left _ hp)
   ·exact yK.mono (fun p hp=>by rw[SN];exact List.mem_append_left _ hp)
 ·intro d hd;have Fv:∀ p∈(bT k x c).L,p∈(ic x y k c).L:=fun p hp=>by rw[SN];exact List.mem_append_left _ hp
  rcases List.mem_append.1 hd with hd | hd
  ·obtain⟨n,h1,h2,h3,h4⟩:=t.dn d hd;exact⟨n,Fv _ (hsub _ h1),h2,(h3.mono hsub).mono Fv,(h4.mono hsub).mono Fv⟩
  ·simp at hd;subst hd;exact⟨⟨y,lo,hi⟩,by rw[SN];simp,rfl,yJ.mono Fv,yK.mono Fv⟩
 ·have hac:(ic x y k c).ac=k2.ac:=by rw[UA];exact aa7
  have hcc:(ic x y k c).c=k.c:=congrArg (fun t=>t.2.1) (oG x y k c);rw[hac,hcc];have h3:=gB6 (rest.flatMap (dP x));rw[Yt] at h3;have h4:=sO (L:=k2.L) (L':=(ic x y k c).L) (bQ:=rest.flatMap (dP x)) (wV:=rest.flatMap (dP x)) (fun p hp=>by rw[SN,hBL];exact List.mem_append_left _ hp) (fun n hn=>hn);omega
 ·intro i;have e1:(ic x y k c).hs=k2.hs:=by rw[UA];show(bT k x c).hs=_;rw[hB,xe]
  rw[e1,gB8,hA,xe,gA8];exact t.hsd i
end
section
variable {k0 k:KS} {l x y:Nat} {done rest:List gI} {ext:List Int} {X:List bP}
theorem MQ {k:KS} {r:Int} (hp:Pos k) (h1:1<k.us.getD r.toNat 0):Pos (fB k r):=by
 intro n q hq;have hq':(n,q)∈k.L:=hq;show 0<(k.us.set r.toNat (k.us.getD r.toNat 0-1)).getD q.toNat 0;by_cases hlt:r.toNat<k.us.length
 ·rw[iU hlt];split
  ·omega
  ·exact hp n q hq'
 ·rw[List.set_eq_of_length_le (by omega)];exact hp n q hq'
theorem u7:∀ (f:Nat) (k:KS) (st ext:List Int),Bk k (st++ext) []→Pos k→3*k.L.length+st.length≤f→
  Bk (iR f k st) ext []∧Pos (iR f k st)∧(∀ p∈(iR f k st).L,p∈k.L)∧(iR f k st).hs=k.hs
 | 0,k,st,ext,hb,hp,hf=>by
  have:st=[]:=List.eq_nil_of_length_eq_zero (by omega)
  subst this;exact⟨hb,hp,fun p h=>h,rfl⟩
 | _+1,k,[],ext,hb,hp,_=>⟨hb,hp,fun p h=>h,rfl⟩
 | f+1,k,r::st,ext,hb,hp,hf=>by
  simp only[List.length_cons] at hf;have hb':Bk k (r::(st++ext)) []:=hb;obtain⟨h0,ht⟩:=hb'.BN r (List.mem_cons_self ..);unfold iR;split
  ·rename_i h1;exact u7 f k st ext (CO hb' h1) hp (by omega)
  ·rename_i h1;split
   ·rename_i hu;have hl:=uW hb' (by omega);obtain⟨a,b,c,d⟩:=u7 f (fB k r) st ext hl (MQ hp hu) (by show 3*k.L.length+_≤_;omega);exact⟨a,b,c,d⟩
   ·rename_i hu;obtain⟨n,hm⟩:∃ n,(n,r)∈k.L:=by
     rcases(hb'.Pm h0).1 ht with h | h | ⟨n,h⟩
     ·omega
     ·omega
     ·exact⟨n,by simpa using h⟩
    have hg:aH k.ls r=n:=(hb'.jq (List.mem_append_left [] hm)).2.1;rw[hg];have hl:=uW hb' (by omega);have hlast:=GL hb' hm hu;have hlen:=(gZ hb'.kn hm).length_eq;have hL:(kg (jo (fB k r) n) r).L=without n k.L:=(wI hl hm).1;simp only[List.length_cons] at hlen;have hpos:Pos (kg (jo (fB k r) n) r):=by
     intro m q hq;rw[hL] at hq;unfold without at hq;obtain⟨hq1,hq2⟩:=List.mem_filter.1 hq;have Sn:q≠r:=by
      rintro rfl
      have:=hb'.uniq (List.mem_append_left [] hq1) (List.mem_append_left [] hm)
      subst this;simp at hq2
     have h2:=(hb'.jq (List.mem_append_left [] hq1)).1;show 0<(k.us.set r.toNat (k.us.getD r.toNat 0-1)).getD q.toNat 0;by_cases hlt:r.toNat<k.us.length
     ·rw[iU hlt,if_neg (by omega)];exact hp m q hq1
     ·rw[List.set_eq_of_length_le (by omega)];exact hp m q hq1
    obtain⟨a,b,c,d⟩:=u7 f (kg (jo (fB k r) n) r) (n.hi::n.lo::st) ext hlast hpos (by rw[hL];simp only[List.length_cons];omega);refine⟨a,b,fun p hp=>?_,d⟩
    have:=c p hp
    rw[hL] at this;unfold without at this;exact(List.mem_filter.1 this).1
theorem vg {r:Int} (hb:Bk k (r::ext) []) (hp:Pos k):Bk (jY k r) ext []∧Pos (jY k r)∧(∀ p∈(jY k r).L,p∈k.L)∧(jY k r).hs=k.hs:=by
 refine u7 _ k [r] ext hb hp ?_
 have:=hb.cnt
 simp only[List.append_nil] at this;simp only[List.length_cons,List.length_nil];omega
theorem nI:∀ (cs:List gI) (k:KS) (ext:List Int),Bk k (kids cs++ext) []→Pos k→Bk (fA k cs) ext []∧Pos (fA k cs)∧(∀ p∈(fA k cs).L,p∈k.L)∧(fA k cs).hs=k.hs
 | [],k,ext,hb,hp=>⟨hb,hp,fun p h=>h,rfl⟩
 | c::cs,k,ext,hb,hp=>by
  obtain⟨a1,a2,a3,a4⟩:=vg (k:=k) (r:=c.n.lo) (ext:=c.n.hi::(kids cs++ext)) hb hp;obtain⟨b1,b2,b3,b4⟩:=vg (r:=c.n.hi) a1 a2;obtain⟨c1,c2,c3,c4⟩:=nI cs _ ext b1 b2;exact⟨c1,c2,fun p hp=>a3 p (b3 p (c3 p hp)),c4.trans (b4.trans a4)⟩
theorem De (K:KI k0) (x y:Int):(az k0 x y).length≤1048576:=by
 have h1:((az k0 x y).map (·.r)).length≤(rising (jE k0.L x.toNat)).length:=by rw[MO];exact List.length_filter_le _ _
 rw[List.length_map,jP] at h1;have h2:(jE k0.L x.toNat).length≤k0.L.length:=List.length_filter_le _ _;have h3:=K.bk.cnt;have h4:=K.bk.iG;have h5:=K.bk.lim;have h6:=K.bk.cM;simp only[List.length_append] at h3;omega
theorem Df (h:XY k0 l x y) (K:KI k0):((az k0 x y).map (·.n)).Nodup:=by
 have h1:=wY K (x:Int) (y:Int);rw[List.Nodup,List.pairwise_map] at h1 ⊢;refine h1.imp_of_mem (fun {a b} ha hb hab he=>hab ?_);have ma:=(fG h K ha).mem;have mb:=(fG h K hb).mem;rw[← he] at mb;exact fP K.bk.kn ma mb
theorem MR (h:XY k0 l x y) (K:KI k0) (hR:gJ k0 x y=true):T2 k0 x y [] (az k0 x y) (aZ k0 (az k0 x y)):=by
 have hcs:=fun c (hc:c∈az k0 x y)=>fG h K hc
 obtain⟨xn,yn,lx,ly,xy,ix,iy⟩:=h.facts K;have hlen:=De K (x:Int) (y:Int);have hLl:k0.L.length≤1048576:=by
  have h3:=K.bk.cnt;have h4:=K.bk.iG;have h5:=K.bk.lim;have h6:=K.bk.cM;simp only[List.length_append] at h3;omega
 obtain⟨a1,a2,a3,a4,a5⟩:=Db (az k0 x y) k0 [] [] K.bk (fun c hc=>(hcs c hc).mem) (Df h K) (by simp only[List.length_nil];omega);rw[List.append_nil,List.append_nil] at a1;have hback:∀ p∈k0.L,(∀ c∈az k0 x y,p.2≠c.r)→p∈(aZ k0 (az k0 x y)).L:=fun p hp hq =>
  (a2 p).2 ⟨hp,fun c hc he=>hq c hc (fP K.bk.kn (n:=p.1) hp (by rw[he];exact(hcs c hc).mem))⟩
 refine⟨a1,a5,hback,fun p hp=>?_,(fun c hc=>by cases hc),?_,(fun m=>by rw[a3])⟩
 ·obtain⟨b1,b2⟩:=(a2 p).1 hp;refine .inl ⟨b1,fun c hc he=>b2 c hc ?_⟩;exact K.uniq (r:=p.2) b1 (by rw[he];exact(hcs c hc).mem)
 ·have hr:k0.ac+(news k0.L ((az k0 x y).flatMap (dP x))).length≤k0.c:=by
   have:=of_decide_eq_true hR
   rwa [kr] at this
  have hc:(aZ k0 (az k0 x y)).c=k0.c:=congrArg (fun t=>t.2.1) a5;rw[a4,hc];have hle:(news (aZ k0 (az k0 x y)).L ((az k0 x y).flatMap (dP x))).length≤(news k0.L ((az k0 x y).flatMap (dP x))).length:=by
   refine gK (mg _ _) (fun n hn=>?_);obtain⟨n1,n2,n3⟩:=gq.1 hn;refine gq.2 ⟨n1,?_,n3⟩;rw[cB] at n2 ⊢;intro hk;obtain⟨r,hr⟩:=mem_keys.1 hk;refine n2 (mem_keys.2 ⟨r,(a2 _).2 ⟨hr,fun d hd he=>?_⟩⟩);simp only at he
   -- a candidate is no crossing
   obtain⟨c,hc,qU⟩:=List.mem_flatMap.1 n1;have hC:=hcs c hc;have hD:=hcs d hd;have hlow:Low k0 l n.lo∧Low k0 l n.hi:=by
    simp only[dP,List.mem_cons,List.not_mem_nil,or_false] at qU;rcases qU with rfl | rfl
    ·exact⟨hC.Px,hC.l10⟩
    ·exact⟨hC.BM,hC.Wq⟩
   rw[he] at hlow;have noy:∀ q,Low k0 l q→(aS k0 q y).1=(aS k0 q y).2:=by
    intro q hq;rcases fF (y:=y) K hq.1 hq.2.1 with⟨m,hm,JD,_⟩ | ⟨_,_,hp⟩
    ·have:=hq.2.2 m hm
     rw[JD,ly] at this;omega
    ·rw[hp]
   have e1:=noy _ hlow.1;have e2:=noy _ hlow.2;rw[hD.p0] at e1;rw[hD.p1] at e2;rcases hD.ne with h1 | h1
   ·exact h1 e1
   ·exact h1 e2
  omega
theorem Hr (h:XY k0 l x y) (K:KI k0) (hR:gJ k0 x y=true):∀ (i:Nat),i≤(az k0 x y).length→
  T2 k0 x y ((az k0 x y).take i) ((az k0 x y).drop i) (bW (aZ k0 (az k0 x y)) x y ((az k0 x y).take i))∧
  (∀ c,(az k0 x y)[i]?=some c→Aw (bW (aZ k0 (az k0 x y)) x y ((az k0 x y).take i)) x y c):=by
 intro i;have hstep:∀ i c,(az k0 x y)[i]?=some c→T2 k0 x y ((az k0 x y).take i) ((az k0 x y).drop i) (bW (aZ k0 (az k0 x y)) x y ((az k0 x y).take i))→
   Aw (bW (aZ k0 (az k0 x y)) x y ((az k0 x y).take i)) x y c∧T2 k0 x y ((az k0 x y).take i++[c]) ((az k0 x y).drop (i+1)) (ic x y (bW (aZ k0 (az k0 x y)) x y ((az k0 x y).take i)) c):=by
  intro i c hc ht;have hlt:=aQ hc;have hd:(az k0 x y).drop i=c::(az k0 x y).drop (i+1):=by
   rw[List.drop_eq_getElem_cons hlt];congr 1;rw[List.getElem?_eq_getElem hlt] at hc;injection hc
  rw[hd] at ht;have hall:(az k0 x y).take i++c::(az k0 x y).drop (i+1)=az k0 x y:=by rw[← hd,List.take_append_drop]
  refine Qy h K (fun d hd=>fG h K (by rwa [hall] at hd)) (by rw[hall];exact wY K _ _) (by rw[hall];exact De K _ _) ht
 induction i with
 | zero =>
  intro _;have hs:T2 k0 x y ((az k0 x y).take 0) ((az k0 x y).drop 0) (bW (aZ k0 (az k0 x y)) x y ((az k0 x y).take 0)):=MR h K hR;exact⟨hs,fun c hc=>(hstep 0 c hc hs).1⟩
 | succ i ih =>
  intro hi;obtain⟨t,_⟩:=ih (by omega);obtain⟨c,hc⟩:∃ c,(az k0 x y)[i]?=some c:=⟨_,List.getElem?_eq_getElem (by omega)⟩;have h2:=(hstep i c hc t).2;have e1:(az k0 x y).take (i+1)=(az k0 x y).take i++[c]:=by rw[List.take_add_one,hc];rfl
  have e2:bW (aZ k0 (az k0 x y)) x y ((az k0 x y).take (i+1))=ic x y (bW (aZ k0 (az k0 x y)) x y ((az k0 x y).take i)) c:=l8 _ _ hc;have hs:T2 k0 x y ((az k0 x y).take (i+1)) ((az k0 x y).drop (i+1)) (bW (aZ k0 (az k0 x y)) x y ((az k0 x y).take (i+1))):=by rw[e1,e2] at *;exact h2
  exact⟨hs,fun c hc=>(hstep (i+1) c hc hs).1⟩
theorem AR (h:XY k0 l x y) (K:KI k0) (hR:gJ k0 x y=true):T2 k0 x y (az k0 x y) [] (bW (aZ k0 (az k0 x y)) x y (az k0 x y)):=by
 have:=(Hr h K hR (az k0 x y).length (Nat.le_refl _)).1
 rwa [List.take_length,List.drop_length] at this
theorem Ht {L:List bP} {p:bP} {r:Int} (hp:p∈L) (hr:p.1.lo=r∨p.1.hi=r):0<par L r:=by
 rcases Nat.eq_zero_or_pos (par L r) with h | h
 ·obtain⟨a,b⟩:=iT.1 h p hp;rcases hr with h | h
  ·exact absurd h a
  ·exact absurd h b
 ·exact h
theorem AU (h:XY k0 l x y) (K:KI k0) (t:T2 k0 x y (az k0 x y) [] k):Pos k:=by
 intro n r hn;have hb:=t.bk;have happ:az k0 x y++[]=az k0 x y:=List.append_nil _;rw[happ] at hb;obtain⟨hu,_⟩:=hb.Qe (List.mem_append_left _ hn);rw[hu];rcases Nat.eq_zero_or_pos (par k.L r+(if k.hs.getD r.toNat 0=0 then 0 else 1)+(kids (az k0 x y)).count r) with h0 | h0
 ·exfalso;have hp0:par k.L r=0:=by omega
  have hk0:(kids (az k0 x y)).count r=0:=by omega
  have hh0:k.hs.getD r.toNat 0=0:=by
   by_cases hh:k.hs.getD r.toNat 0=0
   ·exact hh
   ·rw[if_neg hh] at h0;omega
  have old:∀ m,(m,r)∈k0.L→False:=by
   intro m hm;have h1:=K.pos m r hm;obtain⟨h2,_⟩:=K.bk.Qe (List.mem_append_left [] hm);rw[h2,← t.hsd,hh0] at h1;simp only[if_true,List.count_nil] at h1;have h3:0<par k0.L r:=by omega
   obtain⟨p,hp,hpr⟩:∃ p∈k0.L,p.1.lo=r∨p.1.hi=r:=by
    refine Classical.byContradiction (fun hno=>?_)
    have:=iT.2 (fun p hp=>⟨fun e=>hno ⟨p,hp,.inl e⟩,fun e=>hno ⟨p,hp,.inr e⟩⟩:∀ p∈k0.L,p.1.lo≠r∧p.1.hi≠r)
    omega
   by_cases hc:∃ c∈az k0 x y,p.2=c.r
   ·obtain⟨c,hc1,hc2⟩:=hc;have he:=K.uniq (r:=p.2) hp (by rw[hc2];exact(fG h K hc1).mem)
    have:r∈kids (az k0 x y):=by
     unfold kids;refine List.mem_flatMap.2 ⟨c,hc1,?_⟩;rw[he] at hpr;simp;rcases hpr with e | e
     ·exact .inl e.symm
     ·exact .inr e.symm
    exact absurd this (List.count_eq_zero.1 hk0)
   ·have:=Ht (t.base p hp (fun c hc1 he=>hc ⟨c,by rwa [happ] at hc1,he⟩)) hpr
    omega
  rcases t.ent _ hn with⟨h1,_⟩ | ⟨c,hc,h1,h2⟩ | ⟨c,hc,h1,_⟩
  ·exact old n h1
  ·obtain⟨m,m1,_,m3,m4⟩:=t.dn c hc;simp only at h1 h2
   have:m.lo=r∨m.hi=r:=by
    rcases h1 with rfl | rfl
    ·left;unfold qQ at m3;rw[if_neg h2] at m3;exact fP hb.kn m3 hn
    ·right;unfold qQ at m4;rw[if_neg h2] at m4;exact fP hb.kn m4 hn
   have:=Ht m1 this
   omega
  ·simp only at h1;exact old c.n (by rw[h1];exact(fG h K hc).mem)
 ·omega
theorem AV (h:XY k0 l x y) (K:KI k0):wR k0 l x y:=by
 obtain⟨xn,yn,lx,ly,xy,ix,iy⟩:=h.facts K;have hLl:k0.L.length≤1048576∧k0.c≤1048576:=by
  have h3:=K.bk.cnt;have h4:=K.bk.iG;have h5:=K.bk.lim;have h6:=K.bk.cM;simp only[List.length_append] at h3;omega
 have hcs:=fun c (hc:c∈az k0 x y)=>fG h K hc
 have hlow:∀ q,Low k0 l q→0≤q∧q<4294967296:=fun q hq=>⟨hq.1,by have:=K.bk.lt hq.1 hq.2.1;omega⟩
 refine⟨h.hx,h.hy,xn,yn,xy,K.bk.n64,by omega,by omega,?_,?_,?_,?_,by rw[K.lv.ll];exact xn,by rw[K.lv.ll];exact yn⟩
 ·intro r hr;obtain⟨n,hn⟩:=p8.1 hr;have hn1:=(List.mem_filter.1 hn).1;have hm:=K.mem' hn1;have hlt:=K.bk.lt (by omega) hm.2.2;obtain⟨_,_,a,b,c,d⟩:=K.bk.ML r rfl;exact⟨by omega,by omega,a,by omega,b,by omega⟩
 ·intro c hc;have hC:=hcs c hc;obtain⟨v0,v1,l0,h0,lt,ht,_⟩:=K.bk.eZ _ _ hC.mem;have hl:=K.bk.lt l0 lt;have hh:=K.bk.lt h0 ht
  have:=K.bk.n64
  exact⟨⟨hlow _ hC.Px,hlow _ hC.BM,hlow _ hC.l10,hlow _ hC.Wq⟩,Nd.CK v0 (by omega) l0 (by omega) h0 (by omega),l0,by omega,h0,by omega⟩
 ·intro hR i c hc;exact(Hr h K hR i (Nat.le_of_lt (aQ hc))).2 c hc
 ·intro hR i c hc;have hlt:=aQ hc;have t:=AR h K hR;have hp:=AU h K t;have hb:=t.bk;rw[List.append_nil] at hb;have hd:(az k0 x y).drop i=c::(az k0 x y).drop (i+1):=by
   rw[List.drop_eq_getElem_cons hlt];congr 1;rw[List.getElem?_eq_getElem hlt] at hc;injection hc
  have hk:kids (az k0 x y)=kids ((az k0 x y).take i)++kids ((az k0 x y).drop i):=by rw[← Da,List.take_append_drop]
  have hb':Bk (bW (aZ k0 (az k0 x y)) x y (az k0 x y)) (kids ((az k0 x y).take i)++kids ((az k0 x y).drop i)) []:=by rw[← hk];exact hb
  obtain⟨a1,a2,_,_⟩:=nI _ _ _ hb' hp;rw[hd] at a1;have a1':Bk (fA (bW (aZ k0 (az k0 x y)) x y (az k0 x y)) ((az k0 x y).take i)) (c.n.lo::(c.n.hi::kids ((az k0 x y).drop (i+1)))) []:=a1;exact⟨⟨_,a1'⟩,⟨_,(vg a1' a2).1⟩⟩
end
section
variable {w:World} {kp:Nat} {k:KS} {a:KA} {ext:List Int} {X:List bP} {n:Nd}
theorem KW.oH (h:KW w kp k a):KW (w.setCell ⟨kp,7,none⟩ (.slice none 0 0)) kp { k with tr:=[] } { a with tA:=none,tC:=0 }∧dB k.n kp w a (w.setCell ⟨kp,7,none⟩ (.slice none 0 0)) { a with tA:=none,tC:=0 }:=by
 refine h.zi (r:=[]) (A2:=none) (C2:=0) ((ah.refl _ w).setCell (p:=⟨kp,7,none⟩) (.inl (.inl rfl)) _) ?_ (Own.nil _ _ _ _) (fun b ⟨_,hx,_⟩=>by cases hx)
 have:=h.blk.set 7 (.slice none 0 0)
 simpa [dw] using this
theorem Bk.hsv (hb:Bk k ext X) (r:Int):∀ x,k.hs[r.toNat]?=some x→0≤x∧x≤65535:=fun x hx=>⟨(hb.hol _ x hx).1,(hb.hol _ x hx).2.1⟩
theorem sP (h:KW w kp k a) (hb:Bk k ext []) (r:Int) (h0:0≤r) (h1:r<4294967296) :
  Calls Tryz.prog 15 #[.pointer (some ⟨kp,0,none⟩),.int .u32 r] w fun e w'=>e=.returned (.int .i64 (bE k r).1)∧∃ a',KW w' kp (bE k r).2 a'∧dB k.n kp w a w' a':=by
 have hkl:=h.blk.lt;have hlv:=oz h r h0 h1;unfold bE;cases ht:tk k.ls r with
 | false =>
  rw[ht] at hlv;rw[if_pos rfl];have HL:=Lib.hid hlv;have H:=Lib.hid h;clear hlv h ht hb;go_enter Tryz.func15,Tryz.ntmps15;go_wp2_with (fail)
  refine HL.out.mono ?_;rintro e w1 ⟨rfl,hs1⟩;go_wp2;go_ret;exact⟨rfl,a,H.out.same hs1,dB.same hs1⟩
 | true =>
  rw[ht] at hlv;rw[if_neg (by simp)];have HL:=Lib.hid hlv;by_cases hr:1<r
  ·rw[if_pos hr];obtain⟨n,hn⟩:∃ n,(n,r)∈k.L:=by
    rcases(hb.Pm h0).1 ht with h | h | ⟨n,h⟩
    ·omega
    ·omega
    ·exact⟨n,by simpa using h⟩
   have hn':=List.mem_append_left ([]:List bP) hn;obtain⟨u,hu,hud,hu1,_⟩:=hb.wG hn';obtain⟨m,rfl,_,mu,_⟩:=hb.mem _ _ hn';rw[Int.toNat_natCast] at hu hud;have hlt:m<k.hs.length:=by rw[← hb.ul];exact mu
   obtain⟨x,hx⟩:∃ x,k.hs[m]?=some x:=⟨_,List.getElem?_eq_getElem hlt⟩;obtain⟨x0,x1,_⟩:=hb.hol m x hx;have hxd:k.hs.getD (m:Int).toNat 0=x:=by rw[Int.toNat_natCast,List.getD_eq_getElem?_getD,hx];rfl
   rw[hxd];have hgt:(m:Int)>1:=hr;have Uc:(m:Int)<(k.hs.length:Int):=by omega
   have hmU:(m:Int)<(k.us.length:Int):=by omega
   have HX:=Lib.hid hx;have HU:=Lib.hid hu;have HUD:=Lib.hid hud;have HXD:=Lib.hid hxd;have H:=Lib.hid h;have HB:=Lib.hid hb;clear hlv h ht hb hn hn' hu hud hx hxd hr;by_cases hx5:x=65535
   ·rw[if_pos hx5];subst hx5;go_enter Tryz.func15,Tryz.ntmps15;go_wp2_with (fail)
    refine HL.out.mono ?_;rintro e w1 ⟨rfl,hs1⟩;have hk1:=H.out.same hs1;obtain⟨sb,hA,hsb,hne,hc,hf⟩:=hk1.CG HX.out;have c3:=hk1.c3;rw[hA] at c3;have Jk:=hk1.blk.lt;have aW:=Lib.hid hs1;clear hs1 hk1 hA;go_wp2;go_ret;exact⟨rfl,a,H.out.same aW.out,dB.same aW.out⟩
   ·rw[if_neg hx5];have acV:(x == 65535)=false:=by simpa using hx5
    go_enter Tryz.func15,Tryz.ntmps15;go_wp2_with (fail)
    refine HL.out.mono ?_;rintro e w1 ⟨rfl,hs1⟩;have hk1:=H.out.same hs1;obtain⟨sb,hA,hsb,hne,hc,hf⟩:=hk1.CG HX.out;have c3:=hk1.c3;rw[hA] at c3;have Jk:=hk1.blk.lt;have hset:=hk1.Md hA (i:=m) (by omega) (x+1);have hx2:x<65535:=by omega
    have aW:=Lib.hid hs1;have p9:=Lib.hid hset;have HA:=Lib.hid hA;clear hs1 hk1 hset hA hx5;go_upto_region 9 with fail
    refine ai fun w2 hw2=>?_
    rw[← hw2] at p9;have hk2:=p9.out.1;have c3:w2.cell? ⟨kp,3,none⟩=some (.slice (some ⟨sb,0,none⟩) k.hs.length a.hC):=by
     have:=hk2.c3
     rw[HA.out] at this;simpa using this
    have hc:w2.cell? ⟨sb,m,none⟩=some (.int .i32 (x+1)):=by
     obtain⟨sb2,q1,_,_,q4,_⟩:=hk2.CG (i:=m) (x:=x+1) (by show(k.hs.set m (x+1))[m]?=_;rw[List.getElem?_set,if_pos rfl,if_pos (by omega)]);rw[HA.out] at q1;injection q1 with q1
     injection q1 with q1
     subst q1;exact q4
    have Jy:=hk2.blk.lt;have aa9:sb<w2.heap.size:=by
     have:=hk2.hs.block
     rw[HA.out] at this;exact this _ rfl
    by_cases hx0:x=0
    ·subst hx0;obtain⟨ub,hUA,hub,acW,huc,huf⟩:=hk2.Qb HU.out;have c2:=hk2.c2;rw[hUA] at c2;have SQ:=hk2.GH hUA (i:=m) (by show m<k.us.length;omega) ((u:Int)+1);have Dg:=Lib.hid SQ;clear hw2 hk2 SQ hf;go_upto_region 11 with fail
     refine ai fun w3 hw3=>?_
     rw[← hw3] at Dg;have hcl:=Dg.out.1.oH;have hkb:=Dg.out.1.blk;have f7:=hkb.free 7;have c7:=Dg.out.1.c7;have XX:=hkb.lt;have vk:=Lib.hid hcl;clear hw3 hcl hkb Jy c2 c3 hc huc huf;go_wp2;go_ret;have he:({ jh k (m:Int) with tr:=[] }:KS)={ k with hs:=k.hs.set m 1,us:=k.us.set m ((u:Int)+1),tr:=[] }:=by
      unfold jh;rw[HXD.out,if_pos rfl];unfold bN;rw[if_pos (by omega),Int.toNat_natCast,HUD.out];rfl
     rw[he];refine⟨rfl,_,vk.out.1,?_⟩;exact(dB.same aW.out).trans (p9.out.2.trans (Dg.out.2.trans vk.out.2))
    ·have aba:(x+1 == 1)=false:=by simp <;> omega
     have hcl:=hk2.oH;have f7:=hk2.blk.free 7;have c7:=hk2.c7;have vk:=Lib.hid hcl;have HX0:=Lib.hid hx0;clear hw2 hk2 hcl hx0 hf;go_wp2;go_ret;have he:({ jh k (m:Int) with tr:=[] }:KS)={ k with hs:=k.hs.set m (x+1),tr:=[] }:=by
      unfold jh;rw[HXD.out,if_neg HX0.out];rfl
     rw[he];refine⟨rfl,_,vk.out.1,?_⟩;exact(dB.same aW.out).trans (p9.out.2.trans vk.out.2)
  ·rw[if_neg hr];have hgt:¬ r>1:=hr;have H:=Lib.hid h;clear hlv h ht hb hr;go_enter Tryz.func15,Tryz.ntmps15;go_wp2_with (fail)
   refine HL.out.mono ?_;rintro e w1 ⟨rfl,hs1⟩;have hk1:=H.out.same hs1;have hcl:=hk1.oH;have f7:=hk1.blk.free 7;have c7:=hk1.c7;have Jk:=hk1.blk.lt;have vk:=Lib.hid hcl;have aW:=Lib.hid hs1;clear hk1 hcl hs1;go_wp2;go_ret;exact⟨rfl,_,vk.out.1,(dB.same aW.out).trans vk.out.2⟩
theorem zx (h:KW w kp k a) (hb:Bk k [] []) (r:Int) (h0:0≤r) (h1:r<4294967296) :
  Calls Tryz.prog 19 #[.pointer (some ⟨kp,0,none⟩),.int .u32 r] w fun e w'=>e=.returned (.int .i64 (dF k r).1)∧∃ a',KW w' kp (dF k r).2 a'∧dB k.n kp w a w' a':=by
 have hkl:=h.blk.lt;have hh:=sN h r h0 h1 (hb.hsv r);unfold dF;by_cases hr:1<r
 ·rw[if_pos hr];obtain⟨x,hx⟩:∃ x,k.hs.getD r.toNat 0=x:=⟨_,rfl⟩;rw[hx] at hh;rw[hx];have HH:=Lib.hid hh;have hgt:r>1:=hr;by_cases hx0:x=0
  ·rw[if_pos hx0];subst hx0;have H:=Lib.hid h;clear hh h hx hb hr;go_enter Tryz.func19,Tryz.ntmps19;go_wp2_with (fail)
   refine HH.out.mono ?_;rintro e w1 ⟨rfl,rfl⟩;go_wp2;go_ret;exact⟨rfl,a,H.out,dB.refl _ _ _ _⟩
  ·rw[if_neg hx0];have aba:(x == 0)=false:=by simpa using hx0
   obtain⟨n,hn⟩:=nH hb h0 (by rw[hx];exact hx0);obtain⟨m,rfl,_,mu,_⟩:=hb.mem _ _ hn;rw[Int.toNat_natCast] at hx;have hlt:m<k.hs.length:=by rw[← hb.ul];exact mu
   have hxg:k.hs[m]?=some x:=by
    rw[List.getD_eq_getElem?_getD,List.getElem?_eq_getElem hlt] at hx;rw[List.getElem?_eq_getElem hlt,← hx];rfl
   obtain⟨x0,x1,_⟩:=hb.hol m x hxg;have Uc:(m:Int)<(k.hs.length:Int):=by omega
   have hx1:1≤x:=by omega
   obtain⟨sb,hA,hsb,hne,hc,hf⟩:=h.CG hxg;have c3:=h.c3;rw[hA] at c3;have hset:=h.Md hA (i:=m) (by omega) (x-1);have YA:x=1→Bk { k with hs:=k.hs.set m 0 } [(m:Int)] []:=fun he=>by
    have:=zu hb hn (by rw[Int.toNat_natCast,hx];omega) (by have:=hb.bd;have:=hb.cnt;have:=hb.cM;have:=hb.lim;have:=hb.iG;simp only[List.length_append,List.length_nil] at *;omega)
    rwa [Int.toNat_natCast] at this
   have HUB:=Lib.hid YA;have p9:=Lib.hid hset;have HXX:=Lib.hid hx;have HA:=Lib.hid hA;have yD:∀ v:Int,(k.hs.set m v)[m]?=some v:=fun v=>by rw[List.getElem?_set,if_pos rfl,if_pos hlt]
   have Ll:=Lib.hid yD;clear hh h hx hb hn hset YA hxg hA hx0 yD hr;go_enter Tryz.func19,Tryz.ntmps19;go_wp2_with (fail)
   refine HH.out.mono ?_;rintro e w1 ⟨rfl,rfl⟩;go_upto_region 7 with fail
   refine ai fun w2 hw2=>?_
   rw[← hw2] at p9;have hk2:=p9.out.1;have c3':w2.cell? ⟨kp,3,none⟩=some (.slice (some ⟨sb,0,none⟩) k.hs.length a.hC):=by
    have:=hk2.c3
    rw[HA.out] at this;simpa using this
   have hc':w2.cell? ⟨sb,m,none⟩=some (.int .i32 (x-1)):=by
    obtain⟨sb2,q1,_,_,q4,_⟩:=hk2.CG (i:=m) (x:=x-1) (Ll.out _);rw[HA.out] at q1;injection q1 with q1
    injection q1 with q1
    subst q1;exact q4
   have Jy:=hk2.blk.lt;have aa9:sb<w2.heap.size:=by
    have:=hk2.hs.block
    rw[HA.out] at this;exact this _ rfl
   clear c3 hc hf hkl hsb;by_cases hx1:x=1
   ·subst hx1;have hr:=fun w' (hw:KW w' kp { k with hs:=k.hs.set m 0 } a)=>l6 hw (HUB.out rfl)
    have HR:=Lib.hid hr;clear hw2 hk2 hr;go_wp2_with (fail)
    refine(HR.out _ p9.out.1).mono ?_;rintro e w3 ⟨rfl,a3,hk3,hg3⟩;have hcl:=hk3.oH;have f7:=hk3.blk.free 7;have c7:=hk3.c7;have XX:=hk3.blk.lt;have vk:=Lib.hid hcl;have CL:=Lib.hid hg3;have MJ:Hid ((jY { k with hs:=k.hs.set m 0 } (m:Int)).n=k.n):=Lib.hid (nG _ _ _);clear hk3 hcl hg3 c3' hc';go_wp2;go_ret;have he:ig k (m:Int)=jY { k with hs:=k.hs.set m 0 } (m:Int):=by
     unfold ig;rw[Int.toNat_natCast,HXX.out,if_pos rfl]
    rw[he];refine⟨rfl,_,vk.out.1,?_⟩;have h2:=vk.out.2;rw[MJ.out] at h2;exact p9.out.2.trans (CL.out.trans h2)
   ·have acX:(x-1 == 0)=false:=by simp <;> omega
    have hcl:=hk2.oH;have f7:=hk2.blk.free 7;have c7:=hk2.c7;have vk:=Lib.hid hcl;have mI:=Lib.hid hx1;clear hw2 hk2 hcl hx1;go_wp2;go_ret;have he:ig k (m:Int)={ k with hs:=k.hs.set m (x-1) }:=by
     unfold ig;rw[Int.toNat_natCast,HXX.out,if_neg mI.out]
    rw[he];exact⟨rfl,_,vk.out.1,p9.out.2.trans vk.out.2⟩
 ·rw[if_neg hr];have hgt:¬ r>1:=hr;have hcl:=h.oH;have f7:=h.blk.free 7;have c7:=h.c7;have vk:=Lib.hid hcl;clear hh h hb hr hcl;go_enter Tryz.func19,Tryz.ntmps19;go_wp2;go_ret;exact⟨rfl,_,vk.out.1,vk.out.2⟩
end
def bU (k:KS) (r:Int):Int×Int×KS:=if (bE k r).1=0 then (r,0,(bE k r).2) else (0,(bE k r).1,(bE k r).2)
def pI (k:KS) (n:Nd):Option Int→Int×Int×KS
 | some r=>bU k r
 | none=>if k.ac+1≤k.c then bU (aT k n) (aC k) else (0,9,k)
def aV (k:KS) (n:Nd):Int×Int×KS:=if iB k n=0 then pI k n (fD k n) else (0,iB k n,k)
def qV (k:KS) (n:Nd):Option Int:=if iB k n=0 then fD k n else none
section
variable {w:World} {kp:Nat} {k:KS} {a:KA} {ext:List Int} {X:List bP} {n:Nd}
theorem Qz (h:iB k n=0):0≤n.v∧n.v<k.n∧tk k.ls n.lo=true∧tk k.ls n.hi=true:=by
 unfold iB at h;split at h
 ·cases h
 ·rename_i h1;split at h
  ·cases h
  ·rename_i h2;have h1':0≤n.v∧n.v<k.n:=Classical.byContradiction h1;refine⟨h1'.1,h1'.2,?_,?_⟩
   ·cases ht:tk k.ls n.lo with
    | true=>rfl
    | false=>exact absurd (.inl ht) h2
   ·cases ht:tk k.ls n.hi with
    | true=>rfl
    | false=>exact absurd (.inr ht) h2
theorem AX (h:iB k n=0) (l0:0≤n.lo) (h0:0≤n.hi):jO k n:=by
 obtain⟨a,b,c,d⟩:=Qz h;exact⟨a,b,l0,c,h0,d⟩
theorem zy (hb:Bk k ext []) (hn:jO k n) {r:Int} (hs:fD k n=some r):0≤r∧r<1048576∧tk k.ls r=true:=by
 unfold fD at hs;split at hs
 ·injection hs with hs
  subst hs;exact⟨hn.l0,hb.lt hn.l0 hn.l1,hn.l1⟩
 ·have hm:=hb.jq (List.mem_append_left [] (gp hs));exact⟨by omega,hb.lt (by omega) hm.2.2,hm.2.2⟩
theorem oI (hs:fD k n=none):n.lo≠n.hi∧n∉keys k.L:=by
 unfold fD at hs;split at hs
 ·cases hs
 ·rename_i h;exact⟨h,cB.1 hs⟩
theorem xg (hb:Bk k [] []) (hn:jO k n) (hs:fD k n=none) (hc:k.ac+1≤k.c):Bk (aT k n) [] []:=by
 obtain⟨h1,h2⟩:=oI hs;refine GG hb (by omega) ⟨hn.v0,hn.v1⟩ hn.l0 hn.l1 hn.h0 hn.h1 h1 h2 ?_
 have:=hb.cnt
 have:=hb.cM
 have:=hb.lim
 have:=hb.iG
 simp only[List.length_append,List.length_nil] at *
 omega
theorem MU (hb:Bk k ext X):(aC k:Int)<4294967296:=by
 have:=(fC hb).2.2.1
 have:=hb.lim
 have:=hb.cM
 omega
theorem zA (h:KW w kp k a) (hb:Bk k [] []) (hl:Lv k) (n:Nd) (l0:0≤n.lo) (l1:n.lo<4294967296) (h0:0≤n.hi) (h1:n.hi<4294967296) :
  Calls Tryz.prog 14 #[.pointer (some ⟨kp,0,none⟩),.int .i64 n.v,.int .u32 n.lo,.int .u32 n.hi] w fun e w'=>e=.returned (.tuple #[.int .u32 (aV k n).1,.int .i64 (aV k n).2.1])∧∃ a',KW w' kp (aV k n).2.2 a'∧dB k.n kp w a w' a':=by
 have hkl:=h.blk.lt;have hf:=Jz h hb hl n l0 l1 h0 h1;unfold aV;by_cases hz:iB k n=0
 ·rw[if_pos hz];rw[hz] at hf;have hnd:=AX hz l0 h0;have hok:=hnd.ok hb;have hsk:=fun w' (hw:Same w w')=>JA (h.same hw) n hok
  cases hl':fD k n with
  | some r =>
   obtain⟨r0,r1,_⟩:=zy hb hnd hl';rw[hl'] at hsk;have hkp:=fun w' (hw:Same w w')=>sP (h.same hw) hb r r0 (by omega)
   show Calls _ _ _ _ fun e w'=>e=.returned (.tuple #[.int .u32 (bU k r).1,.int .i64 (bU k r).2.1])∧∃ a',KW w' kp (bU k r).2.2 a'∧dB k.n kp w a w' a'
   unfold bU;obtain⟨ke,hke⟩:∃ ke,bE k r=ke:=⟨_,rfl⟩;rw[hke] at hkp;rw[hke];have HF:=Lib.hid hf;have HS:=Lib.hid hsk;have HK:=Lib.hid hkp;clear hf hsk hkp hke hl' hz h hb hl hnd hok;by_cases h0':ke.1=0
   ·rw[if_pos h0'];have H0:=Lib.hid h0';have Li:(ke.1 != 0)=false:=by simpa using h0'
    clear h0';go_enter Tryz.func14,Tryz.ntmps14;go_wp2_with (fail)
    refine HF.out.mono ?_;rintro e w1 ⟨rfl,hs1⟩;have aW:=Lib.hid hs1;clear hs1;go_wp2_with (fail)
    refine(HS.out _ aW.out).mono ?_;rintro e w2 ⟨rfl,hs2⟩;have HS2:=Lib.hid (aW.out.trans hs2 (fun _ _ h=>h));clear hs2;simp only[Option.isSome_some,Option.getD_some];go_wp2_with (fail)
    refine(HK.out _ HS2.out).mono ?_;rintro e w3 ⟨rfl,a3,hk3,hg3⟩;have GI:=Lib.hid hk3;have CL:=Lib.hid hg3;clear hk3 hg3;go_wp2;go_ret2;exact⟨rfl,a3,GI.out,(dB.same HS2.out).trans CL.out⟩
   ·rw[if_neg h0'];have Li:(ke.1 != 0)=true:=by simpa using h0'
    clear h0';go_enter Tryz.func14,Tryz.ntmps14;go_wp2_with (fail)
    refine HF.out.mono ?_;rintro e w1 ⟨rfl,hs1⟩;have aW:=Lib.hid hs1;clear hs1;go_wp2_with (fail)
    refine(HS.out _ aW.out).mono ?_;rintro e w2 ⟨rfl,hs2⟩;have HS2:=Lib.hid (aW.out.trans hs2 (fun _ _ h=>h));clear hs2;simp only[Option.isSome_some,Option.getD_some];go_wp2_with (fail)
    refine(HK.out _ HS2.out).mono ?_;rintro e w3 ⟨rfl,a3,hk3,hg3⟩;have GI:=Lib.hid hk3;have CL:=Lib.hid hg3;clear hk3 hg3;go_wp2;go_ret2;exact⟨rfl,a3,GI.out,(dB.same HS2.out).trans CL.out⟩
  | none =>
   rw[hl'] at hsk;have hrm:=fun w' (hw:Same w w')=>zk (h.same hw) 1 (by omega)
   obtain⟨hne,hnew⟩:=oI hl';show Calls _ _ _ _ fun e w'=>e=.returned (.tuple #[.int .u32 (if k.ac+1≤k.c then bU (aT k n) (aC k) else (0,9,k)).1,.int .i64 (if k.ac+1≤k.c then bU (aT k n) (aC k) else (0,9,k)).2.1])∧∃ a',KW w' kp (if k.ac+1≤k.c then bU (aT k n) (aC k) else (0,9,k)).2.2 a'∧dB k.n kp w a w' a'
   by_cases hc:k.ac+1≤k.c
   ·rw[if_pos hc];have YB:decide (k.ac+1≤k.c)=true:=by simpa using hc
    rw[YB] at hrm;have htk:=fun w' (hw:Same w w')=>zm (h.same hw) hb hnd (by omega) hne hnew
    have hbt:=xg hb hnd hl' hc;have hkp:=fun w' a' (hw:KW w' kp (aT k n) a')=>sP hw hbt (aC k) (by omega) (MU hb)
    have htn:=Ay k n;unfold bU;obtain⟨tr,htr⟩:∃ tr,aC k=tr:=⟨_,rfl⟩;rw[htr] at htk hkp;rw[htr];obtain⟨k2,hk2⟩:∃ k2,aT k n=k2:=⟨_,rfl⟩;rw[hk2] at htk hkp htn;rw[hk2];obtain⟨ke,hke⟩:∃ ke,bE k2 tr=ke:=⟨_,rfl⟩;rw[hke] at hkp;rw[hke];have HF:=Lib.hid hf;have HS:=Lib.hid hsk;have HK:=Lib.hid hkp;have HT:=Lib.hid htk;have HR:=Lib.hid hrm;have Ml:=Lib.hid htn;clear hf hsk hkp hke hl' hz h hb hl hnd hok YB hrm htk hbt htn htr hk2 hne hnew hc;by_cases h0':ke.1=0
    ·rw[if_pos h0'];have Li:(ke.1 != 0)=false:=by simpa using h0'
     clear h0';go_enter Tryz.func14,Tryz.ntmps14;go_wp2_with (fail)
     refine HF.out.mono ?_;rintro e w1 ⟨rfl,hs1⟩;have aW:=Lib.hid hs1;clear hs1;go_wp2_with (fail)
     refine(HS.out _ aW.out).mono ?_;rintro e w2 ⟨rfl,hs2⟩;have HS2:=Lib.hid (aW.out.trans hs2 (fun _ _ h=>h));clear hs2;simp only[Option.isSome_none,Option.getD_none];go_wp2_with (fail)
     refine(HR.out _ HS2.out).mono ?_;rintro e w3 ⟨rfl,hs3⟩;have dX:=Lib.hid (HS2.out.trans hs3 (fun _ _ h=>h));clear hs3;go_wp2_with (fail)
     refine(HT.out _ dX.out).mono ?_;rintro e w4 ⟨rfl,a4,hk4,hg4⟩;have Lc:=Lib.hid hk4;have Wh:=Lib.hid hg4;clear hk4 hg4;go_wp2_with (fail)
     refine(HK.out _ _ Lc.out).mono ?_;rintro e w5 ⟨rfl,a5,hk5,hg5⟩;rw[Ml.out] at hg5;have Pn:=Lib.hid hk5;have Xp:=Lib.hid hg5;clear hk5 hg5;go_wp2;go_ret2;exact⟨rfl,a5,Pn.out,((dB.same dX.out).trans Wh.out).trans Xp.out⟩
    ·rw[if_neg h0'];have Li:(ke.1 != 0)=true:=by simpa using h0'
     clear h0';go_enter Tryz.func14,Tryz.ntmps14;go_wp2_with (fail)
     refine HF.out.mono ?_;rintro e w1 ⟨rfl,hs1⟩;have aW:=Lib.hid hs1;clear hs1;go_wp2_with (fail)
     refine(HS.out _ aW.out).mono ?_;rintro e w2 ⟨rfl,hs2⟩;have HS2:=Lib.hid (aW.out.trans hs2 (fun _ _ h=>h));clear hs2;simp only[Option.isSome_none,Option.getD_none];go_wp2_with (fail)
     refine(HR.out _ HS2.out).mono ?_;rintro e w3 ⟨rfl,hs3⟩;have dX:=Lib.hid (HS2.out.trans hs3 (fun _ _ h=>h));clear hs3;go_wp2_with (fail)
     refine(HT.out _ dX.out).mono ?_;rintro e w4 ⟨rfl,a4,hk4,hg4⟩;have Lc:=Lib.hid hk4;have Wh:=Lib.hid hg4;clear hk4 hg4;go_wp2_with (fail)
     refine(HK.out _ _ Lc.out).mono ?_;rintro e w5 ⟨rfl,a5,hk5,hg5⟩;rw[Ml.out] at hg5;have Pn:=Lib.hid hk5;have Xp:=Lib.hid hg5;clear hk5 hg5;go_wp2;go_ret2;exact⟨rfl,a5,Pn.out,((dB.same dX.out).trans Wh.out).trans Xp.out⟩
   ·rw[if_neg hc];have YB:decide (k.ac+1≤k.c)=false:=by simpa using hc
    rw[YB] at hrm;have HF:=Lib.hid hf;have HS:=Lib.hid hsk;have HR:=Lib.hid hrm;have H:=Lib.hid h;clear hf hsk hl' hz h hb hl hnd hok YB hrm hne hnew hc;go_enter Tryz.func14,Tryz.ntmps14;go_wp2_with (fail)
    refine HF.out.mono ?_;rintro e w1 ⟨rfl,hs1⟩;have aW:=Lib.hid hs1;clear hs1;go_wp2_with (fail)
    refine(HS.out _ aW.out).mono ?_;rintro e w2 ⟨rfl,hs2⟩;have HS2:=Lib.hid (aW.out.trans hs2 (fun _ _ h=>h));clear hs2;simp only[Option.isSome_none,Option.getD_none];go_wp2_with (fail)
    refine(HR.out _ HS2.out).mono ?_;rintro e w3 ⟨rfl,hs3⟩;have dX:=Lib.hid (HS2.out.trans hs3 (fun _ _ h=>h));clear hs3;go_wp2;go_ret2;exact⟨rfl,a,H.out.same dX.out,dB.same dX.out⟩
 ·rw[if_neg hz];generalize iB k n=fz at *
  have Li:(fz != 0)=true:=by simpa using hz
  have HF:=Lib.hid hf;have H:=Lib.hid h;clear hf hz h hb hl;go_enter Tryz.func14,Tryz.ntmps14;go_wp2_with (fail)
  refine HF.out.mono ?_;rintro e w1 ⟨rfl,hs1⟩;go_wp2;go_ret2;exact⟨rfl,a,H.out.same hs1,dB.same hs1⟩
end
def bL (k:KS) (l:Int):Int×KS:=if l<0∨(k.n:Int)-2<l then (1,k) else if (dR k l.toNat).1 then (0,{ (dR k l.toNat).2 with tr:=(dR k l.toNat).2.tr++[l] }) else (9,(dR k l.toNat).2)
def bO (k:KS):Int×Int×KS:=match k.tr.getLast? with
 | none=>(0,10,k)
 | some l=>(l,0,{ (dR k l.toNat).2 with tr:=(dR k l.toNat).2.tr.dropLast })
theorem AY (k:KS) (l:Nat):(dR k l).2.n=k.n:=by
 unfold dR;split
 ·show(fA (bW (aZ k _) _ _ _) _).n=k.n;rw[G7,AA,u6]
 ·rfl
theorem Dh (k:KS) (l:Nat):(dR k l).2.tr=k.tr:=by
 unfold dR;split
 ·show(fA (bW (aZ k _) _ _ _) _).tr=k.tr
  have:=congrArg (fun t=>t.2.2.2.2) ((iI (bW (aZ k (az k (k.ord.getD l 0) (k.ord.getD (l+1) 0))) (k.ord.getD l 0) (k.ord.getD (l+1) 0) (az k (k.ord.getD l 0) (k.ord.getD (l+1) 0))) (az k (k.ord.getD l 0) (k.ord.getD (l+1) 0))).trans ((lg _ _ _ _).trans (kZ _ _)))
  exact this
 ·rfl
section
variable {w:World} {kp:Nat} {k:KS} {a:KA} {ext:List Int} {X:List bP} {n:Nd}
theorem JE:(Tryz.prog.info? 3).map (fun i=>(i.zero,i.size,i.bytes))=some (some (.int .i64 0),1,8):=by kernel_rfl
theorem zB (h:KW w kp k a) (hn:k.n≤64) (l:Int) (hT:0≤l→l≤(k.n:Int)-2→∃ x y,wR k l.toNat x y) (htr:(k.tr.length+1)*8≤140737488355328) :
  Calls Tryz.prog 24 #[.pointer (some ⟨kp,0,none⟩),.int .i64 l] w fun e w'=>e=.returned (.int .i64 (bL k l).1)∧∃ a',KW w' kp (bL k l).2 a'∧dB k.n kp w a w' a':=by
 have hkl:=h.blk.lt;have c4:=h.c4;unfold bL;by_cases hl0:l<0
 ·rw[if_pos (.inl hl0)];have H:=Lib.hid h;clear h hT;go_enter Tryz.func24,Tryz.ntmps24;go_wp2;go_ret;exact⟨rfl,a,H.out,dB.refl _ _ _ _⟩
 ·by_cases hl1:(k.n:Int)-2<l
  ·rw[if_pos (.inr hl1)];have H:=Lib.hid h;have P5:l>(k.n:Int)-2:=hl1;clear h hT;go_enter Tryz.func24,Tryz.ntmps24;go_wp2;go_ret;exact⟨rfl,a,H.out,dB.refl _ _ _ _⟩
  ·rw[if_neg (by omega)];obtain⟨m,rfl⟩:=Int.eq_ofNat_of_zero_le (show 0≤l by omega);obtain⟨x,y,ht⟩:=hT (by omega) (by omega);rw[Int.toNat_natCast] at ht ⊢;have hc:=zo h m x y (by omega) ht;have P5:¬ (m:Int)>(k.n:Int)-2:=by omega
   have hgn:=AY k m;have hgt:=Dh k m;generalize dR k m=t at *
   obtain⟨tb,tk⟩:=t;simp only at hc hgn hgt ⊢;have HC:=Lib.hid hc;have Wp:=Lib.hid hgn;have YD:=Lib.hid hgt;clear h hT ht hc hgn hgt;cases tb with
   | false =>
    rw[if_neg (by simp)];go_enter Tryz.func24,Tryz.ntmps24;go_wp2_with (fail)
    refine HC.out.mono ?_;rintro e w1 ⟨rfl,a1,hk1,hg1⟩;have qx:=Lib.hid hk1;have Am:=Lib.hid hg1;clear hk1 hg1;go_wp2;go_ret;exact⟨rfl,a1,qx.out,Am.out⟩
   | true =>
    rw[if_pos rfl];go_enter Tryz.func24,Tryz.ntmps24;go_wp2_with (fail)
    refine HC.out.mono ?_;rintro e w1 ⟨rfl,a1,hk1,hg1⟩;have qx:=Lib.hid hk1;have Am:=Lib.hid hg1;have c7:=hk1.c7;have Jk:=hk1.blk.lt;have htl:(tk.tr.length+1)*8≤140737488355328:=by rw[YD.out];exact htr
    clear hk1 hg1 c4 hkl;go_upto_region 7 with fail
    refine aR 6 ?_;simp only[List.take_succ_cons,List.take_zero,List.drop_succ_cons,List.drop_zero];repeat (any_goals (first | go_big_quiet_step (fail) | quiet_step (fail)))
    refine wpQuiet_nil ?_;refine wpList_plain rfl fun K hK=>?_
    go_simp;refine hK _ _ ?_;clear hK K;refine aK fun wa dJ=>?_
    have hM:=av.new w1 3 #[.int .i64 (m:Int)];have hsa:Same w1 wa:=by rw[dJ];exact(ah.refl _ _).alloc _
    rw[← dJ] at hM;clear dJ;have hka:=qx.out.same hsa;refine Own.aI (f:=dM) rfl (.tmp 29) (.tmp 31) _ rfl Tryz.underlying46 JE rfl (by omega) rfl hka.tr (fun _=>rfl) (m:Int) w1.heap.size 1 rfl hM (by simp[Value.oneCell',dM]) (by unfold maxLen;omega) (by omega) ?_;intro gg cap wb hOb hgb hat;have hgr:=qx.out.Mg (wa:=wa) (wb:=wb) (x:=(m:Int)) (g:=gg) (cap:=cap) hsa hOb hgb hat;have hkb:av wb kp 100 _:=hka.blk.grown hgb (fun hx=>hka.dj 0 11 kp (by omega) rfl (af.1 hx.symm));have b2:=hkb.free 7;have b2':=hkb.cell 7;have Qd:=hkb.lt;simp[dw] at b2';have HGR:=Lib.hid hgr;clear hgr hOb hgb hat hkb hka hsa hM c7;go_wp2;go_ret;refine⟨rfl,_,HGR.out.1,?_⟩;have h2:=HGR.out.2;rw[Wp.out] at h2;exact Am.out.trans h2
theorem JF (h:KW w kp k a) (hT:∀ l,k.tr.getLast?=some l→0≤l∧l<4000000∧∃ x y,wR k l.toNat x y) (htr:k.tr.length≤1000000000000000000) :
  Calls Tryz.prog 26 #[.pointer (some ⟨kp,0,none⟩)] w fun e w'=>e=.returned (.tuple #[.int .i64 (bO k).1,.int .i64 (bO k).2.1])∧∃ a',KW w' kp (bO k).2.2 a'∧dB k.n kp w a w' a':=by
 have hkl:=h.blk.lt;have c7:=h.c7;unfold bO;rcases List.eq_nil_or_concat k.tr with htn | ⟨t,l,htl⟩
 ·rw[htn] at c7 ⊢;simp only[List.getLast?_nil,List.length_nil] at c7 ⊢;have H:=Lib.hid h;clear h hT htn htr;go_enter Tryz.func26,Tryz.ntmps26;go_wp2;go_ret2;exact⟨rfl,a,H.out,dB.refl _ _ _ _⟩
 ·rw[List.concat_eq_append] at htl;have hlast:k.tr.getLast?=some l:=by rw[htl];simp
  obtain⟨hl0,hl4,x,y,ht⟩:=hT l hlast;rw[hlast];simp only;have hN:k.tr.length=t.length+1:=by rw[htl];simp
  rw[hN] at c7 htr;obtain⟨m,rfl⟩:=Int.eq_ofNat_of_zero_le hl0;rw[Int.toNat_natCast] at ht ⊢;obtain⟨tb,etb,htb,htc⟩:=h.tr.dV (i:=t.length) (x:=(m:Int)) (by rw[htl];simp);rw[etb] at c7;replace htc:w.cell? ⟨tb,t.length,none⟩=some (.int .i64 m):=htc;have hc:=zo h m x y (by omega) ht;have hgn:=AY k m;have hgt:=Dh k m;generalize dR k m=tt at *
  obtain⟨tt,tk⟩:=tt;simp only at hc hgn hgt ⊢;have HC:=Lib.hid hc;have Wp:=Lib.hid hgn;have YD:Hid (tk.tr=t++[(m:Int)]):=Lib.hid (by rw[hgt,htl]);have hI:(((t.length:Int)+1) == 0)=false:=by simp <;> omega
  clear h hT ht hc hgn hgt htl hlast hN etb;go_enter Tryz.func26,Tryz.ntmps26;go_wp2_with (fail)
  refine HC.out.mono ?_;rintro e w1 ⟨rfl,a1,hk1,hg1⟩;have hlen1:tk.tr.length=t.length+1:=by rw[YD.out];simp
  have d7:=hk1.c7;rw[hlen1] at d7;have f7:=hk1.blk.free 7;have Jk:=hk1.blk.lt;have hrow:=hk1.tr;rw[YD.out] at hrow;have CP:=Go.Tk.Own.pop (f:=dM) (fun _=>rfl) hrow;obtain⟨sb,esb,hsb⟩:=hk1.tr.WV (by omega);rw[esb] at d7;have hcap:t.length+1≤a1.tC∧a1.tC≤9223372036854775807:=by
   rcases hk1.tr.own.2 with⟨h0,_⟩ | ⟨_,cap,_,h1,_,_,h3,h4,_⟩
   ·rw[esb] at h0;cases h0
   ·injection h1 with _ _ h1
    rw[h1];unfold maxLen at h4;rw[hlen1] at h3;omega
  have hto:=hk1.zi (w':=w1.setCell ⟨kp,7,none⟩ (.slice (some ⟨sb,0,none⟩) t.length a1.tC)) (r:=t) (A2:=a1.tA) (C2:=a1.tC) ((ah.refl _ w1).setCell (p:=⟨kp,7,none⟩) (.inl (.inl rfl)) _) (by
   have:=hk1.blk.set 7 (.slice (some ⟨sb,0,none⟩) t.length a1.tC)
   rw[← esb] at this ⊢
   simpa [dw] using this) (CP.far (p:=⟨kp,7,none⟩) (fun ad had hx=>hk1.dj 11 0 kp (by omega) ⟨ad,had,hx⟩ rfl) _) (fun b hb=>.inl hb)
  have pJ:=Lib.hid hto;have Am:=Lib.hid hg1;obtain⟨hcp1,hcp2⟩:=hcap;have htI:(0:Int)≤(t.length:Int):=by omega
  clear hk1 hrow CP hto hg1 c7 htc hkl esb hlen1;go_wp2;go_ret2;have e:({ tk with tr:=tk.tr.dropLast }:KS)={ tk with tr:=t }:=by rw[YD.out];simp
  rw[e];refine⟨rfl,_,pJ.out.1,?_⟩;have h2:=pJ.out.2;rw[Wp.out] at h2;exact Am.out.trans h2
end
theorem lD:(Tryz.prog.info? 4).map (fun i=>(i.zero,i.size,i.bytes))=some (some (.bool false),1,1):=by kernel_rfl
theorem iV:(Tryz.prog.info? 3).map (fun i=>(i.zero,i.size,i.bytes))=some (some (.int .i64 0),1,8):=by kernel_rfl
theorem sQ {α:Type} {xs:List α} {k:Nat} {x:α} (h:xs[k]?=some x):xs.take (k+1)=xs.take k++[x]:=by
 have hl:=aQ h;rw[List.getElem?_eq_getElem hl] at h;injection h with h
 rw[List.take_succ_eq_append_getElem hl,h]
end Go.Proofs.YtiomgckodmecbaaGreat
namespace Go.Tk
open Go.RowKit
theorem ah.MV {w0 w wa wb:World} {A:Option Addr} {N C:Nat} (h:ah (fun _=>False) w0 w) (ha:ah (fun _=>False) w wa) (hg:wa.grownBy wb (Value.slice A N C).ownBlock) (hA:bG w0.heap.size A):ah (fun _=>False) w0 wb :=
 (h.trans ha (fun _ _ h=>h)).grown hg (fun g hg=>.inr (hA g (af.1 hg)))
theorem Same.app {w0 w wa wb:World} {A:Option Addr} {N C:Nat} (h:Same w0 w) (ha:Same w wa) (hg:wa.grownBy wb (Value.slice A N C).ownBlock) (hA:bG w0.heap.size A):Same w0 wb:=ah.MV h ha hg hA
theorem IL.src {w:World} {A:Option Addr} {n:Nat} {xs:List Int} (h:IL w A n xs) (hne:xs≠[]):∃ ad,A=some ad∧∀ j u,(xs.flatMap dM)[j]?=some u→w.cell? (ad.add j)=some u:=by
 have h0:0<xs.length:=List.length_pos_iff.2 hne;obtain⟨b,off,rfl,_,_⟩:=h.dV (List.getElem?_eq_getElem h0);refine⟨_,rfl,fun j u hj=>?_⟩;have hfl:∀ l:List Int,l.flatMap dM=l.map (fun x=>Value.int .i64 x):=by
  intro l
  induction l with
  | nil=>rfl
  | cons x l ih=>rw[List.flatMap_cons,ih];rfl
 rw[hfl,List.getElem?_map] at hj;cases hx:xs[j]? with
 | none=>rw[hx] at hj;cases hj
 | some x =>
  rw[hx] at hj;simp at hj;subst hj;obtain⟨b',off',h1,_,h3⟩:=h.dV hx;injection h1 with h1
  injection h1 with h1 h2
  subst h1 h2
  have:(⟨b,off,none⟩:Addr).add j=⟨b,off+j,none⟩:=by unfold Addr.add;split <;> simp_all
  rw[this];exact h3
theorem IL.nil {w:World} {n:Nat} {xs:List Int} (h:IL w none n xs):xs=[]:=by
 cases xs with
 | nil=>rfl
 | cons x xs =>
  obtain⟨b,off,h1,_⟩:=h.dV (i:=0) (x:=x) rfl;cases h1
end Go.Tk
namespace Go.Proofs.YtiomgckodmecbaaGreat
open Go.RowKit Go.Tk
def Fy (w:World) (ys:List Int) (A:Option Addr) (C:Nat) (w':World):Prop:=gm w' 3 A ys.length C ys∧bG w.heap.size A∧Same w w'
def Fz (w:World) (ys:List Int) (e:Ending) (w':World):Prop:=∃ A C,e=.returned (.slice A ys.length C)∧Fy w ys A C w'
def abb (w:World) (ys:List Int) (err:Int) (e:Ending) (w':World):Prop:=∃ A C,e=.returned (.tuple #[.slice A ys.length C,.int .i64 err])∧Fy w ys A C w'
theorem Fy.nil (w:World):Fy w [] none 0 w:=⟨Own.nil _ _ _ _,aL _,ah.refl _ _⟩
theorem zC (A:Option Addr) (n C:Nat) (xs:List Int) (x:Int) (w:World) (h:IL w A n xs) (hr:n*8≤140737488351232) :
  Calls Tryz.prog 115 #[.slice A n C,.int .i64 x] w fun e w'=>e=.returned (.int .i64 (PU xs x))∧w=w':=by
 obtain rfl:=h.len;have H:=Lib.hid h;clear h;go_enter Tryz.func115,Tryz.ntmps115;go_wp2;go_loopw [9] (fun i wr=>∃ k:Nat,k≤xs.length∧i=.int .i64 k∧x∉xs.take k∧w=wr) (fun i _=>xs.length-(intOf i).toNat)
 case atStart=>exact⟨0,by omega,rfl,by simp,rfl⟩
 case round =>
  obtain⟨k,hk,rfl,hn,rfl⟩:=hrel;by_cases hlt:k<xs.length
  ·obtain⟨y,hy⟩:∃ y,xs[k]?=some y:=⟨_,List.getElem?_eq_getElem hlt⟩;obtain⟨b,off,rfl,hb,hc⟩:=H.out.dV hy;have hi0:(0:Int)≤k:=by omega
   have hi1:(k:Int)<xs.length:=by omega
   have HN:=Lib.hid hn;have HY:=Lib.hid hy;clear hn hy;by_cases he:y=x
   ·subst he;go_wp2;go_ret;exact⟨fK (IZ HY.out HN.out).symm,rfl⟩
   ·have he':(y == x)=false:=by simpa using he
    have HE:=Lib.hid he;clear he;go_wp2;go_roundw
    case rel=>exact⟨k+1,by omega,by go_num,by rw[sQ HY.out];simp[HN.out,Ne.symm HE.out],trivial⟩
    case measure=>simp[intOf] <;> omega
  ·obtain rfl:k=xs.length:=by omega
   have HN:=Lib.hid hn;clear hn;go_wp2;go_ret;exact⟨fK (LQ (by simpa using HN.out)).symm,rfl⟩
theorem AZ (A:Option Addr) (n C:Nat) (xs:List Int) (w:World) (h:IL w A n xs) (hr:n*8≤140737488351232) :
  Calls Tryz.prog 83 #[.slice A n C] w fun e w'=>e=.returned (.int .i64 (TI xs))∧w=w':=by
 obtain rfl:=h.len;have H:=Lib.hid h;clear h;go_enter Tryz.func83,Tryz.ntmps83;go_wp2;go_loopw [3] (fun i wr=>∃ k:Nat,k≤xs.length∧i=.int .i64 k∧(∀ v:Nat,v<k→(v:Int)∈xs)∧w=wr) (fun i _=>xs.length-(intOf i).toNat)
 case atStart=>exact⟨0,by omega,rfl,fun v hv=>by omega,rfl⟩
 case round =>
  obtain⟨k,hk,rfl,hn,rfl⟩:=hrel;have HN:=Lib.hid hn;clear hn;by_cases hlt:k<xs.length
  ·have hi1:(k:Int)<xs.length:=by omega
   by_cases he:(k:Int)∈xs
   ·have hp:¬ PU xs k<0:=fun h=>Gw.1 h he
    have HE:=Lib.hid he;clear he;go_wp2_with (fail)
    refine(zC A _ C xs k w H.out hr).mono ?_;rintro e w1 ⟨rfl,rfl⟩;go_wp2;go_roundw
    case rel=>exact⟨k+1,by omega,by go_num,fun v hv=>by
     rcases Nat.lt_or_ge v k with h | h
     ·exact HN.out v h
     ·obtain rfl:v=k:=by omega
      exact HE.out,trivial⟩
    case measure=>simp[intOf] <;> omega
   ·have hp:PU xs k<0:=Gw.2 he;have HE:=Lib.hid he;clear he;go_wp2_with (fail)
    refine(zC A _ C xs k w H.out hr).mono ?_;rintro e w1 ⟨rfl,rfl⟩;go_wp2;go_ret;exact⟨fK (by unfold TI;rw[if_neg (fun h=>HE.out (h.mem hlt))]),rfl⟩
  ·obtain rfl:k=xs.length:=by omega
   have HP:=Lib.hid (yz HN.out);by_cases h64:64<xs.length
   ·have abd:(xs.length:Int)>64:=by omega
    go_wp2;go_ret;exact⟨fK (by unfold TI;rw[if_pos HP.out,if_pos h64]),rfl⟩
   ·have abd:¬ (xs.length:Int)>64:=by omega
    go_wp2;go_ret;exact⟨fK (by unfold TI;rw[if_pos HP.out,if_neg h64]),rfl⟩
theorem zD (A:Option Addr) (n C:Nat) (xs:List Int) (w:World) (h:IL w A n xs) (hr:n*8≤140737488351232) :
  Calls Tryz.prog 54 #[.slice A n C] w (Fz w xs):=by
 obtain rfl:=h.len;cases A with
 | none =>
  have hx:=h.nil;subst hx;clear h;go_enter Tryz.func54,Tryz.ntmps54;go_wp2;go_ret;exact⟨none,0,rfl,Fy.nil w⟩
 | some ad =>
  have H:=Lib.hid h;clear h;go_enter Tryz.func54,Tryz.ntmps54;go_upto_region 3 with fail
  refine wp_region_lit ?_;refine wpList_plain rfl fun K hK=>?_
  go_simp;refine hK _ _ ?_;clear hK K;refine aK fun wa dJ=>?_
  have hO:=Own.lit w 3 dM (fun _=>rfl) [] (by simp) (cs:=#[]) rfl;have hsa:Same w wa:=by rw[dJ];exact(ah.refl _ _).alloc _
  rw[← dJ] at hO;clear dJ;refine j5 1 ?_;simp only[List.take_succ_cons,List.take_zero,List.drop_succ_cons,List.drop_zero];repeat (any_goals (first | go_big_quiet_step (fail) | quiet_step (fail)))
  refine wpQuiet_nil ?_;refine wpList_plain rfl fun K hK=>?_
  refine Own.bS (.tmp 5) (.tmp 6) _ rfl Tryz.underlying46 iV rfl (by omega) rfl hO (fun _=>rfl) xs (some ad) C rfl (fun hne=>IL.src (Sl.same H.out hsa) hne) (by simp[dM,Value.oneCell']) (by simp[maxLen] <;> omega) (by simp <;> omega) ?_;intro A1 C1 w1 UC hg1 MX;refine hK _ _ ?_;clear hK K;simp only[List.nil_append] at UC ⊢;have hF0:bG w.heap.size (some ⟨w.heap.size,0,none⟩):=bR (Nat.le_refl _);have hs1:=Same.app (ah.refl _ _) hsa hg1 hF0;have hF1:bG w.heap.size A1:=fun b hb=>by
   have:=hsa.size
   rcases MX b hb with h | h
   ·exact hF0 b h
   ·omega
  have X9:=Lib.hid UC;have aW:=Lib.hid hs1;have SS:=Lib.hid hF1;clear UC hs1 hF1 MX hg1 hF0 hO hsa;go_wp2;go_ret;exact⟨A1,C1,rfl,X9.out,SS.out,aW.out⟩
def Lm (n k:Nat):List Int:=(List.range n).map fun j:Nat=>if j<k then (j:Int) else 0
theorem ku (n k:Nat):(Lm n k).length=n:=by simp[Lm]
theorem MZ (n:Nat):Lm n 0=List.replicate n 0:=by
 apply List.ext_getElem?;intro j;rcases Nat.lt_or_ge j n with h | h
 ·simp[Lm,h]
 ·rw[List.getElem?_eq_none (by rw[ku];exact h),List.getElem?_eq_none (by simpa using h)]
theorem M0 (n:Nat):Lm n n=si n:=by
 apply List.ext_getElem?;intro j;rcases Nat.lt_or_ge j n with h | h
 ·rw[PO h];simp[Lm,h]
 ·rw[List.getElem?_eq_none (by rw[ku];exact h),List.getElem?_eq_none (by rw[jk];exact h)]
theorem QA {n k:Nat} (_h:k<n):(Lm n k).set k (k:Int)=Lm n (k+1):=by
 apply List.ext_getElem?;intro j;rcases Nat.lt_or_ge j n with hj | hj
 ·rw[List.getElem?_set,ku];simp only[Lm,List.getElem?_map,List.getElem?_range hj,Option.map_some];split
  ·rename_i he;subst he;simp
  ·rename_i he;congr 1;by_cases h:j<k
   ·rw[if_pos h,if_pos (by omega)]
   ·rw[if_neg h,if_neg (by omega)]
 ·rw[List.getElem?_eq_none (by simp[ku,hj]),List.getElem?_eq_none (by rw[ku];exact hj)]
theorem A9 (n:Nat) (w:World) (hn:n≤1000):Calls Tryz.prog 87 #[.int .i64 n] w (Fz w (si n)):=by
 have hmk:=fun w=>eU (P:=Tryz.prog) Tryz.underlying46 iV .i64 .i64 n (show 8*n≤281474976710656 by omega) (show n≤9223372036854775807 by omega) w
 have hO:=Own.mW (m:=1) w 3 dM (fun _=>rfl) (by decide) 0 n (show n≤9223372036854775807 by omega) rfl;rw[← MZ n] at hO;have hs1:∀ cs,Same w (w.alloc (.cells cs 3)):=fun cs=>(ah.refl _ _).alloc _
 have HO:=Lib.hid hO;clear hO;go_enter Tryz.func87,Tryz.ntmps87;go_wp2;go_loopw [8] (fun i wr=>∃ k:Nat,k≤n∧i=.int .i64 k∧Same w wr∧gm wr 3 (some ⟨w.heap.size,0,none⟩) n n (Lm n k)) (fun i _=>n-(intOf i).toNat)
 case atStart=>exact⟨0,by omega,rfl,hs1 _,by simpa [dM] using HO.out⟩
 case round =>
  clear hmk hs1 HO;obtain⟨k,hk,rfl,hs,ho⟩:=hrel;have HS:=Lib.hid hs;have HR:=Lib.hid ho;clear hs ho;by_cases hlt:k<n
  ·have hi1:(k:Int)<n:=by omega
   have hi0:(0:Int)≤k:=by omega
   obtain⟨sb,hsb,hsl,hsc⟩:=HR.out.dV (c:=fun x=>.int .i64 x) (i:=k) (x:=(Lm n k)[k]'(by rw[ku];exact hlt)) (List.getElem?_eq_getElem _);injection hsb with hsb
   injection hsb with hsb
   subst hsb;have hfr:=Own.free HR.out k;have hst:=Own.kS (c:=fun x=>.int .i64 x) HR.out (i:=k) (by rw[ku];exact hlt) (k:Int);rw[QA hlt] at hst;generalize (Lm n k)[k]'(by rw[ku];exact hlt)=old at hsc;have HST:=Lib.hid hst;clear hst;go_wp2;go_roundw
   case rel=>exact⟨k+1,by omega,by go_num,HS.out.aj _ _ (Nat.le_refl _),HST.out⟩
   case measure=>simp[intOf] <;> omega
  ·obtain rfl:k=n:=by omega
   go_wp2;go_ret;refine⟨some ⟨w.heap.size,0,none⟩,k,by rw[jk];rfl,?_,bR (Nat.le_refl _),HS.out⟩
   have:=HR.out
   rw[M0] at this
   rwa [jk]
theorem swp_get (p:List Int) (l:Nat) {a b:Int} (ha:p[l]?=some a) (hb:p[l+1]?=some b):swp p l=(p.set l b).set (l+1) a:=by
 unfold swp;simp[List.getD_eq_getElem?_getD,ha,hb]
theorem FB (A:Option Addr) (n C:Nat) (xs:List Int) (l:Nat) (w:World) (h:IL w A n xs) (hr:n*8≤140737488351232) (hl:l+2≤n) :
  Calls Tryz.prog 39 #[.slice A n C,.int .i64 l] w (Fz w (swp xs l)):=by
 obtain rfl:=h.len;have H:=Lib.hid h;clear h;go_enter Tryz.func39,Tryz.ntmps39;go_upto_region 2 with fail
 refine aR 2 ?_;simp only[List.take_succ_cons,List.take_zero,List.drop_succ_cons,List.drop_zero];repeat (any_goals (first | go_big_quiet_step (fail) | quiet_step (fail)))
 refine wpQuiet_nil ?_;refine wpList_plain rfl fun K hK=>?_
 refine Own.bS (.tmp 6) (.tmp 7) _ rfl Tryz.underlying46 iV rfl (by omega) rfl (Own.nil w _ _ _) (fun _=>rfl) xs A C rfl (fun hne=>IL.src H.out hne) (by simp[dM,Value.oneCell']) (by simp[maxLen] <;> omega) (by simp <;> omega) ?_;intro A2 C2 w2 hO hg hat;refine hK _ _ ?_;clear hK K;simp only[List.nil_append] at hO ⊢;have Di:=Same.app (ah.refl _ w) (ah.refl _ _) hg (aL _);obtain⟨a,ha⟩:∃ a,xs[l]?=some a:=⟨_,List.getElem?_eq_getElem (by omega)⟩;obtain⟨b,hb⟩:∃ b,xs[l+1]?=some b:=⟨_,List.getElem?_eq_getElem (by omega)⟩;obtain⟨sb,rfl,hsb,ca⟩:=hO.dV (c:=fun x=>.int .i64 x) ha;obtain⟨sb',mM,_,cb⟩:=hO.dV (c:=fun x=>.int .i64 x) hb;injection mM with mM
 injection mM with mM
 subst mM;have fa:=Own.free hO l;have fb:=Own.free hO (l+1);have FC:w.heap.size≤sb:=by
  rcases hat sb ⟨_,rfl,rfl⟩ with⟨a,h,_⟩ | h
  ·cases h
  ·omega
 have HO:=Lib.hid hO;have HS:=Lib.hid Di;have HA:=Lib.hid ha;have HB:=Lib.hid hb;clear hO Di ha hb hg hat;have hw0:IntKind.i64.wrap ((l:Int)+1)=l+1:=IntWalk.i64_in _ (by omega);have hw1:(0:Int)≤(l:Int)+1:=by omega
 have hw2:((l:Int)+1).toNat=l+1:=by omega
 have hw3:(l:Int)+1<xs.length:=by omega
 have hw4:(l:Int)<xs.length:=by omega
 have kW:(0:Int)≤(l:Int):=by omega
 go_upto_region 3 with fail
 go_region
 have h1:=Own.kS (c:=fun x=>.int .i64 x) HO.out (i:=l) (by omega) b;have h2:=Own.kS (c:=fun x=>.int .i64 x) h1 (i:=l+1) (by rw[List.length_set];omega) a;rw[← swp_get xs l HA.out HB.out] at h2;have h3:gm ((w2.setCell ⟨sb,l,none⟩ (.int .i64 b)).setCell ⟨sb,l+1,none⟩ (.int .i64 a)).drew 3 (some ⟨sb,0,none⟩) xs.length C2 (swp xs l):=Own.ag h2 ((ah.refl (fun _=>False) _).drew) (fun _ _=>id);have hs3:Same w ((w2.setCell ⟨sb,l,none⟩ (.int .i64 b)).setCell ⟨sb,l+1,none⟩ (.int .i64 a)).drew:=((HS.out.aj _ _ FC).aj _ _ FC).drew;generalize ((w2.setCell ⟨sb,l,none⟩ (.int .i64 b)).setCell ⟨sb,l+1,none⟩ (.int .i64 a)).drew=w3 at h3 hs3 ⊢;have Cx:=Lib.hid h3;have dX:=Lib.hid hs3;clear h1 h2 h3 hs3 ca cb fa fb hw0 hw1 hw2 hw3 hw4 kW;go_wp2;go_ret;exact⟨some ⟨sb,0,none⟩,C2,by rw[eY];rfl,by rw[eY];exact Cx.out,bR FC,dX.out⟩
def JG (n:Int):Int:=if n<0∨64<n then 1 else 0
def QB (n:Int):List Int:=if n<0∨64<n then [] else si n.toNat
theorem qW (n:Int) (w:World):Calls Tryz.prog 51 #[.int .i64 n] w (abb w (QB n) (JG n)):=by
 by_cases h0:n<0
 ·have he:JG n=1:=by unfold JG;rw[if_pos (.inl h0)]
  have hy:QB n=[]:=by unfold QB;rw[if_pos (.inl h0)]
  rw[he,hy];clear he hy;go_enter Tryz.func51,Tryz.ntmps51;go_wp2;go_ret2;exact⟨none,0,rfl,Fy.nil w⟩
 ·by_cases h1:n>64
  ·have he:JG n=1:=by unfold JG;rw[if_pos (.inr h1)]
   have hy:QB n=[]:=by unfold QB;rw[if_pos (.inr h1)]
   rw[he,hy];clear he hy;go_enter Tryz.func51,Tryz.ntmps51;go_wp2;go_ret2;exact⟨none,0,rfl,Fy.nil w⟩
  ·have he:JG n=0:=by unfold JG;rw[if_neg (by omega)]
   have hy:QB n=si n.toNat:=by unfold QB;rw[if_neg (by omega)]
   rw[he,hy];clear he hy;obtain⟨m,rfl⟩:∃ m:Nat,n=m:=⟨n.toNat,by omega⟩;go_enter Tryz.func51,Tryz.ntmps51;go_wp2_with (fail)
   refine(A9 m w (by omega)).mono ?_;rintro e w1 ⟨A2,C2,rfl,hN⟩;have HN:=Lib.hid hN;clear hN;go_wp2;go_ret2;exact⟨A2,C2,rfl,HN.out⟩
def dL (l:List Int) (n:Nat):List Int:=((List.range n).filter fun i=>decide (0<l.getD i 0)).map fun (i:Nat)=>(i:Int)
def aU (k:KS):List Int:=dL k.hs k.hs.length
theorem Ba (l:List Int) (n:Nat):dL l (n+1)=if 0<l.getD n 0 then dL l n++[(n:Int)] else dL l n:=by
 unfold dL;rw[List.range_succ,List.filter_append,List.map_append];by_cases h:0<l.getD n 0
 ·rw[if_pos h,List.filter_cons,if_pos (decide_eq_true h)];rfl
 ·rw[if_neg h,List.filter_cons,if_neg (by simpa using h)];simp
theorem uq (l:List Int) (n:Nat):(dL l n).length≤n:=by
 unfold dL;rw[List.length_map];exact Nat.le_trans (List.length_filter_le _ _) (by simp)
section
variable {w:World} {kp:Nat} {k:KS} {a:KA} {ext:List Int} {X:List bP} {n:Nd}
theorem xh (h:KW w kp k a) (hb:Bk k ext X) :
  Calls Tryz.prog 22 #[.pointer (some ⟨kp,0,none⟩)] w fun e w'=>∃ A C,e=.returned (.slice A (aU k).length C)∧Row1 w' 28 rc A (aU k).length C (aU k)∧bG w.heap.size A∧Same w w':=by
 have hkl:=h.blk.lt;have c3:=h.c3;have hlen:k.hs.length≤1048576:=by
  have:=hb.ul
  have:=hb.E8
  have:=hb.lim
  have:=hb.cM
  omega
 have hval:∀ (i:Nat) x,k.hs[i]?=some x→0≤x∧x≤65535:=fun i x hx=>⟨(hb.hol i x hx).1,(hb.hol i x hx).2.1⟩
 have H:=Lib.hid h;have HV:=Lib.hid hval;unfold aU;clear h hb hval;go_enter Tryz.func22,Tryz.ntmps22;go_wp2_with (fail)
 go_loopw [14,3] (fun i l wr=>∃ (n:Nat) (A:Option Addr) (C:Nat),n≤k.hs.length∧i=.int .i64 n∧l=.slice A (dL k.hs n).length C∧Row1 wr 28 rc A (dL k.hs n).length C (dL k.hs n)∧bG w.heap.size A∧Same w wr) (fun i _ _=>k.hs.length-(intOf i).toNat)
 case atStart=>exact⟨0,none,0,by omega,rfl,rfl,Own.nil _ _ _ _,aL _,ah.refl _ _⟩
 case round =>
  obtain⟨n,A,C,hn,rfl,rfl,hO,hF,hS⟩:=hrel;have HO:=Lib.hid hO;have HF:=Lib.hid hF;have HS:=Lib.hid hS;clear hO hF hS;by_cases hlt:n<k.hs.length
  ·obtain⟨x,hx⟩:∃ x,k.hs[n]?=some x:=⟨_,List.getElem?_eq_getElem hlt⟩;obtain⟨x0,x1⟩:=HV.out n x hx;have hk:=H.out.same HS.out;obtain⟨sb,hA,hsb,_,hc,_⟩:=hk.CG hx;have hstep:=Ba k.hs n;have hxd:k.hs.getD n 0=x:=by rw[List.getD_eq_getElem?_getD,hx];rfl
   rw[hxd] at hstep;have HST:=Lib.hid hstep;have hI:(n:Int)<(k.hs.length:Int):=by omega
   have hrl:=uq k.hs n;rw[hA];clear hk hx hxd hstep hA;by_cases hx0:0<x
   ·have hx0':x>0:=hx0;have HX0:=Lib.hid hx0;clear hx0;go_upto_region 8 with fail
    refine aR 3 ?_;simp only[List.take_succ_cons,List.take_zero,List.drop_succ_cons,List.drop_zero];repeat (any_goals (first | go_big_quiet_step (fail) | quiet_step (fail)))
    refine wpQuiet_nil ?_;refine wpList_plain rfl fun K hK=>?_
    go_simp;refine hK _ _ ?_;clear hK K;refine aK fun wa dJ=>?_
    have hM:=av.new wr 28 #[.int .u32 (n:Int)];have hsa:Same wr wa:=by rw[dJ];exact(ah.refl _ _).alloc _
    rw[← dJ] at hM;clear dJ;refine Own.aI (f:=fun x=>[rc x]) rfl (.tmp 21) (.tmp 24) _ rfl Tryz.underlying40 iP rfl (by omega) rfl (HO.out.ag hsa (fun _ _=>id)) (fun _=>rfl) (n:Int) wr.heap.size 1 rfl hM (by simp[Value.oneCell',rc]) (by unfold maxLen;omega) (by omega) ?_;intro gg cap wb hOb hgb hat;have hSb:Same w wb:=by
     refine(HS.out.trans hsa (fun _ _ h=>h)).grown hgb (fun g hg=>.inr ?_);exact HF.out g (af.1 hg)
    have SA:bG w.heap.size (some ⟨gg,0,none⟩):=by
     refine bR ?_;rcases hat with h | h
     ·exact HF.out gg (af.1 h)
     ·have:=HS.out.size;have:=hsa.size;omega
    have Av:=Lib.hid hOb;have l7:=Lib.hid hSb;have GY:=Lib.hid SA;clear hOb hSb SA hgb hat hM hsa;go_wp2;go_roundw
    case rel =>
     have hst:dL k.hs (n+1)=dL k.hs n++[(n:Int)]:=by rw[HST.out,if_pos HX0.out]
     refine⟨n+1,some ⟨gg,0,none⟩,cap,by omega,by go_num,?_,?_,GY.out,l7.out⟩
     ·rw[hst,List.length_append];rfl
     ·rw[hst,List.length_append];exact Av.out
    case measure=>simp[intOf] <;> omega
   ·have hx0':¬ x>0:=hx0;have HX0:=Lib.hid hx0;clear hx0;go_wp2;go_roundw
    case rel =>
     have hst:dL k.hs (n+1)=dL k.hs n:=by rw[HST.out,if_neg HX0.out]
     refine⟨n+1,A,C,by omega,by go_num,by rw[hst],?_,HF.out,HS.out⟩;rw[hst];exact HO.out
    case measure=>simp[intOf] <;> omega
  ·obtain rfl:n=k.hs.length:=by omega
   have hI:¬ ((k.hs.length:Nat):Int)<(k.hs.length:Int):=by omega
   go_wp2;go_ret;exact⟨A,C,rfl,HO.out,HF.out,HS.out⟩
theorem xk (h:KW w kp k a) (hl:k.ord.length≤64) :
  Calls Tryz.prog 25 #[.pointer (some ⟨kp,0,none⟩)] w (Fz w k.ord):=by
 have hkl:=h.blk.lt;have c5:=h.c5;have hc:=zD a.oA k.ord.length a.oC k.ord w h.ord.il (by omega);have HC:=Lib.hid hc;clear h hc;go_enter Tryz.func25,Tryz.ntmps25;go_wp2_with (fail)
 refine HC.out.mono ?_;rintro e w1 ⟨A,C,rfl,hN⟩;go_wp2;go_ret;exact⟨A,C,rfl,hN⟩
theorem JH (h:KW w kp k a):Calls Tryz.prog 29 #[.pointer (some ⟨kp,0,none⟩)] w fun e w'=>e=.returned (.int .i64 k.n)∧w=w':=by
 have hkl:=h.blk.lt;have c4:=h.c4;clear h;go_enter Tryz.func29,Tryz.ntmps29;go_wp2;go_ret;exact⟨rfl,rfl⟩
theorem FD (h:KW w kp k a):Calls Tryz.prog 30 #[.pointer (some ⟨kp,0,none⟩)] w fun e w'=>e=.returned (.int .i64 k.c)∧w=w':=by
 have hkl:=h.blk.lt;have c0:=h.c0;have hp:=Lib.hid h.ar.places;clear h;go_enter Tryz.func30,Tryz.ntmps30;go_wp2_with (fail)
 refine hp.out.mono ?_;rintro e w1 ⟨rfl,rfl⟩;go_wp2;go_ret;exact⟨rfl,rfl⟩
theorem qa (h:KW w kp k a) (hc:k.ac≤4000000):Calls Tryz.prog 18 #[.pointer (some ⟨kp,0,none⟩)] w fun e w'=>e=.returned (.int .i64 ((k.ac:Int)-2))∧w=w':=by
 have hkl:=h.blk.lt;have c0:=h.c0;have hp:=Lib.hid h.ar.used;clear h;go_enter Tryz.func18,Tryz.ntmps18;go_wp2_with (fail)
 refine hp.out.mono ?_;rintro e w1 ⟨rfl,rfl⟩;go_wp2;go_ret;exact⟨rfl,rfl⟩
theorem qb (h:KW w kp k a):Calls Tryz.prog 35 #[.pointer (some ⟨kp,0,none⟩)] w fun e w'=>e=.returned (.int .i64 k.tr.length)∧w=w':=by
 have hkl:=h.blk.lt;have c7:=h.c7;clear h;go_enter Tryz.func35,Tryz.ntmps35;go_wp2;go_ret;exact⟨rfl,rfl⟩
theorem Bb (p:Option Addr):Calls Tryz.prog 34 #[.pointer p] w fun e w'=>e=.returned (.tuple #[])∧w=w':=by
 go_enter Tryz.func34,Tryz.ntmps34;go_wp2;go_end0
 exact⟨rfl,rfl⟩
def uI (k:KS) (v:Int):Int:=if 0≤v∧v<k.n then 0 else 2
def Bc (k:KS) (v:Int):Int:=if 0≤v∧v<k.n then bH k v else 0
theorem xm (h:KW w kp k a) (hl:Lv k) (v:Int) :
  Calls Tryz.prog 33 #[.pointer (some ⟨kp,0,none⟩),.int .i64 v] w fun e w'=>e=.returned (.tuple #[.int .i64 (Bc k v),.int .i64 (uI k v)])∧w=w':=by
 have hkl:=h.blk.lt;have hv:=kI h v;unfold Bc uI bH;have HV:=Lib.hid hv;by_cases hc:0≤v∧v<k.n
 ·rw[if_pos hc,if_pos hc];have hb:decide (0≤v∧v<k.n)=true:=by simpa using hc
  rw[hb] at HV;obtain⟨m,rfl⟩:=Int.eq_ofNat_of_zero_le hc.1;have hm:m<k.dN.length:=by rw[hl.ll];omega
  have hx:=List.getElem?_eq_getElem hm;obtain⟨lb,Wo,hlb,hlc⟩:=h.dN.dV hx;have c6:=h.c6;rw[Wo] at c6;have hd:k.dN.getD (m:Int).toNat 0=k.dN[m]:=by rw[Int.toNat_natCast,List.getD_eq_getElem?_getD,hx];rfl
  rw[hd];replace hlc:w.cell? ⟨lb,m,none⟩=some (.int .i64 k.dN[m]):=hlc;generalize k.dN[m]=x at *
  have Uc:(m:Int)<(k.dN.length:Int):=by omega
  clear h hv hb hx Wo hd hc hl;go_enter Tryz.func33,Tryz.ntmps33;go_wp2_with (fail)
  refine HV.out.mono ?_;rintro e w1 ⟨rfl,rfl⟩;go_wp2;go_ret2;exact⟨rfl,rfl⟩
 ·rw[if_neg hc,if_neg hc];have hb:decide (0≤v∧v<k.n)=false:=by simpa using hc
  rw[hb] at HV;clear h hv hb hc hl;go_enter Tryz.func33,Tryz.ntmps33;go_wp2_with (fail)
  refine HV.out.mono ?_;rintro e w1 ⟨rfl,rfl⟩;go_wp2;go_ret2;exact⟨rfl,rfl⟩
def Py (k:KS) (v:Int):Nat:=if 0≤v∧v<k.n then (jE k.L v.toNat).length else 0
theorem xq (h:KW w kp k a) (v:Int) :
  Calls Tryz.prog 32 #[.pointer (some ⟨kp,0,none⟩),.int .i64 v] w fun e w'=>e=.returned (.tuple #[.int .i64 (Py k v),.int .i64 (uI k v)])∧w=w':=by
 have hkl:=h.blk.lt;have hv:=kI h v;have hct:=Cz a.U k.n k.L v w h.ut;have c1:=h.c1;unfold Py uI;have HV:=Lib.hid hv;by_cases hc:0≤v∧v<k.n
 ·have hve:oW k.n v=0:=by unfold oW;rw[if_pos hc]
  rw[if_pos hc,hve] at hct;rw[if_pos hc,if_pos hc];have hb:decide (0≤v∧v<k.n)=true:=by simpa using hc
  rw[hb] at HV;have HCT:=Lib.hid hct;clear h hv hb hc hct hve;go_enter Tryz.func32,Tryz.ntmps32;go_wp2_with (fail)
  refine HV.out.mono ?_;rintro e w1 ⟨rfl,rfl⟩;go_wp2_with (fail)
  refine HCT.out.mono ?_;rintro e w1 ⟨rfl,rfl⟩;go_wp2;go_ret2;exact⟨rfl,rfl⟩
 ·rw[if_neg hc,if_neg hc];have hb:decide (0≤v∧v<k.n)=false:=by simpa using hc
  rw[hb] at HV;clear h hv hb hc hct;go_enter Tryz.func32,Tryz.ntmps32;go_wp2_with (fail)
  refine HV.out.mono ?_;rintro e w1 ⟨rfl,rfl⟩;go_wp2;go_ret2;exact⟨rfl,rfl⟩
end
def xu (n c:Nat):KS:=⟨n,c,2,BM,[],[],[],[],si n,si n,[]⟩
section
variable {w:World}
theorem M3 (n c:Int) (h:n<1∨64<n∨c<2∨1048576<c):Calls Tryz.prog 13 #[.int .i64 n,.int .i64 c] w fun e w'=>e=.returned (.tuple #[.pointer none,.int .i64 1])∧Same w w':=by
 have hid:=qW n w;by_cases h1:n<0∨64<n
 ·have he:JG n=1:=by unfold JG;rw[if_pos h1]
  rw[he] at hid;have HI:=Lib.hid hid;clear hid h h1 he;go_enter Tryz.func13,Tryz.ntmps13;go_wp2_with (fail)
  refine HI.out.mono ?_;rintro e w1 ⟨A,C,rfl,hN⟩;go_wp2;go_ret2;exact⟨rfl,hN.2.2⟩
 ·have he:JG n=0:=by unfold JG;rw[if_neg h1]
  rw[he] at hid;have HI:=Lib.hid hid;clear hid he;by_cases h2:n<1
  ·clear h h1;go_enter Tryz.func13,Tryz.ntmps13;go_wp2_with (fail)
   refine HI.out.mono ?_;rintro e w1 ⟨A,C,rfl,hN⟩;go_wp2;go_ret2;exact⟨rfl,hN.2.2⟩
  ·by_cases h3:c<2
   ·clear h h1;go_enter Tryz.func13,Tryz.ntmps13;go_wp2_with (fail)
    refine HI.out.mono ?_;rintro e w1 ⟨A,C,rfl,hN⟩;go_wp2;go_ret2;exact⟨rfl,hN.2.2⟩
   ·have h4:c>1048576:=by omega
    clear h h1;go_enter Tryz.func13,Tryz.ntmps13;go_wp2_with (fail)
    refine HI.out.mono ?_;rintro e w1 ⟨A,C,rfl,hN⟩;go_wp2;go_ret2;exact⟨rfl,hN.2.2⟩
theorem yL (c:Int) (t:Nat) (h1:¬ c<2) (h2:c≤1048576) :
  Calls Tryz.prog 53 #[.int .i64 c,.pointer (some ⟨t,0,none⟩)] w fun e w'=>∃ g A C,e=.returned (.tuple #[.agg #[.pointer (some ⟨g,0,none⟩),.pointer (some ⟨t,0,none⟩),.slice none 0 0,.slice none 0 0],.int .i64 0])∧mG w' g c 2 BM [] A C none 0∧Same w w'∧w.heap.size≤g∧bG w.heap.size A:=by
 have hn:=fun w=>TQ c w h1 h2
 have HN:=Lib.hid hn;clear hn;go_enter Tryz.func53,Tryz.ntmps53;go_wp2_with (fail)
 refine eF fun w1 hw1=>?_
 have hs1:Same w w1:=by rw[hw1];exact(ah.refl _ _).alloc _
 have hX:av w1 w.heap.size 96 #[.pointer none,.pointer none,.slice none 0 0,.slice none 0 0]:=by rw[hw1];exact av.new w _ _
 have hsz:w1.heap.size=w.heap.size+1:=by rw[hw1];simp
 clear hw1;refine(HN.out _).mono ?_;rintro e w2 ⟨rfl,A,C,hA,hs2,hF⟩;have hX2:=hX.ag hs2 id;have x0:=hX2.cell 0;have x1:=hX2.cell 1;have x2:=hX2.cell 2;have x3:=hX2.cell 3;have f0:=hX2.free 0;have f1:=hX2.free 1;have f2:=hX2.free 2;have f3:=hX2.free 3;have hxl:=hX2.lt;simp at x0 x1 x2 x3;have HX:=Lib.hid hX2;have HS:=Lib.hid (hs1.trans hs2 (fun _ _ h=>h));have HA:=Lib.hid hA;have HF:=Lib.hid hF;have iC:=Lib.hid hsz;clear hX hX2 hs1 hs2 hA hF hsz;go_wp2;have hle:w.heap.size≤w.heap.size:=Nat.le_refl _;refine bodyPost_ret (v:=.tuple #[.agg #[.pointer (some ⟨w1.heap.size,0,none⟩),.pointer (some ⟨t,0,none⟩),.slice none 0 0,.slice none 0 0],.int .i64 0]) ?_ rfl ⟨w1.heap.size,A,C,rfl,?_,?_,?_,?_⟩
 ·have hY:=(((HX.out.set 0 (.pointer (some ⟨w1.heap.size,0,none⟩))).set 1 (.pointer (some ⟨t,0,none⟩))).set 2 (.slice none 0 0)).set 3 (.slice none 0 0);generalize (((w2.setCell ⟨w.heap.size,0,none⟩ (.pointer (some ⟨w1.heap.size,0,none⟩))).setCell ⟨w.heap.size,1,none⟩ (.pointer (some ⟨t,0,none⟩))).setCell ⟨w.heap.size,2,none⟩ (.slice none 0 0)).setCell ⟨w.heap.size,3,none⟩ (.slice none 0 0)=W at hY ⊢;have y0:=hY.cell 0;have y1:=hY.cell 1;have y2:=hY.cell 2;have y3:=hY.cell 3;simp at y0 y1 y2 y3;simp[results,Tryz.results53,go_sem,y0,y1,y2,y3]
 ·have hF:ah (fun b=>b=w.heap.size) w2 ((((w2.setCell ⟨w.heap.size,0,none⟩ (.pointer (some ⟨w1.heap.size,0,none⟩))).setCell ⟨w.heap.size,1,none⟩ (.pointer (some ⟨t,0,none⟩))).setCell ⟨w.heap.size,2,none⟩ (.slice none 0 0)).setCell ⟨w.heap.size,3,none⟩ (.slice none 0 0)) :=
   ((((ah.refl (fun b=>b=w.heap.size) w2).set _ _ rfl).set _ _ rfl).set _ _ rfl).set _ _ rfl
  refine HA.out.ag hF ?_;rintro b hb rfl;have hz:=iC.out;rcases hb with hb | hb | hb
  ·omega
  ·have:=HF.out _ hb;omega
  ·obtain⟨_,hx,_⟩:=hb;cases hx
 ·exact(((HS.out.aj _ _ hle).aj _ _ hle).aj _ _ hle).aj _ _ hle
 ·have:=iC.out;omega
 ·intro b hb;have h1:=iC.out;have h2:=HF.out b hb;omega
theorem Dj (n c:Nat) (h1:1≤n) (h2:n≤64) (h3:2≤c) (h4:c≤1048576):Calls Tryz.prog 13 #[.int .i64 n,.int .i64 c] w fun e w'=>∃ kp a,e=.returned (.tuple #[.pointer (some ⟨kp,0,none⟩),.int .i64 0])∧KW w' kp (xu n c) a∧Same w w'∧∀ b,iF n kp a b→w.heap.size≤b:=by
 have hid:=qW n w;have he:JG n=0:=by unfold JG;rw[if_neg (by omega)]
 have hr:QB n=si n:=by unfold QB;rw[if_neg (by omega),Int.toNat_natCast]
 rw[he,hr] at hid;have hun:=fun w=>Jm n h1 h2 w
 have hst:=fun w t=>yL (w:=w) c t (by omega) (by omega)
 have hcl:=fun w A C (h:IL w A n (si n))=>zD A n C (si n) w h (by omega)
 have HI:=Lib.hid hid;have HU:=Lib.hid hun;have HST:=Lib.hid hst;have vk:=Lib.hid hcl;have n1:¬ (n:Int)<1:=by omega
 have n2:¬ (c:Int)<2:=by omega
 have n3:¬ (c:Int)>1048576:=by omega
 have hrl:=jk n;have vo:=Lib.hid hrl;clear hid he hr hun hst hcl hrl;go_enter Tryz.func13,Tryz.ntmps13;go_wp2_with (fail)
 refine HI.out.mono ?_;rintro e w1 ⟨oA,oC,rfl,hO,hOF,hs1⟩;rw[vo.out] at hO;have HO:=Lib.hid hO;have HOF:=Lib.hid hOF;have aW:=Lib.hid hs1;clear hO hOF hs1;rw[vo.out];go_wp2_with (fail)
 refine(HU.out _).mono ?_;rintro e w2 ⟨U,rfl,hs2,hut,Uu,hU2,YE⟩;have HS2:=Lib.hid hs2;have Ws:=Lib.hid hut;have UD:=Lib.hid Uu;have Ji:=Lib.hid hU2;have sS:=Lib.hid YE;clear hs2 hut Uu hU2 YE;go_wp2_with (fail)
 refine(HST.out _ _).mono ?_;rintro e w3 ⟨g,A,C,rfl,hA,hs3,hg,hAF⟩;have dX:=Lib.hid hs3;have HA:=Lib.hid hA;have HGL:=Lib.hid hg;have HAF:=Lib.hid hAF;clear hs3 hA hg hAF;go_upto_region 10 with fail
 refine ai fun w4 hw4=>?_
 have hX:=av.new w3 96 #[.pointer (some ⟨g,0,none⟩),.pointer (some ⟨U.T,0,none⟩),.slice none 0 0,.slice none 0 0];have hs4:Same w3 w4:=by rw[hw4];exact(ah.refl _ _).alloc _
 rw[← hw4] at hX;clear hw4;have x0:=hX.cell 0;have x1:=hX.cell 1;have x2:=hX.cell 2;have x3:=hX.cell 3;have hxl:=hX.lt;simp at x0 x1 x2 x3;have UE:=(HS2.out.trans dX.out (fun _ _ h=>h)).trans hs4 (fun _ _ h=>h);have hcl:=fun w' (hw:Same w4 w')=>vk.out w' oA oC ((HO.out.ag (UE.trans hw (fun _ _ h=>h)) (fun _ _=>id)).il)
 have abe:=Lib.hid hcl;have gH:=Lib.hid hs4;have acY:=Lib.hid UE;clear hX hs4 UE hcl vk HST HU HI;refine aG (fun _=>False) [([0,1,2,3],4),([5],6),([7],8)] (by kernel_rfl) (by kernel_rfl) ?_;simp only[di,pick,List.map_cons,List.map_nil,List.getD_cons_zero,List.getD_cons_succ];repeat (any_goals (first | go_big_quiet_step (fail) | quiet_step (fail)))
 refine wpQuiet_nil ?_;refine aa rfl fun K hK=>?_
 go_simp;refine(abe.out _ ((ah.refl _ _).drew)).mono ?_;rintro e w5 ⟨lA,lC,rfl,hL,hLF,hs5⟩;rw[vo.out] at hL;rw[vo.out];have Dk:Same w4 w5:=(ah.refl _ _).drew.trans hs5 (fun _ _ h=>h);refine hK _ _ (aY.bz Dk) ?_;clear hK K hs5;repeat (any_goals (first | go_big_quiet_step (fail) | quiet_step (fail)))
 refine wpQuiet_nil ?_;refine aa rfl fun K hK=>?_
 go_simp;have UF:=Dk.alloc (.cells #[.pointer (some ⟨g,0,none⟩),.pointer (some ⟨U.T,0,none⟩),.slice none 0 0,.slice none 0 0,.int .i64 n,.slice oA n oC,.slice lA n lC,.slice none 0 0] 100);refine hK _ _ (aY.bz UF) ?_;clear hK K;have hB:=av.new w5 100 #[.pointer (some ⟨g,0,none⟩),.pointer (some ⟨U.T,0,none⟩),.slice none 0 0,.slice none 0 0,.int .i64 n,.slice oA n oC,.slice lA n lC,.slice none 0 0];have hL6:=hL.ag ((ah.refl (fun _=>False) w5).alloc (.cells #[.pointer (some ⟨g,0,none⟩),.pointer (some ⟨U.T,0,none⟩),.slice none 0 0,.slice none 0 0,.int .i64 n,.slice oA n oC,.slice lA n lC,.slice none 0 0] 100)) (fun _ _=>id);have hz6:=Lib.hid (show w5.heap.size<(w5.alloc (.cells #[.pointer (some ⟨g,0,none⟩),.pointer (some ⟨U.T,0,none⟩),.slice none 0 0,.slice none 0 0,.int .i64 n,.slice oA n oC,.slice lA n lC,.slice none 0 0] 100)).heap.size by simp);generalize w5.alloc (.cells #[.pointer (some ⟨g,0,none⟩),.pointer (some ⟨U.T,0,none⟩),.slice none 0 0,.slice none 0 0,.int .i64 n,.slice oA n oC,.slice lA n lC,.slice none 0 0] 100)=w6 at *
 have HB:=Lib.hid hB;have YF:=Lib.hid hL6;have HLF:=Lib.hid hLF;have abf:=Lib.hid Dk;have YG:=Lib.hid UF;have QC:Hid (∀ b,rowOf lA b→b<w5.heap.size):=Lib.hid (fun b hb=>Own.Pk hL hb);clear hB hL hL6 hLF Dk UF;repeat (any_goals (first | go_big_quiet_step (fail) | quiet_step (fail)))
 refine wpQuiet_nil ?_;go_wp2;go_ret2;have YH:=(dX.out.trans gH.out (fun _ _ h=>h)).trans YG.out (fun _ _ h=>h);have abg:=gH.out.trans YG.out (fun _ _ h=>h);have YI:=HS2.out.trans YH (fun _ _ h=>h);have z1:=aW.out.size;have z2:=HS2.out.size;have z3:=dX.out.size;have z4:=gH.out.size;have z5:=abf.out.size;have UG:=Ws.out.same YH;have ha6:=HA.out.ag abg (fun _ _=>id);have abh:U.T≠U.sb:=by
  intro he;have h0:=UG.s 0 (by omega);rw[← he,UG.t.cell 0] at h0;cases h0
 have hap:=HA.out.apart;refine⟨w5.heap.size,⟨g,A,C,none,0,U,none,0,none,0,oA,oC,lA,lC,none,0⟩,rfl,⟨?_,ha6,UG,Own.nil _ _ _ _,Own.nil _ _ _ _,?_,?_,Own.nil _ _ _ _,?_⟩,aW.out.trans YI (fun _ _ h=>h),?_⟩
 ·have:=HB.out
  simpa [dw,xu,vo.out] using this
 ·have:=HO.out.ag YI (fun _ _=>id)
  simpa [xu,vo.out] using this
 ·have:=YF.out
  simpa [xu,vo.out] using this
 ·have hcl:∀ i b,KA.comp n w5.heap.size ⟨g,A,C,none,0,U,none,0,none,0,oA,oC,lA,lC,none,0⟩ i b→
    (i=0∧b=w5.heap.size)∨((i=1∨i=2)∧w2.heap.size≤b∧b<w3.heap.size)∨((i=4∨i=5∨i=6)∧w1.heap.size≤b∧b<w2.heap.size)∨(i=9∧w.heap.size≤b∧b<w1.heap.size)∨(i=10∧w4.heap.size≤b∧b<w5.heap.size):=by
   intro i b hb
   match i with
   | 0=>exact .inl ⟨rfl,hb⟩
   | 1 =>
    have hb':b=g:=hb
    have:=HA.out.blk.lt
    have:=HGL.out
    exact .inr (.inl ⟨.inl rfl,by omega,by omega⟩)
   | 2=>exact .inr (.inl ⟨.inr rfl,HAF.out b hb,Own.Pk HA.out.own hb⟩)
   | 3=>obtain⟨_,hx,_⟩:=hb;cases hx
   | 4 =>
    have hb':b=U.T:=hb
    have:=Ws.out.t.lt
    have:=UD.out
    exact .inr (.inr (.inl ⟨.inl rfl,by omega,by omega⟩))
   | 5 =>
    have hb':b=U.sb:=hb
    have:=Ws.out.sl
    have:=Ji.out
    exact .inr (.inr (.inl ⟨.inr (.inl rfl),by omega,by omega⟩))
   | 6 =>
    obtain⟨v,hv,hb'⟩:=hb;replace hb':b=U.mb v:=hb';have h1:=sS.out v hv;have h2:=Ws.out.ltm ⟨v,hv,rfl⟩;exact .inr (.inr (.inl ⟨.inr (.inr rfl),by omega,by omega⟩))
   | 7=>obtain⟨_,hx,_⟩:=hb;cases hx
   | 8=>obtain⟨_,hx,_⟩:=hb;cases hx
   | 9=>exact .inr (.inr (.inr (.inl ⟨rfl,HOF.out b hb,Own.Pk HO.out hb⟩)))
   | 10 =>
    have h1:=HLF.out b hb;have h3:w4.drew.heap.size=w4.heap.size:=rfl;obtain⟨ad,had,hbb⟩:=hb;have h2:b<w5.heap.size:=by
     have:=QC.out
     exact this b ⟨ad,had,hbb⟩
    exact .inr (.inr (.inr (.inr ⟨rfl,by omega,h2⟩)))
   | 11=>obtain⟨_,hx,_⟩:=hb;cases hx
   | _+12=>exact hb.elim
  intro i j b hij hi hj;rcases hcl i b hi with h | h | h | h | h <;> rcases hcl j b hj with h' | h' | h' | h' | h' <;> (try omega)
  ·obtain⟨hi1,_⟩:=h;obtain⟨hj1,_⟩:=h';rcases hi1 with rfl | rfl <;> rcases hj1 with rfl | rfl
   ·exact absurd rfl hij
   ·exact absurd hi (hap.1 b hj).1
   ·exact absurd hj (hap.1 b hi).1
   ·exact absurd rfl hij
  ·obtain⟨hi1,_⟩:=h;obtain⟨hj1,_⟩:=h';have a1:∀ b,b=U.T→b=U.sb→False:=fun b e1 e2=>abh (e1.symm.trans e2)
   have a2:∀ b,b=U.T→UB U n b→False:=fun b e1 ⟨v,hv,e2⟩=>(Ws.out.nt v hv).1 (e2.symm.trans e1)
   have a3:∀ b,b=U.sb→UB U n b→False:=fun b e1 ⟨v,hv,e2⟩=>(Ws.out.nt v hv).2 (e2.symm.trans e1)
   rcases hi1 with rfl | rfl | rfl <;> rcases hj1 with rfl | rfl | rfl
   ·exact absurd rfl hij
   ·exact a1 b hi hj
   ·exact a2 b hi hj
   ·exact a1 b hj hi
   ·exact absurd rfl hij
   ·exact a3 b hi hj
   ·exact a2 b hj hi
   ·exact a3 b hj hi
   ·exact absurd rfl hij
 ·rintro b ⟨i,hb⟩
  match i with
  | 0=>have hb':b=w5.heap.size:=hb;omega
  | 1=>have hb':b=g:=hb;have:=HGL.out;omega
  | 2=>have:=HAF.out b hb;omega
  | 3=>obtain⟨_,hx,_⟩:=hb;cases hx
  | 4=>have hb':b=U.T:=hb;have:=UD.out;omega
  | 5=>have hb':b=U.sb:=hb;have:=Ji.out;omega
  | 6=>obtain⟨v,hv,hb'⟩:=hb;replace hb':b=U.mb v:=hb';have h1:=sS.out v hv;omega
  | 7=>obtain⟨_,hx,_⟩:=hb;cases hx
  | 8=>obtain⟨_,hx,_⟩:=hb;cases hx
  | 9=>have:=HOF.out b hb;omega
  | 10=>have h1:=HLF.out b hb;have h3:w4.drew.heap.size=w4.heap.size:=rfl;omega
  | 11=>obtain⟨_,hx,_⟩:=hb;cases hx
  | _+12=>exact hb.elim
end
section
variable {k0 k:KS} {l x y:Nat} {ext:List Int} {X:List bP} {n:Nd}
theorem Dl (h:XY k0 l x y) (K:KI k0) (k3:KS) (hl:k3.dN=k0.dN) (v:Int) (v0:0≤v) :
  bH (mH k3 l x y) v=if v=y then (l:Int) else if v=x then (l:Int)+1 else bH k0 v:=by
 obtain⟨xn,yn,lx,ly,xy,ix,iy⟩:=h.facts K;obtain⟨m,rfl⟩:=Int.eq_ofNat_of_zero_le v0;have hxl:x<k3.dN.length:=by rw[hl,K.lv.ll];exact xn
 have hyl:y<(k3.dN.set x ((l:Int)+1)).length:=by rw[List.length_set,hl,K.lv.ll];exact yn
 show((k3.dN.set ((x:Int).toNat) ((l:Int)+1)).set ((y:Int).toNat) (l:Int)).getD ((m:Int).toNat) 0=_;rw[Int.toNat_natCast,Int.toNat_natCast,Int.toNat_natCast,iU hyl,iU hxl,hl];unfold bH;rw[Int.toNat_natCast];by_cases h1:y=m
 ·rw[if_pos h1,if_pos (show(m:Int)=(y:Int) by omega)]
 ·rw[if_neg h1,if_neg (show ¬ (m:Int)=(y:Int) by omega)];by_cases h2:x=m
  ·rw[if_pos h2,if_pos (show(m:Int)=(x:Int) by omega)]
  ·rw[if_neg h2,if_neg (show ¬ (m:Int)=(x:Int) by omega)]
theorem QD (h:XY k0 l x y) (K:KI k0) (k3:KS) (hs:iw k3=iw k0):Lv (mH k3 l x y):=by
 obtain⟨xn,yn,lx,ly,xy,ix,iy⟩:=h.facts K;have hn:k3.n=k0.n:=congrArg (fun t=>t.1) hs;have ho:k3.ord=k0.ord:=congrArg (fun t=>t.2.2.1) hs;have hl:k3.dN=k0.dN:=congrArg (fun t=>t.2.2.2.1) hs;have hol:=aQ h.hy;have hlx:k0.dN[x]?=some (l:Int):=by
  obtain⟨m,h1,_,h3⟩:=K.lv.o2 l _ h.hx;obtain rfl:x=m:=by omega
  exact h3
 have Ym:k0.dN[y]?=some ((l+1:Nat):Int):=by
  obtain⟨m,h1,_,h3⟩:=K.lv.o2 (l+1) _ h.hy;obtain rfl:y=m:=by omega
  exact h3
 have hO:(mH k3 l x y).ord=(k0.ord.set l (y:Int)).set (l+1) (x:Int):=by show(k3.ord.set l (y:Int)).set (l+1) (x:Int)=_;rw[ho]
 have hL:(mH k3 l x y).dN=(k0.dN.set x ((l:Int)+1)).set y (l:Int):=by show(k3.dN.set _ _).set _ _=_;rw[hl,Int.toNat_natCast,Int.toNat_natCast]
 have hN:(mH k3 l x y).n=k0.n:=hn;have xl:x<k0.dN.length:=by rw[K.lv.ll];exact xn
 have yl:y<k0.dN.length:=by rw[K.lv.ll];exact yn
 have gO:∀ i:Nat,(mH k3 l x y).ord[i]?=if i=l+1 then some (x:Int) else if i=l then some (y:Int) else k0.ord[i]?:=by
  intro i;rw[hO,List.getElem?_set,List.length_set,List.getElem?_set];by_cases h1:l+1=i
  ·rw[if_pos h1,if_pos (by omega),if_pos h1.symm]
  ·rw[if_neg h1,if_neg (show ¬ i=l+1 by omega)];by_cases h2:l=i
   ·rw[if_pos h2,if_pos (by omega),if_pos h2.symm]
   ·rw[if_neg h2,if_neg (show ¬ i=l by omega)]
 have gL:∀ i:Nat,(mH k3 l x y).dN[i]?=if i=y then some (l:Int) else if i=x then some ((l:Int)+1) else k0.dN[i]?:=by
  intro i;rw[hL,List.getElem?_set,List.length_set,List.getElem?_set];by_cases h1:y=i
  ·rw[if_pos h1,if_pos (by omega),if_pos h1.symm]
  ·rw[if_neg h1,if_neg (show ¬ i=y by omega)];by_cases h2:x=i
   ·rw[if_pos h2,if_pos (by omega),if_pos h2.symm]
   ·rw[if_neg h2,if_neg (show ¬ i=x by omega)]
 refine⟨by rw[hO,hN,List.length_set,List.length_set];exact K.lv.ol,by rw[hL,hN,List.length_set,List.length_set];exact K.lv.ll,?_,?_⟩
 ·intro i v hv;rw[gO] at hv;rw[hN];split at hv
  ·rename_i h1;injection hv with hv
   exact⟨x,hv.symm,xn,by rw[gL,if_neg (by omega),if_pos rfl,h1];rfl⟩
  ·rename_i h1;split at hv
   ·rename_i h2;injection hv with hv
    exact⟨y,hv.symm,yn,by rw[gL,if_pos rfl,h2]⟩
   ·rename_i h2;obtain⟨m,e1,e2,e3⟩:=K.lv.o2 i v hv;refine⟨m,e1,e2,?_⟩;rw[gL,if_neg (fun he=>?_),if_neg (fun he=>?_)]
    ·exact e3
    ·rw[he,hlx] at e3;injection e3 with e3;omega
    ·rw[he,Ym] at e3;injection e3 with e3;omega
 ·intro m i hi;rw[gL] at hi;rw[hN];split at hi
  ·rename_i h1;injection hi with hi
   exact⟨l,hi.symm,by rw[← K.lv.ol];omega,by rw[gO,if_neg (by omega),if_pos rfl,h1]⟩
  ·rename_i h1;split at hi
   ·rename_i h2;injection hi with hi
    exact⟨l+1,by omega,by rw[← K.lv.ol];omega,by rw[gO,if_pos rfl,h2]⟩
   ·rename_i h2;obtain⟨j,e1,e2,e3⟩:=K.lv.l2 m i hi;refine⟨j,e1,e2,?_⟩;rw[gO,if_neg (fun he=>?_),if_neg (fun he=>?_)]
    ·exact e3
    ·rw[he,h.hx] at e3;injection e3 with e3;omega
    ·rw[he,h.hy] at e3;injection e3 with e3;omega
theorem UH (h:XY k0 l x y) (K:KI k0) (t:T2 k0 x y (az k0 x y) [] k) {k3:KS} (hs:iw k3=iw k0) (hsub:∀ p∈k3.L,p∈k.L):Ord (mH k3 l x y):=by
 obtain⟨xn,yn,lx,ly,xy,ix,iy⟩:=h.facts K;have hl:k3.dN=k0.dN:=congrArg (fun t=>t.2.2.2.1) hs;have happ:az k0 x y++[]=az k0 x y:=List.append_nil _;have hcs:=fun c (hc:c∈az k0 x y)=>fG h K hc
 have hbase:=t.base;rw[happ] at hbase;have hb:=t.bk
 -- what stands at a ref that stood there before
 have old:∀ {m m':Nd} {q:Int},(m,q)∈k0.L→(m',q)∈k.L→(m'=m∧∀ c∈az k0 x y,q≠c.r)∨(m.v=x∧m'.v=y):=by
  intro m m' q hm hm';by_cases hc:∃ c∈az k0 x y,q=c.r
  ·obtain⟨c,hc1,rfl⟩:=hc;have hC:=hcs c hc1;have e:=K.uniq hm hC.mem;obtain⟨n',a1,a2,_,_⟩:=t.dn c hc1;have e2:=hb.uniq (List.mem_append_left _ hm') (List.mem_append_left _ a1);exact .inr ⟨by rw[e];exact hC.v,by rw[e2];exact a2⟩
  ·have:=hbase (m,q) hm (fun c hc1 he=>hc ⟨c,hc1,he⟩)
   have e2:=hb.uniq (List.mem_append_left _ hm') (List.mem_append_left _ this);exact .inl ⟨e2,fun c hc1 he=>hc ⟨c,hc1,he⟩⟩
 have key:∀ n r m q,(n,r)∈k.L→(m,q)∈k.L→(q=n.lo∨q=n.hi)→bH (mH k3 l x y) n.v<bH (mH k3 l x y) m.v:=by
  intro n r m q hn hm hq;have hm0:0≤m.v:=(hb.eZ m q hm).1;have hn0:0≤n.v:=(hb.eZ n r hn).1;rw[Dl h K k3 hl _ hn0,Dl h K k3 hl _ hm0];have vw:Low k0 l q→(l:Int)+1<(if m.v=y then (l:Int) else if m.v=x then (l:Int)+1 else bH k0 m.v):=by
   intro hlow;obtain⟨_,_,h3⟩:=jR h K hcs hb hbase hlow;obtain⟨h4,h5,h6⟩:=h3 m hm;rw[if_neg h6,if_neg h5];exact hlow.2.2 m h4
  rcases t.ent _ hn with⟨h1,h2⟩ | ⟨c,hc,h1,h2⟩ | ⟨c,hc,h1,h2,h3,h4⟩
  ·rw[happ] at h2;simp only at h1 h2;by_cases hx:n.v=x
   ·rw[if_neg (by omega),if_pos hx];exact vw (wZ h K h1 hx (fun c hc he=>h2 c hc he.symm) hq)
   ·by_cases hy:n.v=y
    ·rw[if_pos hy];have hlow:Low k0 l q:=by
      obtain⟨_,_,a,b,c',d,_⟩:=K.bk.eZ n r h1;refine⟨by rcases hq with rfl | rfl <;> assumption,by rcases hq with rfl | rfl <;> assumption,fun m' hm'=>?_⟩;have hlt:bH k0 n.v<bH k0 m'.v:=by
       rcases hq with rfl | rfl
       ·exact K.ord.lo n r m' h1 hm'
       ·exact K.ord.hi n r m' h1 hm'
      rw[hy,ly] at hlt;exact hlt
     have:=vw hlow
     omega
    ·rw[if_neg hy,if_neg hx]
     -- another variable
     obtain⟨nv0,nv1,a,b,c',d,_⟩:=K.bk.eZ n r h1;have q0:0≤q:=by rcases hq with rfl | rfl <;> assumption
     have qt:tk k0.ls q=true:=by rcases hq with rfl | rfl <;> assumption
     obtain⟨m',hm'⟩:∃ m',(m',q)∈k0.L:=by
      rcases(K.live q0).1 qt with e | e | e
      ·have:=(hb.jq (List.mem_append_left _ hm)).1;omega
      ·have:=(hb.jq (List.mem_append_left _ hm)).1;omega
      ·exact e
     have hlt:bH k0 n.v<bH k0 m'.v:=by
      rcases hq with rfl | rfl
      ·exact K.ord.lo n r m' h1 hm'
      ·exact K.ord.hi n r m' h1 hm'
     have hnl:bH k0 n.v≠l:=fun e=>hx (ix n.v nv0 nv1 e)
     rcases old hm' hm with⟨e,_⟩ | ⟨e1,e2⟩
     ·rw[e];split
      ·rename_i e3;rw[e3,ly] at hlt;omega
      ·split
       ·rename_i e3;rw[e3,lx] at hlt;omega
       ·exact hlt
     ·rw[if_pos e2];rw[e1,lx] at hlt;exact hlt
  ·simp only at h1 h2;have hv:n.v=x:=by rcases h1 with rfl | rfl <;> rfl
   rw[if_neg (by omega),if_pos hv];have hC:=hcs c hc;refine vw ?_;rcases h1 with rfl | rfl
   ·rcases hq with rfl | rfl
    ·exact hC.Px
    ·exact hC.l10
   ·rcases hq with rfl | rfl
    ·exact hC.BM
    ·exact hC.Wq
  ·simp only at h1 h2 h3 h4;rw[if_pos h2];have hC:=hcs c hc;have g:∀ a b,Low k0 l a→qQ k.L ⟨x,a,b⟩ q→(l:Int)<(if m.v=y then (l:Int) else if m.v=x then (l:Int)+1 else bH k0 m.v):=by
    intro a b ha hg;unfold qQ at hg;split at hg
    ·simp only at hg
     have:=vw (by rw[hg];exact ha)
     omega
    ·have e:=hb.uniq (List.mem_append_left _ hm) (List.mem_append_left _ hg);rw[e];show(l:Int)<(if (x:Int)=y then (l:Int) else if (x:Int)=x then (l:Int)+1 else bH k0 x);rw[if_neg (by omega),if_pos rfl];omega
   rcases hq with rfl | rfl
   ·exact g _ _ hC.Px h3
   ·exact g _ _ hC.BM h4
 exact⟨fun n r m hn hm=>key n r m _ (hsub _ hn) (hsub _ hm) (.inl rfl),fun n r m hn hm=>key n r m _ (hsub _ hn) (hsub _ hm) (.inr rfl)⟩
theorem Bk.swap (h:Bk k ext X) (l:Nat) (x y:Int):Bk (mH k l x y) ext X:=⟨h.n1,h.n64,h.c2,h.cM,h.l0,h.l1,h.mem,h.conv,h.kn,h.rn,h.E5,h.fn,h.cnt,h.iG,h.lim,h.ul,h.E8,h.eZ,h.use,h.hol,h.BN,h.bd⟩
theorem xx (h:XY k0 l x y) (K:KI k0) (hR:gJ k0 x y=true):KI (dQ k0 l x y):=by
 have t:=AR h K hR;have hp:=AU h K t;have hb:=t.bk;rw[List.append_nil] at hb;have hb':Bk (bW (aZ k0 (az k0 x y)) x y (az k0 x y)) (kids (az k0 x y)++[]) []:=by rw[List.append_nil];exact hb
 obtain⟨a1,a2,a3,a4⟩:=nI _ _ _ hb' hp;have hs:iw (fA (bW (aZ k0 (az k0 x y)) x y (az k0 x y)) (az k0 x y))=iw k0:=(iI _ _).trans t.same;exact⟨a1.swap _ _ _,QD h K _ hs,a2,UH h K t hs a3⟩
theorem zF (K:KI k) (h1:l+1<k.n):∃ x y,XY k l x y:=by
 obtain⟨x,a1,_,_⟩:=K.lv.o2 l _ (List.getElem?_eq_getElem (by rw[K.lv.ol];omega));obtain⟨y,b1,_,_⟩:=K.lv.o2 (l+1) _ (List.getElem?_eq_getElem (by rw[K.lv.ol];omega));exact⟨x,y,by rw[List.getElem?_eq_getElem (by rw[K.lv.ol];omega),a1],by rw[List.getElem?_eq_getElem (by rw[K.lv.ol];omega),b1]⟩
theorem Hu (K:KI k) (h1:l+1<k.n):KI (dR k l).2:=by
 obtain⟨x,y,h⟩:=zF K h1;unfold dR;have e1:k.ord.getD l 0=x:=by rw[List.getD_eq_getElem?_getD,h.hx];rfl
 have e2:k.ord.getD (l+1) 0=y:=by rw[List.getD_eq_getElem?_getD,h.hy];rfl
 rw[e1,e2];split
 ·rename_i hR;exact xx h K hR
 ·exact K
theorem KI.tr (K:KI k) (t:List Int):KI { k with tr:=t }:=⟨K.bk.tr t,⟨K.lv.ol,K.lv.ll,K.lv.o2,K.lv.l2⟩,K.pos,⟨K.ord.lo,K.ord.hi⟩⟩
theorem Hw (K:KI k) (l:Int):KI (bL k l).2:=by
 unfold bL;split
 ·exact K
 ·rename_i h;have K':=Hu (l:=l.toNat) K (by omega);split
  ·exact K'.tr _
  ·exact K'
theorem M4 {n c:Nat} (h1:1≤n) (h2:n≤64) (h3:2≤c) (h4:c≤1048576):KI (xu n c):=by
 have hr:∀ i:Nat,(si n)[i]?=if i<n then some (i:Int) else none:=by
  intro i;unfold si;rw[List.getElem?_map];by_cases h:i<n
  ·rw[if_pos h,List.getElem?_range h];rfl
  ·rw[if_neg h,List.getElem?_eq_none (by simp <;> omega)];rfl
 have YJ:∀ p,p∈(xu n c).L++[]→False:=fun p hp=>by simp[xu] at hp
 refine⟨⟨h1,h2,h3,h4,rfl,rfl,(fun _ _ hm=>(YJ _ hm).elim),?_,List.nodup_nil,List.nodup_nil,(fun _ hm=>absurd hm (List.not_mem_nil)),List.nodup_nil,rfl,rfl,?_,rfl,Nat.zero_le _,(fun _ _ hm=>absurd hm (List.not_mem_nil)),(fun _ _ hm=>(YJ _ hm).elim),?_,(fun _ hm=>absurd hm (List.not_mem_nil)),Nat.zero_le _⟩,⟨jk n,jk n,?_,?_⟩,(fun _ _ hm=>absurd hm (List.not_mem_nil)),⟨(fun _ _ _ hm=>absurd hm (List.not_mem_nil)),(fun _ _ _ hm=>absurd hm (List.not_mem_nil))⟩⟩
 ·intro m p h2 hp _
  have:m<2:=aQ hp
  omega
 ·show 2≤c;exact h3
 ·intro m v hv;replace hv:([]:List Int)[m]?=some v:=hv;simp at hv
 ·intro l v hv;replace hv:(si n)[l]?=some v:=hv;rw[hr] at hv;split at hv
  ·rename_i h;injection hv with hv
   exact⟨l,hv.symm,h,by show(si n)[l]?=_;rw[hr,if_pos h]⟩
  ·cases hv
 ·intro l v hv;replace hv:(si n)[l]?=some v:=hv;rw[hr] at hv;split at hv
  ·rename_i h;injection hv with hv
   exact⟨l,hv.symm,h,by show(si n)[l]?=_;rw[hr,if_pos h]⟩
  ·cases hv
end
section
variable {k:KS} {ext:List Int} {X:List bP} {n:Nd}
theorem Lv.of_eq {k k':KS} (h:Lv k) (h1:k'.n=k.n) (h2:k'.ord=k.ord) (h3:k'.dN=k.dN):Lv k':=⟨by rw[h1,h2];exact h.ol,by rw[h1,h3];exact h.ll,by rw[h1,h2,h3];exact h.o2,by rw[h1,h2,h3];exact h.l2⟩
theorem Lv.FE {k k':KS} (h:Lv k) (hs:iw k'=iw k):Lv k':=h.of_eq (congrArg (fun t=>t.1) hs) (congrArg (fun t=>t.2.2.1) hs) (congrArg (fun t=>t.2.2.2.1) hs)
theorem kz {k k':KS} (h:k'.dN=k.dN) (v:Int):bH k' v=bH k v:=by unfold bH;rw[h]
theorem Ord.sub {k k':KS} (h:Ord k) (hl:k'.dN=k.dN) (hs:∀ p∈k'.L,p∈k.L):Ord k' :=
 ⟨fun n r m a b=>by rw[kz hl,kz hl];exact h.lo n r m (hs _ a) (hs _ b),fun n r m a b=>by rw[kz hl,kz hl];exact h.hi n r m (hs _ a) (hs _ b)⟩
def M5 (k:KS) (r:Int):Prop:=∀ n q,(n,q)∈k.L→q≠r→0<k.us.getD q.toNat 0
theorem Pos.but (h:Pos k) (r:Int):M5 k r:=fun n q hq _=>h n q hq
theorem JI (k:KS) (r:Int) (m:Nat):k.us.getD m 0≤(bN k r).us.getD m 0:=by
 rw[List.getD_eq_getElem?_getD,List.getD_eq_getElem?_getD,ow];cases k.us[m]? with
 | none=>simp
 | some u =>
  simp only[Option.map_some,Option.getD_some];split <;> omega
theorem Hy {r:Int} (hb:Bk k [] []) (hl:Lv k) (ho:Ord k) (hp:M5 k r) (hn:∃ n,(n,r)∈k.L) (h0:k.hs.getD r.toNat 0=0):KI (jh k r):=by
 obtain⟨n,hn⟩:=hn;have hm:=hb.jq (List.mem_append_left [] hn);have hr0:0≤r:=by omega
 have hcnt:=hb.cnt;have hcl:=hb.iG;have uJ:=hb.lim;have Xo:=hb.cM;simp only[List.append_nil] at hcnt;have h1:=E9 hb hr0 hm.2.2 (by simp only[List.length_nil];omega);have hL:=Fx k r;have hH:=xe k r;have h2:=Qx h1 (n:=n) (by rw[hL];exact List.mem_append_left _ hn) (by rw[hH];exact h0);have e:jh k r={ bN k r with hs:=(bN k r).hs.set r.toNat 1 }:=by
  unfold jh;rw[if_pos h0,h0,hH];rfl
 rw[e];have hk:iw { bN k r with hs:=(bN k r).hs.set r.toNat 1 }=iw k:=kY k r;refine⟨h2,hl.FE hk,?_,ho.sub (congrArg (fun t=>t.2.2.2.1) hk) (fun p hp=>by have:p∈(bN k r).L:=hp;rwa [hL] at this)⟩;intro m q hq;replace hq:(m,q)∈k.L:=by have:(m,q)∈(bN k r).L:=hq;rwa [hL] at this
 show 0<(bN k r).us.getD q.toNat 0;by_cases Sn:q=r
 ·subst Sn;obtain⟨u,hu,_⟩:=hb.wG (List.mem_append_left [] hn);rw[List.getD_eq_getElem?_getD,ow,hu];simp only[Option.map_some,Option.getD_some];rw[if_pos ⟨by omega,by omega⟩];omega
 ·have:=hp m q hq Sn
  have:=JI k r q.toNat
  omega
theorem SV {h' r:Int} (K:KI k) (hb:Bk { k with hs:=k.hs.set r.toNat h' } [] []):KI { k with hs:=k.hs.set r.toNat h' } :=
 ⟨hb,K.lv.of_eq rfl rfl rfl,K.pos,K.ord.sub rfl (fun _ h=>h)⟩
theorem Hz (K:KI k) {r:Int} (h0:0≤r):KI (bE k r).2:=by
 unfold bE;split
 ·exact K
 ·rename_i ht;split
  ·rename_i h1;obtain⟨n,hn⟩:∃ n,(n,r)∈k.L:=by
    rcases(K.live h0).1 (by simpa using ht) with h | h | h
    ·omega
    ·omega
    ·exact h
   split
   ·exact K
   ·rename_i h5;refine KI.tr ?_ _;by_cases hh:k.hs.getD r.toNat 0=0
    ·exact Hy K.bk K.lv K.ord (K.pos.but r) ⟨n,hn⟩ hh
    ·have e:jh k r={ k with hs:=k.hs.set r.toNat (k.hs.getD r.toNat 0+1) }:=by unfold jh;rw[if_neg hh]
     rw[e];have hv:0≤k.hs.getD r.toNat 0∧k.hs.getD r.toNat 0≤65535:=by
      rw[List.getD_eq_getElem?_getD];cases hx:k.hs[r.toNat]? with
      | none=>simp
      | some x=>exact⟨(K.bk.hol _ x hx).1,(K.bk.hol _ x hx).2.1⟩
     exact SV K (He K.bk (List.mem_append_left [] hn) hh (by omega) (by omega))
  ·exact K.tr _
theorem H6 (K:KI k) {r:Int} (h0:0≤r):KI (dF k r).2:=by
 unfold dF;split
 ·rename_i h1;split
  ·exact K
  ·rename_i hh;refine KI.tr ?_ _;obtain⟨n,hn⟩:=nH K.bk h0 hh;have hv:0≤k.hs.getD r.toNat 0∧k.hs.getD r.toNat 0≤65535:=by
    rw[List.getD_eq_getElem?_getD];cases hx:k.hs[r.toNat]? with
    | none=>simp
    | some x=>exact⟨(K.bk.hol _ x hx).1,(K.bk.hol _ x hx).2.1⟩
   unfold ig;split
   ·rename_i h1;have hcnt:=K.bk.cnt;have hcl:=K.bk.iG;have uJ:=K.bk.lim;have Xo:=K.bk.cM;simp only[List.append_nil] at hcnt;have hb:=zu K.bk hn hh (by simp only[List.length_nil];omega);obtain⟨a1,a2,a3,a4⟩:=vg hb K.pos;have hk:iw (jY { k with hs:=k.hs.set r.toNat 0 } r)=iw k:=jQ _ _ _;exact⟨a1,K.lv.FE hk,a2,K.ord.sub (congrArg (fun t=>t.2.2.2.1) hk) a3⟩
   ·exact SV K (He K.bk hn hh (by omega) (by omega))
 ·exact K.tr _
theorem M6 (h:iB k n=0) (hne:n.lo≠n.hi):bH k n.v<bJ k n.lo∧bH k n.v<bJ k n.hi:=by
 unfold iB at h;split at h
 ·cases h
 ·split at h
  ·cases h
  ·split at h
   ·cases h
   ·rename_i h3
    have:¬ min (bJ k n.lo) (bJ k n.hi)≤bH k n.v:=fun hc=>h3 ⟨hne,hc⟩
    omega
theorem bf (K:KI k) {m:Nd} {q:Int} (hm:(m,q)∈k.L):bJ k q=bH k m.v:=by
 unfold bJ bH;rw[(K.mem' hm).2.1,if_pos (K.bk.eZ m q hm).1]
theorem M7 (K:KI k) (hn:jO k n) (hf:iB k n=0) (hs:fD k n=none) (hc:k.ac+1≤k.c):KI (jh (aT k n) (aC k)):=by
 obtain⟨hne,hnew⟩:=oI hs;have hb:=xg K.bk hn hs hc;have hL:=AL (k:=k) ⟨hn.v0,hn.v1⟩ hnew;have hk:=oF k n;obtain⟨r2,rf,_⟩:=fC K.bk;have YK:∀ m,(m,(aC k:Int))∈k.L→False:=fun m hm=>by
  have:=(K.mem' hm).2.2
  rw[rf] at this;cases this
 have hin:(n,(aC k:Int))∈(aT k n).L:=by rw[hL];simp
 refine Hy hb (K.lv.FE hk) ?_ ?_ ⟨n,hin⟩ ?_
 ·have hlv:=congrArg (fun t=>t.2.2.2.1) hk;have hl:(aT k n).dN=k.dN:=hlv;obtain⟨f1,f2⟩:=M6 hf hne;have key:∀ n' r m q,(n',r)∈(aT k n).L→(m,q)∈(aT k n).L→(q=n'.lo∨q=n'.hi)→bH k n'.v<bH k m.v:=by
   intro n' r m q h1 h2 hq;rw[hL] at h1 h2;have hq':tk k.ls q=true→(m,q)∈k.L:=by
    intro ht;rcases List.mem_append.1 h2 with h2 | h2
    ·exact h2
    ·simp at h2;rw[h2.2,rf] at ht;cases ht
   rcases List.mem_append.1 h1 with h1 | h1
   ·obtain⟨_,_,a,b,c,d,_⟩:=K.bk.eZ n' r h1;rcases hq with rfl | rfl
    ·exact K.ord.lo n' r m h1 (hq' c)
    ·exact K.ord.hi n' r m h1 (hq' d)
   ·simp at h1;rw[h1.1] at hq ⊢;rcases hq with rfl | rfl
    ·rw[← bf K (hq' hn.l1)];exact f1
    ·rw[← bf K (hq' hn.h1)];exact f2
  exact⟨fun n' r m h1 h2=>by rw[kz hl,kz hl];exact key n' r m _ h1 h2 (.inl rfl),fun n' r m h1 h2=>by rw[kz hl,kz hl];exact key n' r m _ h1 h2 (.inr rfl)⟩
 ·intro m q hq Sn;rw[hL] at hq;have hq':(m,q)∈k.L:=by
   rcases List.mem_append.1 hq with h | h
   ·exact h
   ·simp at h;exact absurd h.2 Sn
  have hpos:=K.pos m q hq';obtain⟨i,e1,_,e3,_⟩:=K.bk.mem m q (List.mem_append_left [] hq');subst e1;rw[Int.toNat_natCast] at hpos ⊢;have hne':aC k≠i:=by omega
  rw[List.getD_eq_getElem?_getD,CF,List.getElem?_set,if_neg hne',kV,if_pos e3,List.getElem?_eq_getElem e3];rw[List.getD_eq_getElem?_getD,List.getElem?_eq_getElem e3] at hpos;simp only[Option.map_some,Option.getD_some] at hpos ⊢;split <;> split <;> omega
 ·rw[Int.toNat_natCast,qR K.bk n];rw[List.getD_eq_getElem?_getD];cases hx:k.hs[aC k]? with
  | none=>rfl
  | some x =>
   by_cases h0:x=0
   ·subst h0;rfl
   ·obtain⟨m,hm⟩:=(K.bk.hol _ x hx).2.2 h0;exact(YK m (by simpa using hm)).elim
theorem xz (K:KI k) (hn:jO k n) (hs:fD k n=none) (hc:k.ac+1≤k.c):bE (aT k n) (aC k)=(0,{ jh (aT k n) (aC k) with tr:=[] }):=by
 have hb:=xg K.bk hn hs hc;obtain⟨_,hnew⟩:=oI hs;have hL:=AL (k:=k) ⟨hn.v0,hn.v1⟩ hnew;obtain⟨r2,rf,_⟩:=fC K.bk;have hin:(n,(aC k:Int))∈(aT k n).L:=by rw[hL];simp
 have ht:=(hb.jq (List.mem_append_left [] hin)).2.2;have h0:(aT k n).hs.getD (aC k:Int).toNat 0=0:=by
  rw[Int.toNat_natCast,qR K.bk n,List.getD_eq_getElem?_getD];cases hx:k.hs[aC k]? with
  | none=>rfl
  | some x =>
   by_cases h0:x=0
   ·subst h0;rfl
   ·obtain⟨m,hm⟩:=(K.bk.hol _ x hx).2.2 h0
    have:=(K.mem' (r:=aC k) (by simpa using hm)).2.2
    rw[rf] at this;cases this
 unfold bE;rw[if_neg (by rw[ht];simp),if_pos (by omega),if_neg (by rw[h0];omega)]
theorem Bd (K:KI k) (l0:0≤n.lo) (h0:0≤n.hi):KI (aV k n).2.2:=by
 unfold aV;split
 ·rename_i hf;have hn:=AX hf l0 h0;cases hs:fD k n with
  | some r =>
   have:=zy K.bk hn hs
   have hk:=Hz K this.1;show KI (bU k r).2.2;unfold bU;split
   ·exact hk
   ·exact hk
  | none =>
   show KI (if k.ac+1≤k.c then bU (aT k n) (aC k) else (0,9,k)).2.2;split
   ·rename_i hc;unfold bU;rw[xz K hn hs hc];rw[if_pos rfl];exact(M7 K hn hf hs hc).tr _
   ·exact K
 ·exact K
theorem QE (K:KI k) (h:∀ l,k.tr.getLast?=some l→0≤l∧l+1<k.n):KI (bO k).2.2:=by
 unfold bO;cases hl:k.tr.getLast? with
 | none=>exact K
 | some l =>
  have:=h l hl
  exact(Hu (l:=l.toNat) K (by omega)).tr _
end
inductive Ev (L:List bP) (p:Int→Bool):Int→Bool→Prop
 | c0:Ev L p 0 false
 | c1:Ev L p 1 true
 | nd {n:Nd} {r:Int} {b:Bool}:(n,r)∈L→Ev L p (if p n.v then n.hi else n.lo) b→Ev L p r b
theorem Ev.mono {L L':List bP} {p:Int→Bool} (h:∀ e∈L,e∈L') {r:Int} {b:Bool} (he:Ev L p r b):Ev L' p r b:=by
 induction he with
 | c0=>exact .c0
 | c1=>exact .c1
 | nd hm _ ih=>exact .nd (h _ hm) ih
noncomputable def sem (L:List bP) (r:Int) (p:Int→Bool):Bool:=by classical exact decide (Ev L p r true)
section
variable {k k':KS} {n m:Nd} {r q s:Int} {p p':Int→Bool} {b b':Bool} {l:Nat}
theorem H7 (K:KI k) (h:(n,r)∈k.L):Ev k.L p r b↔Ev k.L p (if p n.v then n.hi else n.lo) b:=by
 refine⟨fun he=>?_,fun he=>.nd h he⟩;have h2:=(K.mem' h).1;cases he with
 | c0=>omega
 | c1=>omega
 | nd hm he =>
  rw[K.uniq h hm];exact he
theorem SX (K:KI k):Ev k.L p 0 b↔b=false:=by
 constructor
 ·intro h;cases h with
  | c0=>rfl
  | nd hm _=>have:=(K.mem' hm).1;omega
 ·rintro rfl;exact .c0
theorem SY (K:KI k):Ev k.L p 1 b↔b=true:=by
 constructor
 ·intro h;cases h with
  | c1=>rfl
  | nd hm _=>have:=(K.mem' hm).1;omega
 ·rintro rfl;exact .c1
theorem M8 (K:KI k) (h:Ev k.L p r b):∀ {b'},Ev k.L p r b'→b=b':=by
 induction h with
 | c0=>intro b' h;exact((SX K).1 h).symm
 | c1=>intro b' h;exact((SY K).1 h).symm
 | nd hm _ ih=>intro b' h;exact ih ((H7 K hm).1 h)
structure Lf (k:KS) (r:Int):Prop where
 h0:0≤r
 h1:tk k.ls r=true
theorem Lf.zero (K:KI k):Lf k 0:=⟨by decide,(K.live (by decide)).2 (.inl rfl)⟩
theorem Lf.one (K:KI k):Lf k 1:=⟨by decide,(K.live (by decide)).2 (.inr (.inl rfl))⟩
theorem Lf.of (K:KI k) (h:(n,r)∈k.L):Lf k r:=⟨by have:=(K.mem' h).1;omega,(K.mem' h).2.2⟩
theorem Lf.lo (K:KI k) (h:(n,r)∈k.L):Lf k n.lo:=let c:=K.bk.eZ n r h;⟨c.2.2.1,c.2.2.2.2.1⟩
theorem Lf.hi (K:KI k) (h:(n,r)∈k.L):Lf k n.hi:=let c:=K.bk.eZ n r h;⟨c.2.2.2.1,c.2.2.2.2.2.1⟩
theorem Lf.kid (K:KI k) (h:(n,r)∈k.L):Lf k (if b then n.hi else n.lo):=by
 cases b with
 | false=>exact Lf.lo K h
 | true=>exact Lf.hi K h
theorem Lf.cases (K:KI k) (h:Lf k r):r=0∨r=1∨∃ n,(n,r)∈k.L:=(K.live h.h0).1 h.h1
theorem bZ (K:KI k) (h:r=0∨r=1):bJ k r=k.n:=by
 unfold bJ;rw[if_neg (by rw[K.const h] <;> decide)]
theorem eO (K:KI k) (h:Lf k r):∃ d:Nat,bJ k r=d∧d≤k.n∧(d<k.n↔∃ n,(n,r)∈k.L):=by
 rcases h.cases K with h1 | h1 | ⟨n,hn⟩
 ·refine⟨k.n,bZ K (.inl h1),Nat.le_refl _,⟨fun h=>absurd h (Nat.lt_irrefl _),fun ⟨n,hn⟩=>?_⟩⟩
  have:=(K.mem' hn).1;omega
 ·refine⟨k.n,bZ K (.inr h1),Nat.le_refl _,⟨fun h=>absurd h (Nat.lt_irrefl _),fun ⟨n,hn⟩=>?_⟩⟩
  have:=(K.mem' hn).1;omega
 ·obtain⟨c0,c1,_⟩:=K.bk.eZ n r hn;obtain⟨i,e1,e2,_⟩:=K.lv.dK c0 c1;exact⟨i,by rw[bf K hn,e1],Nat.le_of_lt e2,⟨fun _=>⟨n,hn⟩,fun _=>e2⟩⟩
theorem bu (K:KI k) (h:(n,r)∈k.L) (hq:q=n.lo∨q=n.hi):bH k n.v<bJ k q:=by
 obtain⟨c0,c1,_⟩:=K.bk.eZ n r h;obtain⟨i,e1,e2,_⟩:=K.lv.dK c0 c1;have hl:Lf k q:=by rcases hq with rfl | rfl;exact Lf.lo K h;exact Lf.hi K h
 rcases hl.cases K with h1 | h1 | ⟨m,hm⟩
 ·rw[bZ K (.inl h1),e1];omega
 ·rw[bZ K (.inr h1),e1];omega
 ·rw[bf K hm];rcases hq with rfl | rfl
  ·exact K.ord.lo n r m h hm
  ·exact K.ord.hi n r m h hm
theorem FH (K:KI k) (h:(n,r)∈k.L):bH k n.v<bJ k (if b then n.hi else n.lo):=by
 cases b with
 | false=>exact bu K h (.inl rfl)
 | true=>exact bu K h (.inr rfl)
theorem xA (K:KI k) {P:Int→Prop} (h0:P 0) (h1:P 1) (hn:∀ n r,(n,r)∈k.L→P n.lo→P n.hi→P r):∀ {r},Lf k r→P r:=by
 have key:∀ f r,Lf k r→(k.n:Int)-bJ k r≤(f:Nat)→P r:=by
  intro f
  induction f with
  | zero =>
   intro r hl hf;rcases hl.cases K with rfl | rfl | ⟨n,hn'⟩
   ·exact h0
   ·exact h1
   ·obtain⟨d,e1,_,e3⟩:=eO K hl
    have:=e3.2 ⟨n,hn'⟩
    omega
  | succ f ih =>
   intro r hl hf;rcases hl.cases K with rfl | rfl | ⟨n,hn'⟩
   ·exact h0
   ·exact h1
   ·rw[bf K hn'] at hf;have a:=bu K hn' (.inl rfl);have b:=bu K hn' (.inr rfl);exact hn n r hn' (ih _ (Lf.lo K hn') (by omega)) (ih _ (Lf.hi K hn') (by omega))
 intro r hl;obtain⟨d,e1,_⟩:=eO K hl;exact key k.n r hl (by omega)
theorem M9 (K:KI k) (hl:Lf k r):∃ b,Ev k.L p r b:=by
 refine xA K (P:=fun r=>∃ b,Ev k.L p r b) ⟨_,.c0⟩ ⟨_,.c1⟩ ?_ hl;rintro n r hn ⟨b1,h1⟩ ⟨b2,h2⟩;cases hp:p n.v with
 | false=>exact⟨b1,.nd hn (by rw[hp];exact h1)⟩
 | true=>exact⟨b2,.nd hn (by rw[hp];exact h2)⟩
theorem vz (K:KI k) (hl:Lf k r):Ev k.L p r b↔sem k.L r p=b:=by
 obtain⟨c,hc⟩:=M9 (p:=p) K hl;have hs:sem k.L r p=c:=by
  unfold sem;cases c with
  | true=>simpa using hc
  | false =>
   have:¬ Ev k.L p r true:=fun h=>by cases M8 K hc h
   simpa using this
 rw[hs];exact⟨fun h=>M8 K hc h,fun h=>h ▸ hc⟩
theorem Be (K:KI k) (hl:Lf k r):Ev k.L p r (sem k.L r p):=(vz K hl).2 rfl
theorem nJ (K:KI k):sem k.L 0 p=false:=(vz K (Lf.zero K)).1 .c0
theorem nK (K:KI k):sem k.L 1 p=true:=(vz K (Lf.one K)).1 .c1
theorem fH (K:KI k) (h:(n,r)∈k.L):sem k.L r p=if p n.v then sem k.L n.hi p else sem k.L n.lo p:=by
 refine(vz K (Lf.of K h)).1 (.nd h ?_);cases hp:p n.v with
 | false=>exact Be K (Lf.lo K h)
 | true=>exact Be K (Lf.hi K h)
theorem H8 (K:KI k) (hl:Lf k r) (ha:∀ v:Int,0≤v→v<k.n→bJ k r≤bH k v→p v=p' v):sem k.L r p=sem k.L r p':=by
 revert ha
 refine xA K (P:=fun r=>(∀ v:Int,0≤v→v<k.n→bJ k r≤bH k v→p v=p' v)→sem k.L r p=sem k.L r p') ?_ ?_ ?_ hl
 ·intro _;rw[nJ K,nJ K]
 ·intro _;rw[nK K,nK K]
 ·intro n r hn i1 i2 ha;obtain⟨c0,c1,_⟩:=K.bk.eZ n r hn;have hd:=bf K hn;have e:=ha n.v c0 c1 (by rw[hd];exact Int.le_refl _);have kl:=bu K hn (.inl rfl);have kh:=bu K hn (.inr rfl);rw[fH K hn,fH K hn,e,i1 (fun v v0 v1 hv=>ha v v0 v1 (by rw[hd];omega)),i2 (fun v v0 v1 hv=>ha v v0 v1 (by rw[hd];omega))]
def upd (p:Int→Bool) (v:Int) (b:Bool):Int→Bool:=fun u=>if u=v then b else p u
theorem upd_same (p:Int→Bool) (v:Int) (b:Bool):upd p v b v=b:=if_pos rfl
theorem lF {p:Int→Bool} {u v:Int} {b:Bool} (h:u≠v):upd p v b u=p u:=if_neg h
theorem dG (K:KI k) (hl:Lf k r) {v:Int} (hv:0≤v→v<k.n→bH k v<bJ k r):sem k.L r (upd p v b)=sem k.L r p:=by
 refine H8 K hl (fun u u0 u1 hu=>?_);by_cases h:u=v
 ·subst h
  have:=hv u0 u1
  omega
 ·exact lF h
theorem sU (K:KI k) (h:(n,r)∈k.L):sem k.L n.hi p=sem k.L r (upd p n.v true):=by
 rw[fH K h,upd_same,if_pos rfl,dG K (Lf.hi K h) (fun _ _=>bu K h (.inr rfl))]
theorem sV (K:KI k) (h:(n,r)∈k.L):sem k.L n.lo p=sem k.L r (upd p n.v false):=by
 rw[fH K h,upd_same,if_neg (by decide),dG K (Lf.lo K h) (fun _ _=>bu K h (.inl rfl))]
theorem Nd.ext {n m:Nd} (h1:n.v=m.v) (h2:n.lo=m.lo) (h3:n.hi=m.hi):n=m:=by
 cases n;cases m;simp_all
theorem Nc (K:KI k) (h1:(n,r)∈k.L) (h2:(m,q)∈k.L) (hv:n.v=m.v) (hl:n.lo=m.lo) (hh:n.hi=m.hi):r=q :=
 fP K.bk.kn h1 (by rw[Nd.ext hv hl hh];exact h2)
theorem H9 (K:KI k) {u v:Int} (u0:0≤u) (u1:u<k.n) (v0:0≤v) (v1:v<k.n) (h:bH k u=bH k v):u=v:=by
 obtain⟨i,a1,_,a3⟩:=K.lv.dK u0 u1;obtain⟨j,b1,_,b3⟩:=K.lv.dK v0 v1;obtain rfl:i=j:=by omega
 rw[a3] at b3;injection b3
theorem canon (K:KI k):∀ {r q},Lf k r→Lf k q→(∀ p,sem k.L r p=sem k.L q p)→r=q:=by
 have key:∀ f r q,Lf k r→Lf k q→(k.n:Int)-bJ k r≤(f:Nat)→(k.n:Int)-bJ k q≤(f:Nat)→(∀ p,sem k.L r p=sem k.L q p)→r=q:=by
  intro f
  induction f with
  | zero =>
   intro r q hr hq f1 f2 hs;have cr:r=0∨r=1:=by
    rcases hr.cases K with h | h | h
    ·exact .inl h
    ·exact .inr h
    ·obtain⟨d,e1,_,e3⟩:=eO K hr
     have:=e3.2 h
     omega
   have cq:q=0∨q=1:=by
    rcases hq.cases K with h | h | h
    ·exact .inl h
    ·exact .inr h
    ·obtain⟨d,e1,_,e3⟩:=eO K hq
     have:=e3.2 h
     omega
   have h:=hs (fun _=>true);rcases cr with rfl | rfl <;> rcases cq with rfl | rfl
   ·rfl
   ·rw[nJ K,nK K] at h;cases h
   ·rw[nJ K,nK K] at h;cases h
   ·rfl
  | succ f ih =>
   -- a node is not like what lies deeper
   have one:∀ n r q,(n,r)∈k.L→Lf k q→(k.n:Int)-bH k n.v≤(f+1:Nat)→bH k n.v<bJ k q→(∀ p,sem k.L r p=sem k.L q p)→False:=by
    intro n r q hn hq hf hlt hs;have hd:=(K.bk.eZ n r hn).2.2.2.2.2.2;refine hd (ih _ _ (Lf.lo K hn) (Lf.hi K hn) ?_ ?_ (fun p=>?_))
    ·have:=bu K hn (.inl rfl);omega
    ·have:=bu K hn (.inr rfl);omega
    ·rw[sV K hn,sU K hn,hs,hs,dG K hq (fun _ _=>hlt),dG K hq (fun _ _=>hlt)]
   intro r q hr hq f1 f2 hs;rcases hr.cases K with h | h | ⟨n,hn⟩
   ·rcases hq.cases K with g | g | ⟨m,hm⟩
    ·rw[h,g]
    ·have:=hs (fun _=>true)
     rw[h,g,nJ K,nK K] at this;cases this
    ·exfalso;rw[bf K hm] at f2;refine one m q r hm hr f2 ?_ (fun p=>(hs p).symm);rw[bZ K (.inl h)];obtain⟨c0,c1,_⟩:=K.bk.eZ m q hm;obtain⟨i,e1,e2,_⟩:=K.lv.dK c0 c1;omega
   ·rcases hq.cases K with g | g | ⟨m,hm⟩
    ·have:=hs (fun _=>true)
     rw[h,g,nJ K,nK K] at this;cases this
    ·rw[h,g]
    ·exfalso;rw[bf K hm] at f2;refine one m q r hm hr f2 ?_ (fun p=>(hs p).symm);rw[bZ K (.inr h)];obtain⟨c0,c1,_⟩:=K.bk.eZ m q hm;obtain⟨i,e1,e2,_⟩:=K.lv.dK c0 c1;omega
   ·have dn:=bf K hn;rw[dn] at f1;by_cases h1:bH k n.v<bJ k q
    ·exact(one n r q hn hq f1 h1 hs).elim
    ·rcases hq.cases K with g | g | ⟨m,hm⟩
     ·exfalso;rw[bZ K (.inl g)] at h1;obtain⟨c0,c1,_⟩:=K.bk.eZ n r hn;obtain⟨i,e1,e2,_⟩:=K.lv.dK c0 c1;omega
     ·exfalso;rw[bZ K (.inr g)] at h1;obtain⟨c0,c1,_⟩:=K.bk.eZ n r hn;obtain⟨i,e1,e2,_⟩:=K.lv.dK c0 c1;omega
     ·have dm:=bf K hm;rw[dm] at f2 h1;by_cases h2:bH k m.v<bH k n.v
      ·exact(one m q r hm hr f2 (by rw[dn];exact h2) (fun p=>(hs p).symm)).elim
      ·obtain⟨c0,c1,_⟩:=K.bk.eZ n r hn;obtain⟨d0,d1,_⟩:=K.bk.eZ m q hm;have hv:n.v=m.v:=H9 K c0 c1 d0 d1 (by omega);refine Nc K hn hm hv (ih _ _ (Lf.lo K hn) (Lf.lo K hm) ?_ ?_ (fun p=>?_)) (ih _ _ (Lf.hi K hn) (Lf.hi K hm) ?_ ?_ (fun p=>?_))
       ·have:=bu K hn (.inl rfl);omega
       ·have:=bu K hm (.inl rfl);omega
       ·rw[sV K hn,sV K hm,hs,hv]
       ·have:=bu K hn (.inr rfl);omega
       ·have:=bu K hm (.inr rfl);omega
       ·rw[sU K hn,sU K hm,hs,hv]
 intro r q hr hq hs;obtain⟨d,e1,_⟩:=eO K hr;obtain⟨d',e1',_⟩:=eO K hq;exact key k.n r q hr hq (by omega) (by omega) hs
theorem Dm (K:KI k) (h:(n,r)∈k.L):∃ p,sem k.L r (upd p n.v false)≠sem k.L r (upd p n.v true):=by
 refine Classical.byContradiction (fun hno=>(K.bk.eZ n r h).2.2.2.2.2.2 (canon K (Lf.lo K h) (Lf.hi K h) (fun p=>?_)));rw[sV K h,sU K h];exact Classical.byContradiction (fun h2=>hno ⟨p,h2⟩)
end
end Go.Proofs.YtiomgckodmecbaaGreat
