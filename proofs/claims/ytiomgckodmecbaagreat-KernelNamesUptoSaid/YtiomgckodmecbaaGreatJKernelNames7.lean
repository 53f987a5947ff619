/- Contracts and plain laws, put together in one file. No condition. -/
import Derived.Test.YtiomgckodmecbaaGreatJKernelNames6
import Derived.Test.YtiomgckodmecbaaGreatProg
import Derived.Laws.BitsAllLaws
import Derived.BigRegion
import Derived.Shelf.Abstract

set_option maxRecDepth 100000
set_option maxHeartbeats 32000000
namespace Go.Proofs.YtiomgckodmecbaaGreat
open Go.RowKit Go.Tk
section
variable {k k0 k2:KS} {n m:Nd} {r q s:Int} {p:Int→Bool} {b b':Bool} {l x y:Nat} {ext:List Int} {X:List bP}
theorem QF (hb:Bk k ext X) (h:Ev k.L p r b):∀ {b'},Ev k.L p r b'→b=b':=by
 have h2:∀ {n r},(n,r)∈k.L→2≤r:=fun hm=>(hb.jq (List.mem_append_left X hm)).1
 induction h with
 | c0 =>
  intro b' h;cases h with
  | c0=>rfl
  | nd hm _=>have:=h2 hm;omega
 | c1 =>
  intro b' h;cases h with
  | c1=>rfl
  | nd hm _=>have:=h2 hm;omega
 | nd hm _ ih =>
  intro b' h;cases h with
  | c0=>have:=h2 hm;omega
  | c1=>have:=h2 hm;omega
  | nd hm' h' =>
   have:=hb.uniq (List.mem_append_left X hm') (List.mem_append_left X hm)
   subst this;exact ih h'
theorem Nf {L:List bP} {v a c:Int} (hg:qQ L ⟨v,a,c⟩ s) (h:Ev L p (if p v then c else a) b):Ev L p s b:=by
 unfold qQ at hg;split at hg
 ·rename_i e;simp only at e hg;rw[hg];rw[← e] at h;split at h <;> exact h
 ·exact .nd hg h
theorem Ng (h:XY k0 l x y) (K:KI k0) (t:T2 k0 x y (az k0 x y) [] k2) (hl:Lf k0 r):∀ b,Ev k0.L p r b→Ev k2.L p r b∧Ev k2.L p (if p y then (aS k0 r y).2 else (aS k0 r y).1) b:=by
 obtain⟨xn,yn,lx,ly,xy,ix,iy⟩:=h.facts K;have same:∀ {q:Int} {b:Bool},(aH k0.ls q).v≠y→Ev k2.L p q b→Ev k2.L p (if p y then (aS k0 q y).2 else (aS k0 q y).1) b:=by
  intro q b hv he;unfold aS;rw[if_neg hv];split <;> exact he
 refine xA K (P:=fun r=>∀ b,Ev k0.L p r b→Ev k2.L p r b∧Ev k2.L p (if p y then (aS k0 r y).2 else (aS k0 r y).1) b) ?_ ?_ ?_ hl
 ·intro b he;obtain rfl:=(SX K).1 he;exact⟨.c0,same (by rw[K.const (.inl rfl)];omega) .c0⟩
 ·intro b he;obtain rfl:=(SY K).1 he;exact⟨.c1,same (by rw[K.const (.inr rfl)];omega) .c1⟩
 ·intro n r hn il ih b he;rw[H7 K hn] at he;have hg:=(K.mem' hn).2.1;by_cases hc:∃ c∈az k0 x y,c.r=r
  ·obtain⟨c,hc,rfl⟩:=hc;have hC:=fG h K hc;obtain rfl:=K.uniq hn hC.mem;obtain⟨m,hm,hmv,g0,g1⟩:=t.dn c hc;have hv:(aH k0.ls c.r).v≠y:=by rw[hg,hC.v];omega
   have goal:Ev k2.L p c.r b:=by
    refine .nd hm ?_;rw[hmv];have Bf:Ev k2.L p (if p y then (if p x then c.jH else c.jG) else (if p x then c.jV else c.jU)) b:=by
     rw[hC.v] at he;cases hx:p x with
     | false =>
      rw[hx] at he
      have:=(il _ he).2
      rw[hC.p0] at this;exact this
     | true =>
      rw[hx] at he
      have:=(ih _ he).2
      rw[hC.p1] at this;exact this
    cases hy:p y with
    | false =>
     rw[hy] at Bf;exact Nf g0 Bf
    | true =>
     rw[hy] at Bf;exact Nf g1 Bf
   exact⟨goal,same hv goal⟩
  ·have hk:(n,r)∈k2.L:=t.base (n,r) hn (fun c hc' he=>hc ⟨c,by simpa using hc',he.symm⟩);have kid:Ev k2.L p (if p n.v then n.hi else n.lo) b:=by
    cases hp:p n.v with
    | false=>rw[hp] at he;exact(il _ he).1
    | true=>rw[hp] at he;exact(ih _ he).1
   refine⟨.nd hk kid,?_⟩;by_cases hv:n.v=y
   ·unfold aS;rw[hg,if_pos hv,← hv];exact kid
   ·exact same (by rw[hg];exact hv) (.nd hk kid)
theorem Ia (h:XY k0 l x y) (K:KI k0) (hR:gJ k0 x y=true):∃ k2,T2 k0 x y (az k0 x y) [] k2∧(∀ p∈(dQ k0 l x y).L,p∈k2.L)∧∀ m,(dQ k0 l x y).hs.getD m 0=k0.hs.getD m 0:=by
 have t:=AR h K hR;have hp:=AU h K t;have hb:=t.bk;rw[List.append_nil] at hb;have hb':Bk (bW (aZ k0 (az k0 x y)) x y (az k0 x y)) (kids (az k0 x y)++[]) []:=by rw[List.append_nil];exact hb
 obtain⟨a1,a2,a3,a4⟩:=nI _ _ _ hb' hp;refine⟨_,t,a3,fun m=>?_⟩
 have:(dQ k0 l x y).hs=(fA (bW (aZ k0 (az k0 x y)) x y (az k0 x y)) (az k0 x y)).hs:=rfl
 rw[this,a4];exact t.hsd m
theorem JJ (h:XY k0 l x y) (K:KI k0) (hR:gJ k0 x y=true) (h0:Lf k0 r) (h1:Lf (dQ k0 l x y) r):sem (dQ k0 l x y).L r p=sem k0.L r p:=by
 obtain⟨k2,t,hs,_⟩:=Ia h K hR;have a:=(Be (p:=p) (xx h K hR) h1).mono hs;have c:=(Ng (p:=p) h K t h0 _ (Be K h0)).1;exact QF t.bk a c
theorem lG (K:KI k) (h0:0≤r) (hh:k.hs.getD r.toNat 0≠0):Lf k r:=by
 obtain⟨n,hn⟩:=nH K.bk h0 hh;rw[List.append_nil] at hn;exact Lf.of K hn
theorem uu (K:KI k) (h1:l+1<k.n):∃ x y,XY k l x y∧((gJ k x y=true∧dR k l=(true,dQ k l x y))∨(gJ k x y=false∧dR k l=(false,k))):=by
 obtain⟨x,y,h⟩:=zF K h1;refine⟨x,y,h,?_⟩;unfold dR;have e1:k.ord.getD l 0=x:=by rw[List.getD_eq_getElem?_getD,h.hx];rfl
 have e2:k.ord.getD (l+1) 0=y:=by rw[List.getD_eq_getElem?_getD,h.hy];rfl
 rw[e1,e2];cases hR:gJ k x y with
 | true=>exact .inl ⟨rfl,rfl⟩
 | false=>exact .inr ⟨rfl,rfl⟩
theorem JK:(dQ k l x y).ord=(k.ord.set l (y:Int)).set (l+1) (x:Int):=by
 have e:iw (fA (bW (aZ k (az k x y)) x y (az k x y)) (az k x y))=iw k:=by
  rw[iI]
  have:∀ (cs:List gI) (k:KS),iw (bW k x y cs)=iw k:=by
   intro cs
   induction cs with
   | nil=>intro k;rfl
   | cons c cs ih=>intro k;show iw (bW (ic x y k c) x y cs)=_;rw[ih,oG]
  rw[this]
  have:∀ (cs:List gI) (k:KS),iw (aZ k cs)=iw k:=by
   intro cs
   induction cs with
   | nil=>intro k;rfl
   | cons c cs ih=>intro k;show iw (aZ (jo k c.n) cs)=_;rw[ih];rfl
  exact this _ _
 have ho:(fA (bW (aZ k (az k x y)) x y (az k x y)) (az k x y)).ord=k.ord:=congrArg (fun t=>t.2.2.1) e;show((fA (bW (aZ k (az k x y)) x y (az k x y)) (az k x y)).ord.set l (y:Int)).set (l+1) (x:Int)=_;rw[ho]
end
abbrev Fn:=(Int→Bool)→Bool
def Dn (vs:List Int) (a p:Int→Bool):Int→Bool:=fun v=>if v∈vs then a v else p v
def Sub (ord:List Int) (H:Fn→Prop) (l:Nat) (g:Fn):Prop:=∃ h a,H h∧∀ p,g p=h (Dn (ord.take l) a p)
def HN (ord:List Int) (H:Fn→Prop) (l:Nat) (g:Fn):Prop:=Sub ord H l g∧∃ v p,ord[l]?=some v∧g (upd p v false)≠g (upd p v true)
def HF (k:KS):Fn→Prop:=fun h=>∃ r,0≤r∧k.hs.getD r.toNat 0≠0∧h=sem k.L r
section
variable {k k0 k2:KS} {n m:Nd} {r q s:Int} {p:Int→Bool} {b b':Bool} {l x y i:Nat} {g:Fn} {H:Fn→Prop} {ord ord':List Int}
theorem lH {v:Int} {l:Nat} (K:KI k):v∈k.ord.take l↔0≤v∧v<k.n∧bH k v<l:=by
 rw[List.mem_iff_getElem?];constructor
 ·rintro⟨i,hi⟩;rw[List.getElem?_take] at hi;split at hi
  ·rename_i hil;obtain⟨m,rfl,hm,_⟩:=K.lv.o2 i v hi
   have:=(K.lv.wW hi).2
   exact⟨by omega,by omega,by omega⟩
  ·cases hi
 ·rintro⟨v0,v1,hv⟩;obtain⟨i,e1,e2,e3⟩:=K.lv.dK v0 v1;exact⟨i,by rw[List.getElem?_take,if_pos (by omega)];exact e3⟩
theorem QG (a p:Int→Bool):Dn [] a p=p:=by
 funext v;unfold Dn;rw[if_neg (List.not_mem_nil)]
theorem qc {vs:List Int} {a p:Int→Bool} {v:Int} (h:v∈vs):Dn vs a p v=a v:=if_pos h
theorem oJ {vs:List Int} {a p:Int→Bool} {v:Int} (h:v∉vs):Dn vs a p v=p v:=if_neg h
theorem qX {vs:List Int} {a p:Int→Bool} {v:Int}:Dn (vs++[v]) a p=Dn vs a (upd p v (a v)):=by
 funext u;unfold Dn upd;by_cases h:u∈vs
 ·rw[if_pos (List.mem_append_left _ h),if_pos h]
 ·rw[if_neg h];by_cases h2:u=v
  ·rw[if_pos (by simp[h2]),if_pos h2,h2]
  ·rw[if_neg (by simp[h,h2]),if_neg h2]
theorem sW (K:KI k) (hr:Lf k r) (a:Int→Bool):∀ l,l≤k.n→∃ q,Lf k q∧(l:Int)≤bJ k q∧∀ p,sem k.L q p=sem k.L r (Dn (k.ord.take l) a p):=by
 intro l
 induction l with
 | zero =>
  intro _;obtain⟨d,e,_⟩:=eO K hr;exact⟨r,hr,by omega,fun p=>by rw[List.take_zero,QG]⟩
 | succ l ih =>
  intro hl;obtain⟨q,hq,hd,hs⟩:=ih (by omega);obtain⟨v,hv⟩:∃ v,k.ord[l]?=some v:=⟨_,List.getElem?_eq_getElem (by rw[K.lv.ol];omega)⟩;have ht:k.ord.take (l+1)=k.ord.take l++[v]:=by rw[List.take_add_one,hv];rfl
  obtain⟨m,rfl,hm,_⟩:=K.lv.o2 l v hv;have hlv:=(K.lv.wW hv).2;obtain⟨d,e1,_,e3⟩:=eO K hq;by_cases hdl:d=l
  ·subst hdl;obtain⟨n,hn⟩:=e3.1 (by omega);have Sc:n.v=m:=by
    obtain⟨c0,c1,_⟩:=K.bk.eZ n q hn;refine H9 K c0 c1 (by omega) (by omega) ?_;rw[hlv,← bf K hn,e1]
   have hkd:=FH (b:=a m) K hn;rw[Sc,hlv] at hkd;refine⟨if a m then n.hi else n.lo,Lf.kid K hn,by omega,fun p=>?_⟩;rw[ht,qX,← hs,fH K hn,Sc,upd_same];cases a m with
   | false =>
    rw[if_neg (by decide),if_neg (by decide),dG K (Lf.lo K hn) (fun _ _=>by have:=bu K hn (.inl rfl);rw[Sc] at this;exact this)]
   | true =>
    rw[if_pos rfl,if_pos rfl,dG K (Lf.hi K hn) (fun _ _=>by have:=bu K hn (.inr rfl);rw[Sc] at this;exact this)]
  ·refine⟨q,hq,by omega,fun p=>?_⟩;rw[ht,qX,← hs,dG K hq (fun _ _=>by rw[hlv];omega)]
theorem oK (K:KI k) (hq:Lf k q) {v:Int} (v0:0≤v) (v1:v<k.n) (hp:sem k.L q (upd p v false)≠sem k.L q (upd p v true)):bJ k q≤bH k v∧∃ n,(n,q)∈k.L:=by
 have h1:bJ k q≤bH k v:=by
  refine Classical.byContradiction (fun hno=>hp ?_);rw[dG K hq (fun _ _=>by omega),dG K hq (fun _ _=>by omega)]
 refine⟨h1,?_⟩;obtain⟨d,e1,_,e3⟩:=eO K hq;obtain⟨i,e4,e5,_⟩:=K.lv.dK v0 v1;exact e3.1 (by omega)
theorem QH (K:KI k):∀ (f:Nat) (n:Nd) (q:Int),(n,q)∈k.L→bH k n.v≤(f:Nat)→∃ r a,(0≤r∧k.hs.getD r.toNat 0≠0)∧∀ p,sem k.L q p=sem k.L r (Dn (k.ord.take (bH k n.v).toNat) a p):=by
 intro f;have base:∀ (n:Nd) (q:Int),(n,q)∈k.L→∀ a p,sem k.L q p=sem k.L q (Dn (k.ord.take (bH k n.v).toNat) a p):=by
  intro n q hn a p;refine H8 K (Lf.of K hn) (fun v v0 v1 hv=>?_);rw[bf K hn] at hv;refine(oJ (fun hm=>?_)).symm
  have:=((lH K).1 hm).2.2
  obtain⟨c0,c1,_⟩:=K.bk.eZ n q hn;obtain⟨i,e1,_⟩:=K.lv.dK c0 c1;omega
 induction f with
 | zero =>
  intro n q hn hf;have hpos:=K.pos n q hn;obtain⟨hu,_⟩:=K.bk.Qe (List.mem_append_left [] hn);by_cases hh:k.hs.getD q.toNat 0=0
  ·exfalso;rw[hu,if_pos hh,List.count_nil] at hpos;have h3:0<par k.L q:=by omega
   obtain⟨e,he,heq⟩:∃ e∈k.L,e.1.lo=q∨e.1.hi=q:=by
    refine Classical.byContradiction (fun hno=>?_)
    have:=iT.2 (fun p hp=>⟨fun e=>hno ⟨p,hp,.inl e⟩,fun e=>hno ⟨p,hp,.inr e⟩⟩:∀ p∈k.L,p.1.lo≠q∧p.1.hi≠q)
    omega
   have h4:=bu (q:=q) K (n:=e.1) (r:=e.2) he (by rcases heq with h | h;exact .inl h.symm;exact .inr h.symm);rw[bf K hn] at h4;obtain⟨c0,c1,_⟩:=K.bk.eZ e.1 e.2 he;obtain⟨i,e4,_⟩:=K.lv.dK c0 c1;omega
  ·exact⟨q,fun _=>false,⟨by have:=(K.mem' hn).1;omega,hh⟩,base n q hn _⟩
 | succ f ih =>
  intro n q hn hf;have hpos:=K.pos n q hn;obtain⟨hu,_⟩:=K.bk.Qe (List.mem_append_left [] hn);by_cases hh:k.hs.getD q.toNat 0=0
  ·rw[hu,if_pos hh,List.count_nil] at hpos;have h3:0<par k.L q:=by omega
   obtain⟨e,he,heq⟩:∃ e∈k.L,e.1.lo=q∨e.1.hi=q:=by
    refine Classical.byContradiction (fun hno=>?_)
    have:=iT.2 (fun p hp=>⟨fun e=>hno ⟨p,hp,.inl e⟩,fun e=>hno ⟨p,hp,.inr e⟩⟩:∀ p∈k.L,p.1.lo≠q∧p.1.hi≠q)
    omega
   obtain⟨⟨m,t⟩,hme⟩:∃ x,x=e:=⟨e,rfl⟩;subst hme;simp only at heq;have h4:=bu (q:=q) K he (by rcases heq with h | h;exact .inl h.symm;exact .inr h.symm);rw[bf K hn] at h4;obtain⟨c0,c1,_⟩:=K.bk.eZ m t he;obtain⟨i,e4,e5,e6⟩:=K.lv.dK c0 c1;obtain⟨r,a,hr,hs⟩:=ih m t he (by omega);rw[e4,Int.toNat_natCast] at hs;obtain⟨b,hb⟩:∃ b:Bool,q=if b then m.hi else m.lo:=by
    rcases heq with h | h
    ·exact⟨false,h.symm⟩
    ·exact⟨true,h.symm⟩
   obtain⟨a',ha'⟩:∃ a':Int→Bool,a'=fun v=>if v∈k.ord.take i then a v else b:=⟨_,rfl⟩
   have Le:m.v∉k.ord.take i:=fun h=>by have:=((lH K).1 h).2.2;omega
   have hmn:m.v∈k.ord.take (bH k n.v).toNat:=(lH K).2 ⟨c0,c1,by omega⟩;refine⟨r,a',hr,fun p=>?_⟩;rw[base n q hn a' p];obtain⟨p',hp'⟩:∃ p',Dn (k.ord.take (bH k n.v).toNat) a' p=p':=⟨_,rfl⟩;rw[hp'];have e7:Dn (k.ord.take i) a p'=p':=by
    funext v;by_cases hv:v∈k.ord.take i
    ·rw[qc hv,← hp',qc ((lH K).2 (by have:=(lH K).1 hv;exact⟨this.1,this.2.1,by omega⟩)),ha'];exact(if_pos hv).symm
    ·rw[oJ hv]
   have e8:p' m.v=b:=by
    rw[← hp',qc hmn,ha'];exact if_neg Le
   rw[← e7,← hs,fH K he,e7,e8,hb];cases b <;> rfl
  ·exact⟨q,fun _=>false,⟨by have:=(K.mem' hn).1;omega,hh⟩,base n q hn _⟩
theorem gM (K:KI k) (hl:l<k.n):HN k.ord (HF k) l g↔∃ n r,(n,r)∈k.L∧bH k n.v=l∧g=sem k.L r:=by
 constructor
 ·rintro⟨⟨h,a,⟨r,r0,hr,rfl⟩,hg⟩,v,p,hv,hp⟩;obtain⟨q,hq,hd,hs⟩:=sW K (lG K r0 hr) a l (by omega);obtain rfl:g=sem k.L q:=by funext p;rw[hg,hs]
  obtain⟨m,rfl,hm,_⟩:=K.lv.o2 l v hv;have hlv:=(K.lv.wW hv).2;obtain⟨h1,n,hn⟩:=oK K hq (by omega) (by omega) hp;refine⟨n,q,hn,?_,rfl⟩;rw[bf K hn] at hd h1;omega
 ·rintro⟨n,r,hn,hlv,rfl⟩;obtain⟨s,a,⟨s0,hs0⟩,hs⟩:=QH K k.n n r hn (by omega);rw[hlv,Int.toNat_natCast] at hs;obtain⟨p,hp⟩:=Dm K hn;obtain⟨c0,c1,_⟩:=K.bk.eZ n r hn;obtain⟨i,e4,e5,e6⟩:=K.lv.dK c0 c1;obtain rfl:i=l:=by omega
  exact⟨⟨_,a,⟨s,s0,hs0,rfl⟩,hs⟩,n.v,p,e6,hp⟩
theorem oL {vs ws:List Int} (h:∀ v,v∈vs↔v∈ws) (a p:Int→Bool):Dn vs a p=Dn ws a p:=by
 funext v;by_cases hv:v∈vs
 ·rw[qc hv,qc ((h v).1 hv)]
 ·rw[oJ hv,oJ (fun h2=>hv ((h v).2 h2))]
theorem Sub.congr (h:∀ v,v∈ord.take l↔v∈ord'.take l) (hs:Sub ord H l g):Sub ord' H l g:=by
 obtain⟨f,a,hf,hg⟩:=hs;exact⟨f,a,hf,fun p=>by rw[hg,oL h]⟩
def Pz (ord:List Int) (l:Nat) (x y:Int):List Int:=(ord.set l y).set (l+1) x
theorem jw (_:ord[l]?=some (x:Int)) (hy:ord[l+1]?=some (y:Int)) (i:Nat):(Pz ord l x y)[i]?=if i=l+1 then some (x:Int) else if i=l then some (y:Int) else ord[i]?:=by
 have h2:=aQ hy;unfold Pz;rw[List.getElem?_set,List.length_set,List.getElem?_set];by_cases h1:l+1=i
 ·rw[if_pos h1,if_pos (by omega),if_pos h1.symm]
 ·rw[if_neg h1,if_neg (show ¬ i=l+1 by omega)];by_cases h2:l=i
  ·rw[if_pos h2,if_pos (by omega),if_pos h2.symm]
  ·rw[if_neg h2,if_neg (show ¬ i=l by omega)]
theorem qY (hx:ord[l]?=some (x:Int)) (hy:ord[l+1]?=some (y:Int)) (hi:i≠l+1) (v:Int):v∈ord.take i↔v∈(Pz ord l x y).take i:=by
 rw[List.mem_iff_getElem?,List.mem_iff_getElem?];constructor
 ·rintro⟨j,hj⟩;rw[List.getElem?_take] at hj;split at hj
  ·rename_i hji;by_cases h1:j=l
   ·subst h1;rw[hx] at hj;exact⟨j+1,by rw[List.getElem?_take,if_pos (by omega),jw hx hy,if_pos rfl];exact hj⟩
   ·by_cases h2:j=l+1
    ·subst h2;rw[hy] at hj;exact⟨l,by rw[List.getElem?_take,if_pos (by omega),jw hx hy,if_neg (by omega),if_pos rfl];exact hj⟩
    ·exact⟨j,by rw[List.getElem?_take,if_pos hji,jw hx hy,if_neg h2,if_neg h1];exact hj⟩
  ·cases hj
 ·rintro⟨j,hj⟩;rw[List.getElem?_take] at hj;split at hj
  ·rename_i hji;rw[jw hx hy] at hj;by_cases h2:j=l+1
   ·subst h2;rw[if_pos rfl] at hj;exact⟨l,by rw[List.getElem?_take,if_pos (by omega),hx];exact hj⟩
   ·rw[if_neg h2] at hj;by_cases h1:j=l
    ·subst h1;rw[if_pos rfl] at hj;exact⟨j+1,by rw[List.getElem?_take,if_pos (by omega),hy];exact hj⟩
    ·rw[if_neg h1] at hj;exact⟨j,by rw[List.getElem?_take,if_pos hji];exact hj⟩
  ·cases hj
theorem zG (hx:ord[l]?=some (x:Int)) (hy:ord[l+1]?=some (y:Int)) (v:Int):v∈(Pz ord l x y).take (l+1)↔v∈ord.take l++[(y:Int)]:=by
 have e:(Pz ord l x y).take (l+1)=(Pz ord l x y).take l++[(y:Int)]:=by rw[List.take_add_one,jw hx hy,if_neg (by omega),if_pos rfl];rfl
 rw[e,List.mem_append,List.mem_append,← qY hx hy (by omega)]
theorem Nh (hx:ord[l]?=some (x:Int)) (hy:ord[l+1]?=some (y:Int)) (h1:i≠l) (h2:i≠l+1):HN (Pz ord l x y) H i g↔HN ord H i g:=by
 unfold HN;rw[jw hx hy,if_neg h2,if_neg h1];constructor
 ·rintro⟨a,b⟩;exact⟨a.congr (fun v=>(qY hx hy h2 v).symm),b⟩
 ·rintro⟨a,b⟩;exact⟨a.congr (fun v=>qY hx hy h2 v),b⟩
end
noncomputable def o6 (L:List bP) (n:Nd):Fn:=fun p=>if p n.v then sem L n.hi p else sem L n.lo p
section
variable {k k' k0 k1 k2:KS} {n m:Nd} {r q s:Int} {p:Int→Bool} {b b':Bool} {l x y i:Nat} {g:Fn} {H:Fn→Prop} {ord ord':List Int}
theorem zH (h:XY k l x y) (K:KI k) (hq:Lf k q) (hd:(l:Int)<bJ k q):sem k.L q (upd p y b)=sem k.L (if b then (aS k q y).2 else (aS k q y).1) p:=by
 obtain⟨xn,yn,lx,ly,xy,ix,iy⟩:=h.facts K;rcases fF (y:=y) K hq.h0 hq.h1 with⟨m,hm,JD,hp⟩ | ⟨hno,_,hp⟩
 ·rw[hp];cases b with
  | false =>
   show _=sem k.L m.lo p;rw[sV K hm,JD]
  | true =>
   show _=sem k.L m.hi p;rw[sU K hm,JD]
 ·rw[hp];have e:sem k.L q (upd p y b)=sem k.L q p:=by
   refine dG K hq (fun _ _=>?_);rw[ly];rcases hq.cases K with h1 | h1 | ⟨m,hm⟩
   ·rw[bZ K (.inl h1)];obtain⟨i,e1,e2,_⟩:=K.lv.dK (v:=y) (by omega) (by omega);omega
   ·rw[bZ K (.inr h1)];obtain⟨i,e1,e2,_⟩:=K.lv.dK (v:=y) (by omega) (by omega);omega
   ·rw[bf K hm] at hd ⊢;obtain⟨v0,v1,_⟩:=K.bk.eZ m q hm;have h2:bH k m.v≠(l:Int)+1:=fun he=>hno m hm (iy m.v v0 v1 he)
    omega
  rw[e];cases b <;> rfl
theorem Low.lf (hq:Low k l q):Lf k q:=⟨hq.1,hq.2.1⟩
theorem Low.deep (K:KI k) (hl:l+1<k.n) (hq:Low k l q):(l:Int)+1<bJ k q:=by
 rcases hq.lf.cases K with h1 | h1 | ⟨m,hm⟩
 ·rw[bZ K (.inl h1)];omega
 ·rw[bZ K (.inr h1)];omega
 ·rw[bf K hm];exact hq.2.2 m hm
structure FI (k:KS) (l x y:Nat) (n:Nd):Prop where
 v:n.v=x
 ne:n.lo≠n.hi
 lo:Low k l n.lo
 hi:Low k l n.hi
 no:look k.L n=none
 src:∃ c r,∃ b:Bool,(c,r)∈k.L∧c.v=(x:Int)∧n.lo=(if b then (aS k c.lo y).2 else (aS k c.lo y).1)∧n.hi=(if b then (aS k c.hi y).2 else (aS k c.hi y).1)
theorem Bg (h:XY k l x y) (K:KI k) (hn:n∈bI k x (az k x y)):FI k l x y n:=by
 rw[kr] at hn;obtain⟨h1,h2,h3⟩:=gq.1 hn;obtain⟨c,hc,qU⟩:=List.mem_flatMap.1 h1;have hC:=fG h K hc;simp only[dP,List.mem_cons,List.not_mem_nil,or_false] at qU;rcases qU with rfl | rfl
 ·exact⟨rfl,h3,hC.Px,hC.l10,h2,c.n,c.r,false,hC.mem,hC.v,by rw[hC.p0];rfl,by rw[hC.p1];rfl⟩
 ·exact⟨rfl,h3,hC.BM,hC.Wq,h2,c.n,c.r,true,hC.mem,hC.v,by rw[hC.p0];rfl,by rw[hC.p1];rfl⟩
theorem Dp (h:XY k l x y) (K:KI k) {c:Nd} {b:Bool} (hc:(c,r)∈k.L) (hv:c.v=(x:Int)) (nv:n.v=x) (hlo:n.lo=(if b then (aS k c.lo y).2 else (aS k c.lo y).1)) (hhi:n.hi=(if b then (aS k c.hi y).2 else (aS k c.hi y).1)) (p:Int→Bool):o6 k.L n p=sem k.L r (upd p y b):=by
 obtain⟨xn,yn,lx,ly,xy,ix,iy⟩:=h.facts K;have k1:=bu K hc (.inl rfl);have k2:=bu K hc (.inr rfl);rw[hv,lx] at k1 k2;rw[fH K hc,hv,lF (by omega),zH h K (Lf.lo K hc) k1,zH h K (Lf.hi K hc) k2,← hlo,← hhi];unfold o6;rw[nv]
theorem vB (h:XY k l x y) (K:KI k) (N:FI k l x y n) (p:Int→Bool):o6 k.L n (upd p x false)=sem k.L n.lo p:=by
 obtain⟨xn,yn,lx,ly,xy,ix,iy⟩:=h.facts K;unfold o6;rw[N.v,upd_same,if_neg (by decide),dG K N.lo.lf (fun _ _=>by have:=N.lo.deep K (by have:=aQ h.hy;rw[K.lv.ol] at this;exact this);omega)]
theorem vD (h:XY k l x y) (K:KI k) (N:FI k l x y n) (p:Int→Bool):o6 k.L n (upd p x true)=sem k.L n.hi p:=by
 obtain⟨xn,yn,lx,ly,xy,ix,iy⟩:=h.facts K;unfold o6;rw[N.v,upd_same,if_pos rfl,dG K N.hi.lf (fun _ _=>by have:=N.hi.deep K (by have:=aQ h.hy;rw[K.lv.ol] at this;exact this);omega)]
theorem Dq (h:XY k l x y) (K:KI k) (N:FI k l x y n):∃ p,o6 k.L n (upd p x false)≠o6 k.L n (upd p x true):=by
 refine Classical.byContradiction (fun hno=>N.ne (canon K N.lo.lf N.hi.lf (fun p=>?_)));rw[← vB h K N,← vD h K N];exact Classical.byContradiction (fun h2=>hno ⟨p,h2⟩)
theorem Ni (h:XY k l x y) (K:KI k) (N:FI k l x y n) (M:FI k l x y m) (he:o6 k.L n=o6 k.L m):n=m :=
 Nd.ext (N.v.trans M.v.symm) (canon K N.lo.lf M.lo.lf (fun p=>by rw[← vB h K N,← vB h K M,he])) (canon K N.hi.lf M.hi.lf (fun p=>by rw[← vD h K N,← vD h K M,he]))
theorem Nj (h:XY k l x y) (K:KI k) (N:FI k l x y n) (hm:(m,r)∈k.L) (he:o6 k.L n=sem k.L r):False:=by
 obtain⟨xn,yn,lx,ly,xy,ix,iy⟩:=h.facts K;have hl2:l+1<k.n:=by have:=aQ h.hy;rw[K.lv.ol] at this;exact this
 have dl:=N.lo.deep K hl2;have dh:=N.hi.deep K hl2;obtain⟨c0,c1,_⟩:=K.bk.eZ m r hm;obtain⟨p,hp⟩:=Dq h K N;rw[he] at hp;obtain⟨h1,_⟩:=oK K (Lf.of K hm) (v:=(x:Int)) (by omega) (by omega) hp;rw[bf K hm,lx] at h1;obtain⟨p2,hp2⟩:=Dm K hm;have Sm:m.v=x:=by
  refine Classical.byContradiction (fun hne=>hp2 ?_);have hlt:bH k m.v<l:=by
   have:bH k m.v≠(l:Int):=fun e=>hne (ix m.v c0 c1 e)
   omega
  rw[← he];unfold o6;rw[N.v,lF (fun e=>hne e.symm),lF (fun e=>hne e.symm),dG K N.lo.lf (fun _ _=>by omega),dG K N.lo.lf (fun _ _=>by omega),dG K N.hi.lf (fun _ _=>by omega),dG K N.hi.lf (fun _ _=>by omega)]
 have e1:n=m:=by
  refine Nd.ext (by rw[N.v,Sm]) (canon K N.lo.lf (Lf.lo K hm) (fun p=>?_)) (canon K N.hi.lf (Lf.hi K hm) (fun p=>?_))
  ·rw[sV K hm,Sm,← he,vB h K N]
  ·rw[sU K hm,Sm,← he,vD h K N]
 have:=N.no
 rw[e1] at this;exact cB.1 this (mem_keys.2 ⟨r,hm⟩)
def Two (ord ord':List Int) (H:Fn→Prop) (n:Nat) (g:Fn):Prop:=(∃ i,i<n∧HN ord H i g)∨(∃ i,i<n∧HN ord' H i g)
theorem Two.swap (h:Two ord ord' H i g):Two ord' ord H i g:=h.elim .inr .inl
theorem QI (h:XY k l x y) (K:KI k):Two k.ord (Pz k.ord l x y) (HF k) k.n g↔(∃ n r,(n,r)∈k.L∧g=sem k.L r)∨∃ n∈bI k x (az k x y),g=o6 k.L n:=by
 obtain⟨xn,yn,lx,ly,xy,ix,iy⟩:=h.facts K;have hl2:l+1<k.n:=by have:=aQ h.hy;rw[K.lv.ol] at this;exact this
 constructor
 ·rintro(⟨i,hi,hg⟩ | ⟨i,hi,hg⟩)
  ·obtain⟨n,r,hn,_,e⟩:=(gM K hi).1 hg;exact .inl ⟨n,r,hn,e⟩
  ·by_cases h1:i=l
   ·subst h1;obtain⟨⟨f,a,⟨r,r0,hr,rfl⟩,hg⟩,v,p,hv,hp⟩:=hg;obtain⟨q,hq,hd,hs⟩:=sW K (lG K r0 hr) a i (by omega);obtain rfl:g=sem k.L q:=by funext p;rw[hg,hs,oL (fun v=>(qY h.hx h.hy (by omega) v).symm)]
    rw[jw h.hx h.hy,if_neg (by omega),if_pos rfl] at hv;injection hv with hv
    subst hv;obtain⟨_,n,hn⟩:=oK K hq (by omega) (by omega) hp;exact .inl ⟨n,q,hn,rfl⟩
   ·by_cases h2:i=l+1
    ·subst h2;obtain⟨⟨f,a,⟨r,r0,hr,rfl⟩,hg⟩,v,p,hv,hp⟩:=hg;obtain⟨q,hq,hd,hs⟩:=sW K (lG K r0 hr) a l (by omega);have hg2:∀ p,g p=sem k.L q (upd p y (a y)):=fun p=>by rw[hg,hs,oL (zG h.hx h.hy),qX]
     rw[jw h.hx h.hy,if_pos rfl] at hv;injection hv with hv
     subst hv;have hp':sem k.L q (upd (upd p y (a y)) x false)≠sem k.L q (upd (upd p y (a y)) x true):=by
      rw[hg2,hg2] at hp;have e:∀ b,upd (upd p (x:Int) b) y (a y)=upd (upd p y (a y)) x b:=fun b=>by
       funext u;unfold upd;by_cases hu:u=y
       ·subst hu;rw[if_pos rfl,if_neg (by omega),if_pos rfl]
       ·rw[if_neg hu,if_neg hu]
      rwa [e,e] at hp
     obtain⟨hdx,m,hm⟩:=oK K hq (v:=(x:Int)) (by omega) (by omega) hp';have hmx:m.v=x:=by
      obtain⟨c0,c1,_⟩:=K.bk.eZ m q hm;rw[bf K hm] at hd hdx;exact ix m.v c0 c1 (by omega)
     obtain⟨nd,hnd⟩:∃ nd:Nd,nd=⟨x,if a y then (aS k m.lo y).2 else (aS k m.lo y).1,if a y then (aS k m.hi y).2 else (aS k m.hi y).1⟩:=⟨_,rfl⟩;have hgn:g=o6 k.L nd:=by
      funext p;rw[hg2,Dp (n:=nd) (b:=a y) h K hm hmx (by rw[hnd]) (by rw[hnd]) (by rw[hnd])]
     have plo:=lu h K hm hmx (.inl rfl);have phi:=lu h K hm hmx (.inr rfl);have hne:nd.lo≠nd.hi:=by
      intro he;refine hp ?_;rw[hgn];unfold o6;rw[← he];have hlow:Low k l nd.lo:=by
       rw[hnd];cases a y with
       | false=>exact plo.1
       | true=>exact plo.2
      have acu:=hlow.deep K hl2;rw[dG K hlow.lf (fun _ _=>by omega),dG K hlow.lf (fun _ _=>by omega)];simp
     by_cases hc:∃ c∈az k x y,c.r=q
     ·obtain⟨c,hc,rfl⟩:=hc;have hC:=fG h K hc;obtain rfl:=K.uniq hm hC.mem;have qU:nd∈(az k x y).flatMap (dP x):=by
       refine List.mem_flatMap.2 ⟨c,hc,?_⟩;rw[hnd,hC.p0,hC.p1];cases a y with
       | false=>exact List.mem_cons_self ..
       | true=>exact List.mem_cons_of_mem _ (List.mem_cons_self ..)
      cases hlk:look k.L nd with
      | none =>
       exact .inr ⟨nd,by rw[kr];exact gq.2 ⟨qU,hlk,hne⟩,hgn⟩
      | some r =>
       have hmem:=gp hlk;refine .inl ⟨nd,r,hmem,?_⟩;rw[hgn];funext p;rw[fH K hmem];rfl
     ·have alo:=(wZ h K hm hmx (fun c hc' he=>hc ⟨c,hc',he⟩) (.inl rfl)).deep K hl2;have ahi:=(wZ h K hm hmx (fun c hc' he=>hc ⟨c,hc',he⟩) (.inr rfl)).deep K hl2;refine .inl ⟨m,q,hm,?_⟩;funext p;rw[hg2,fH K hm,fH K hm,hmx,lF (by omega),dG K (Lf.lo K hm) (fun _ _=>by omega),dG K (Lf.hi K hm) (fun _ _=>by omega)]
    ·obtain⟨n,r,hn,_,e⟩:=(gM K hi).1 ((Nh h.hx h.hy h1 h2).1 hg);exact .inl ⟨n,r,hn,e⟩
 ·rintro(⟨n,r,hn,rfl⟩ | ⟨n,hn,rfl⟩)
  ·obtain⟨c0,c1,_⟩:=K.bk.eZ n r hn;obtain⟨i,e1,e2,_⟩:=K.lv.dK c0 c1;exact .inl ⟨i,e2,(gM K e2).2 ⟨n,r,hn,e1,rfl⟩⟩
  ·have N:=Bg h K hn;obtain⟨c,r,b,hc,hcv,hlo,hhi⟩:=N.src;obtain⟨⟨f,a,hf,hg⟩,_⟩:=(gM (g:=sem k.L r) K (by omega:l<k.n)).2 ⟨c,r,hc,by rw[hcv,lx],rfl⟩;refine .inr ⟨l+1,hl2,⟨f,fun v=>if v=y then b else a v,hf,fun p=>?_⟩,x,?_⟩
   ·rw[Dp h K hc hcv N.v hlo hhi,hg,oL (zG h.hx h.hy),qX,if_pos rfl]
    have:∀ p,Dn (k.ord.take l) a p=Dn (k.ord.take l) (fun v=>if v=y then b else a v) p:=fun p=>by
     funext v;by_cases hv:v∈k.ord.take l
     ·rw[qc hv,qc hv]
      have:v≠y:=fun e=>by
       have:=((lH K).1 hv).2.2
       rw[e,ly] at this;omega
      exact(if_neg this).symm
     ·rw[oJ hv,oJ hv]
    rw[this]
   ·obtain⟨p,hp⟩:=Dq h K N;exact⟨p,by rw[jw h.hx h.hy,if_pos rfl],hp⟩
noncomputable def Dr (k:KS) (x y:Nat):List Fn:=k.L.map (fun e=>sem k.L e.2)++(bI k x (az k x y)).map (o6 k.L)
theorem qd (K:KI k):(k.L.map fun e=>sem k.L e.2).Nodup:=by
 have h1:=K.bk.rn;rw[List.append_nil] at h1;rw[List.Nodup,List.pairwise_map] at h1 ⊢;refine h1.imp_of_mem (fun {a b} ha hb hab he=>hab ?_);exact canon K (Lf.of (n:=a.1) K ha) (Lf.of (n:=b.1) K hb) (fun p=>congrFun he p)
theorem FJ (h:XY k l x y) (K:KI k):(Dr k x y).Nodup:=by
 unfold Dr;rw[List.nodup_append];refine⟨qd K,?_,?_⟩
 ·have h1:(bI k x (az k x y)).Nodup:=by rw[kr];exact mg _ _
  rw[List.Nodup,List.pairwise_map];exact h1.imp_of_mem (fun {a b} ha hb hab he=>hab (Ni h K (Bg h K ha) (Bg h K hb) he))
 ·intro f hf g hg e;obtain⟨a,ha,rfl⟩:=List.mem_map.1 hf;obtain⟨n,hn,rfl⟩:=List.mem_map.1 hg;exact Nj h K (Bg h K hn) (m:=a.1) ha e.symm
theorem Dt (h:XY k l x y) (K:KI k):g∈Dr k x y↔Two k.ord (Pz k.ord l x y) (HF k) k.n g:=by
 rw[QI h K];unfold Dr;rw[List.mem_append,List.mem_map,List.mem_map];constructor
 ·rintro(⟨a,ha,rfl⟩ | ⟨n,hn,rfl⟩)
  ·exact .inl ⟨a.1,a.2,ha,rfl⟩
  ·exact .inr ⟨n,hn,rfl⟩
 ·rintro(⟨n,r,hn,rfl⟩ | ⟨n,hn,rfl⟩)
  ·exact .inl ⟨(n,r),hn,rfl⟩
  ·exact .inr ⟨n,hn,rfl⟩
theorem Nk (K:KI k):(Dr k x y).length+2=k.ac+(bI k x (az k x y)).length:=by
 have:=K.bk.cnt
 rw[List.append_nil] at this;unfold Dr;rw[List.length_append,List.length_map,List.length_map,this];omega
theorem Du (K:KI k):gJ k x y=true↔(Dr k x y).length+2≤k.c:=by
 rw[Nk K];unfold gJ;exact decide_eq_true_iff
theorem FK {α:Type} {l m:List α} (hl:l.Nodup) (hm:m.Nodup) (h:∀ a,a∈l↔a∈m):l.length=m.length:=by
 classical
 exact Nat.le_antisymm (gK hl (fun a ha=>(h a).1 ha)) (gK hm (fun a ha=>(h a).2 ha))
theorem JL (K:KI k) (K':KI k') (hn:k'.n=k.n) (ho:k'.ord=k.ord) (hh:∀ g,HF k' g↔HF k g):k'.L.length=k.L.length∧k'.ac=k.ac:=by
 have e:∀ i,∀ g,HN k'.ord (HF k') i g↔HN k.ord (HF k) i g:=by
  intro i g;rw[ho];unfold HN Sub;simp only[hh]
 have hlen:k'.L.length=k.L.length:=by
  have:=FK (qd K') (qd K) (fun g=>by
   rw[List.mem_map,List.mem_map];constructor
   ·rintro⟨a,ha,rfl⟩;obtain⟨c0,c1,_⟩:=K'.bk.eZ a.1 a.2 ha;obtain⟨i,e1,e2,_⟩:=K'.lv.dK c0 c1;obtain⟨n,r,hn',_,h2⟩:=(gM K (by omega)).1 ((e i _).1 ((gM K' e2).2 ⟨a.1,a.2,ha,e1,rfl⟩));exact⟨(n,r),hn',h2.symm⟩
   ·rintro⟨a,ha,rfl⟩;obtain⟨c0,c1,_⟩:=K.bk.eZ a.1 a.2 ha;obtain⟨i,e1,e2,_⟩:=K.lv.dK c0 c1;obtain⟨n,r,hn',_,h2⟩:=(gM K' (by omega)).1 ((e i _).2 ((gM K e2).2 ⟨a.1,a.2,ha,e1,rfl⟩))
    exact⟨(n,r),hn',h2.symm⟩)
  rwa [List.length_map,List.length_map] at this
 have h1:=K.bk.cnt;have h2:=K'.bk.cnt;rw[List.append_nil] at h1 h2;exact⟨hlen,by omega⟩
end
theorem vE (n:Nat):(2:Int) ^ n=((2 ^ n:Nat):Int):=by simp
def iW (x:Nat):List Value:=[.int .u64 (x:Int)]
theorem jI (x:Nat):(iW x).length=1:=rfl
abbrev WL (w:World) (A:Option Addr) (n:Nat) (ws:List Nat):Prop:=Sl w 1 iW A n ws
abbrev dU (w:World) (A:Option Addr) (n C:Nat) (ws:List Nat):Prop:=Go.Tk.Own w 123 1 iW A n C ws
theorem WL.dV {w:World} {A:Option Addr} {n:Nat} {ws:List Nat} (h:WL w A n ws) {i:Nat} {x:Nat} (hi:ws[i]?=some x):∃ b off,A=some ⟨b,off,none⟩∧b<w.heap.size∧w.cell? ⟨b,off+i,none⟩=some (.int .u64 x):=by
 obtain⟨b,off,h1,h2,h3⟩:=h.get i x hi;refine⟨b,off,h1,h2,?_⟩
 have:=h3 0 (by omega)
 simpa [iW] using this
def Small (ws:List Nat):Prop:=∀ x∈ws,x<18446744073709551616
theorem Small.dV {ws:List Nat} (h:Small ws) {i x:Nat} (hi:ws[i]?=some x):x<18446744073709551616:=h x (List.mem_of_getElem? hi)
def ag (N:Int) (ws:List Nat):Bool:=decide (0≤N∧N≤16∧ws.length=nw N.toNat)&&(decide (6≤N)||decide (ws.getD 0 0<2 ^ 2 ^ N.toNat))
structure Tb where
 N:Int
 A:Option Addr
 C:Nat
 ws:List Nat
def Tb.val (t:Tb):Value:=.agg #[.int .i64 t.N,.slice t.A t.ws.length t.C]
def Tb.ag (t:Tb):Bool:=Proofs.YtiomgckodmecbaaGreat.ag t.N t.ws
structure JM (w:World) (t:Tb):Prop where
 wl:WL w t.A t.ws.length t.ws
 small:Small t.ws
theorem JM.same {w w':World} {t:Tb} (h:JM w t) (hs:Same w w'):JM w' t:=⟨Sl.same h.wl hs,h.small⟩
def fm (ts:List Tb):Bool:=ts.all fun t=>t.ag&&(t.N == (ts.getD 0 ⟨0,none,0,[]⟩).N)
def yM (w:World) (ws:List Nat) (A:Option Addr) (C:Nat) (w':World):Prop:=dU w' A ws.length C ws∧bG w.heap.size A∧Same w w'
def FM (w:World) (N:Int) (ws:List Nat) (e:Ending) (w':World):Prop:=∃ A C,e=.returned (.agg #[.int .i64 N,.slice A ws.length C])∧yM w ws A C w'
theorem yM.wl {w w':World} {ws:List Nat} {A:Option Addr} {C:Nat} (h:yM w ws A C w'):WL w' A ws.length ws:=h.1.sl jI
theorem Dv:(Tryz.prog.info? 123).map (fun i=>(i.zero,i.size,i.bytes))=some (some (.int .u64 0),1,8):=by kernel_rfl
theorem FN (x k:Nat):x.testBit k=decide (x / 2 ^ k%2=1):=by
 rw[Nat.testBit_eq_decide_div_mod_eq]
theorem Nl {n:Nat} {g:Nat→Nat} {F:Nat→Bool} (h:∀ k,k<nw n→∀ j,j<64→64*k+j<2 ^ n→(g k).testBit j=F (64*k+j)):((List.range (nw n)).map fun i=>g i&&& ug n)=tab n F:=by
 unfold tab;apply List.map_congr_left;intro k hk;exact I4 (List.mem_range.1 hk) (h k (List.mem_range.1 hk))
def Dw (n:Int) (e:Int):Int:=if e=0 then n else 0
def JN (ws:List Nat) (e:Int):List Nat:=if e=0 then ws else []
theorem Ib {ws:List Nat} {k x j:Nat} (h:ws[k]?=some x) (hj:j<64):vb ws (64*k+j)=x.testBit j:=by
 unfold vb;rw[show(64*k+j) / 64=k by omega,show(64*k+j)%64=j by omega,List.getD_eq_getElem?_getD,h];rfl
theorem Ic {ws:List Nat} {k x:Nat} (h:ws[k]?=some x):ws.getD k 0=x:=by rw[List.getD_eq_getElem?_getD,h];rfl
def lQ (v:Nat) (b:Bool) (ws:List Nat):Nat→Bool:=fun i=>vb ws (uT i v b)
theorem Small.getD {ws:List Nat} (h:Small ws) (i:Nat):ws.getD i 0<18446744073709551616:=by
 rw[List.getD_eq_getElem?_getD];cases hx:ws[i]? with
 | none=>simp
 | some x=>exact h.dV hx
theorem Dx {v x:Nat} {b:Bool} (hx:x<18446744073709551616):pg v b x<18446744073709551616:=by
 unfold pg;have h1:x&&& kH (fun j=>j.testBit v) 64<2 ^ 64:=Nat.lt_of_le_of_lt Nat.and_le_left hx;have h2:x&&& (18446744073709551615-kH (fun j=>j.testBit v) 64)<2 ^ 64:=Nat.lt_of_le_of_lt Nat.and_le_left hx;split
 ·exact Nat.or_lt_two_pow (n:=64) h1 (Nat.lt_of_le_of_lt (Nat.div_le_self _ _) h1)
 ·exact Nat.or_lt_two_pow (n:=64) h2 (Nat.mod_lt _ (by decide))
theorem Dy {v i:Nat} {b:Bool} {ws:List Nat} (h:Small ws):pq v b ws i<18446744073709551616:=by
 unfold pq;split
 ·exact h.getD _
 ·exact Dx (h.getD _)
theorem JO {n v k j:Nat} {b:Bool} {ws:List Nat} (hf:mF n ws) (hk:k<nw n) (hv:v<n) (hj:j<64):(pq v b ws k).testBit j=lQ v b ws (64*k+j):=by
 unfold pq lQ;by_cases h6:6≤v
 ·rw[if_pos h6,LY b hj h6];have h0:nw n=2 ^ (n-6):=by unfold nw;rw[if_neg (by omega)]
  have hil:uT k (v-6) b<ws.length:=by
   rw[hf.len,h0];rw[h0] at hk;exact vW hk (by omega)
  rw[Ic (List.getElem?_eq_getElem hil),Ib (List.getElem?_eq_getElem hil) hj]
 ·have hkl:k<ws.length:=by rw[hf.len];exact hk
  rw[if_neg h6,PY b hj (by omega),Ic (List.getElem?_eq_getElem hkl),y8 b (by omega) hj,Ib (List.getElem?_eq_getElem hkl) (vW (n:=6) hj (by omega))]
end Go.Proofs.YtiomgckodmecbaaGreat
namespace Go.Tk
def vals (M:Nat) (F:Nat→Bool):List Bool:=(List.range M).map F
theorem Nn {M i:Nat} {F:Nat→Bool} (h:i<M):(vals M F)[i]?=some (F i):=by simp[vals,h]
end Go.Tk
namespace Go.Proofs.YtiomgckodmecbaaGreat
open Go.RowKit Go.Tk
abbrev UI (w:World) (A:Option Addr) (N C:Nat) (bs:List Bool):Prop:=Row1 w 4 (fun b:Bool=>.bool b) A N C bs
abbrev BL (w:World) (A:Option Addr) (n:Nat) (bs:List Bool):Prop:=Sl w 1 (fun b:Bool=>[.bool b]) A n bs
theorem BL.dV {w:World} {A:Option Addr} {n:Nat} {bs:List Bool} (h:BL w A n bs) {i:Nat} {x:Bool} (hi:bs[i]?=some x):∃ b off,A=some ⟨b,off,none⟩∧b<w.heap.size∧w.cell? ⟨b,off+i,none⟩=some (.bool x):=by
 obtain⟨b,off,h1,h2,h3⟩:=h.get i x hi;refine⟨b,off,h1,h2,?_⟩
 have:=h3 0 (by omega)
 simpa using this
theorem QJ (x r:Nat):(((x / 2 ^ r%2:Nat):Int) == 1)=x.testBit r:=by
 rw[FN,Bool.eq_iff_iff,beq_iff_eq,decide_eq_true_eq];omega
theorem FO (n:Nat) (w:World) (h:n≤16):Calls Tryz.prog 123 #[.int .i64 n] w fun e w'=>e=.returned (.int .i64 (nw n:Nat))∧w=w':=by
 by_cases h6:n≤6
 ·have hn:nw n=1:=by unfold nw;rw[if_pos h6]
  rw[hn];have h6i:(n:Int)≤6:=by omega
  clear hn;go_enter Tryz.func123,Tryz.ntmps123;go_wp2;go_ret;exact⟨rfl,rfl⟩
 ·obtain⟨m,rfl⟩:∃ m,n=m+6:=⟨n-6,by omega⟩;have hn:nw (m+6)=2 ^ m:=by unfold nw;rw[if_neg h6,Nat.add_sub_cancel]
  have hp:(2:Nat) ^ m≤2 ^ 16:=Nat.pow_le_pow_right (by omega) (by omega);have h2:(2:Int) ^ m=((2 ^ m:Nat):Int):=by rw[Int.natCast_pow];rfl
  have hw:IntKind.i64.wrap ((2:Int) ^ m)=((2 ^ m:Nat):Int):=by
   rw[h2];generalize 2 ^ m=z at *
   exact IntWalk.i64_in _ (by omega)
  have hw1:IntKind.i64.wrap (((m+6:Nat):Int)-6)=(m:Int):=by
   rw[show((m+6:Nat):Int)-6=(m:Int) by omega];exact IntWalk.i64_in _ (by omega)
  rw[hn];have h6i:¬ ((m+6:Nat):Int)≤6:=by omega
  have h60:(0:Int)≤m:=by omega
  obtain⟨z,hz⟩:∃ z:Nat,z=2 ^ m:=⟨_,rfl⟩;rw[← hz] at hw ⊢;have yN:min m 64=m:=by omega
  have hw2:wrap64 ((2:Int) ^ m)=(z:Int):=by rw[← hw];simp[IntKind.wrap_i64,wrap64]
  clear hn h2 hp hz;obtain⟨y,hy⟩:∃ y:Nat,y=m+6:=⟨_,rfl⟩;rw[← hy] at hw1 h6i ⊢;clear hy h6 h;go_enter Tryz.func123,Tryz.ntmps123;go_wp2;go_ret;exact⟨rfl,rfl⟩
theorem xB (n C:Nat) (A:Option Addr) (F:Nat→Bool) (w:World) (hn:n≤16) (h:BL w A (2 ^ n) (vals (2 ^ n) F)) :
  Calls Tryz.prog 101 #[.int .i64 n,.slice A (2 ^ n) C] w (FM w n (tab n F)):=by
 have hmk:=fun w=>eU (P:=Tryz.prog) Tryz.underlying74 Dv .i64 .i64 (nw n) (show 8*nw n≤281474976710656 by have:=iO hn;omega) (show nw n≤9223372036854775807 by have:=iO hn;omega) w
 have hnl:=iO hn;have hwd:=fun w=>FO n w hn
 have UJ:=Cj hn;have hfull:=I5 n F;have hdl:∀ i,i<2 ^ n→i / 64<nw n:=fun i hi=>sj hi
 have hput:∀ k,k<2 ^ n→F k=true→∃ x,(Tk.part n F k)[k / 64]?=some x∧x+2 ^ (k%64)<18446744073709551616∧(Tk.part n F k).set (k / 64) (x+2 ^ (k%64))=Tk.part n F (k+1):=fun k hk hF =>
  ⟨_,vV (sj hk),by rw[Cn hk hF];exact word_lt _ _ _,LV hk hF⟩
 have hsame:∀ k,F k=false→Tk.part n F (k+1)=Tk.part n F k:=fun k hF=>I7 hF
 have hz:=I6 n F;have hll:=ng n F;obtain⟨W,hW⟩:∃ W,tab n F=W:=⟨_,rfl⟩;rw[hW] at hfull ⊢;have hWl:W.length=nw n:=by rw[← hW];exact Aj n F
 obtain⟨K,hK⟩:∃ K,nw n=K:=⟨_,rfl⟩;rw[hK] at hmk hnl hwd hdl hz hll hWl;obtain⟨M,hM⟩:∃ M,2 ^ n=M:=⟨_,rfl⟩;rw[hM] at UJ hfull hdl hput h ⊢;have YL:=Lib.hid hfull;have Ex:=Lib.hid hdl;have abj:=Lib.hid hput;have YM:=Lib.hid hsame;have HZ:=Lib.hid hz;have Pw:=Lib.hid hll;have Ey:=Lib.hid hWl;have QK:=Lib.hid hwd;have H:=Lib.hid h;clear hM hK hW hfull hdl hput hsame hz hll hWl hwd h;go_enter Tryz.func101,Tryz.ntmps101;go_wp2_with (fail)
 refine eF fun w1 hw1=>?_
 refine(QK.out w1).mono ?_;rintro e w2 ⟨rfl,rfl⟩;go_upto_region 2 with fail
 refine ai fun wb hwb=>?_
 subst hw1;have hsb:Same w wb:=by rw[hwb];exact(((ah.refl _ _).alloc _).alloc _).alloc _
 have gF:av wb w.heap.size 108 #[.int .i64 0,.slice none 0 0]:=by rw[hwb];exact((av.new w _ _).alloc _).alloc _
 have vF:av wb (w.heap.size+1+1) 108 #[.int .i64 n,.slice (some ⟨w.heap.size+1,0,none⟩) K K]:=by
  rw[hwb]
  have:=av.new ((w.alloc (.cells #[.int .i64 0,.slice none 0 0] 108)).alloc (.cells (madeCells #[.int .u64 0] K) 123)) 108 #[.int .i64 n,.slice (some ⟨w.heap.size+1,0,none⟩) K K]
  simpa using this
 have Dz:dU wb (some ⟨w.heap.size+1,0,none⟩) K K (Tk.part n F 0):=by
  rw[hwb,HZ.out]
  have:=Own.mW (m:=1) (w.alloc (.cells #[.int .i64 0,.slice none 0 0] 108)) 123 iW (fun _=>rfl) (by decide) 0 K (show K≤9223372036854775807 by omega) rfl
  have h2:=Own.ag this ((ah.refl (fun _=>False) _).alloc (.cells #[.int .i64 n,.slice (some ⟨w.heap.size+1,0,none⟩) K K] 108)) (fun _ _=>id);simpa [iW] using h2
 clear hwb hmk;obtain⟨T,hT⟩:∃ T,w.heap.size+1+1=T:=⟨_,rfl⟩;rw[hT] at vF ⊢;obtain⟨D,hD⟩:∃ D,w.heap.size+1=D:=⟨_,rfl⟩;rw[hD] at vF Dz ⊢;have abk:D≠T:=by omega
 have acZ:w.heap.size≠T:=by omega
 have UK:w.heap.size≠D:=by omega
 have QL:w.heap.size≤D:=by omega
 have hwT:w.heap.size≤T:=by omega
 clear hD hT;have bV:=Lib.hid gF;have Ez:=Lib.hid vF;have Bh:=Lib.hid Dz;have l7:=Lib.hid hsb;clear gF vF Dz hsb;go_wp2;go_loopw [6] (fun i wr=>∃ k:Nat,k≤M∧i=.int .i64 k∧Same w wr∧av wr w.heap.size 108 #[.int .i64 0,.slice none 0 0]∧av wr T 108 #[.int .i64 n,.slice (some ⟨D,0,none⟩) K K]∧dU wr (some ⟨D,0,none⟩) K K (Tk.part n F k)) (fun i _=>M-(intOf i).toNat)
 case atStart=>exact⟨0,by omega,rfl,l7.out,bV.out,Ez.out,Bh.out⟩
 case round =>
  clear bV Ez Bh l7;obtain⟨k,hk,rfl,hs,gF,vF,Dz⟩:=hrel;by_cases hlt:k<M
  ·have hk1:(k:Int)<M:=by omega
   have hk0:(0:Int)≤k:=by omega
   obtain⟨v,hv⟩:∃ v,F k=v:=⟨_,rfl⟩;obtain⟨bq,ac0,hA,hbl,hcq⟩:=BL.dV (Sl.same H.out hs) (show(vals M F)[k]?=some v by rw[Nn hlt,hv]);subst hA;cases v with
   | true =>
    obtain⟨x,hx,hxl,hxs⟩:=abj.out k hlt hv;have hdk:=Ex.out k hlt;have hst:=fun (w':World) (hs':Same wr w')=>Own.kS (c:=fun x:Nat=>.int .u64 (x:Int)) (Own.ag Dz hs' (fun _ _=>id)) (i:=k / 64) (by rw[Pw.out];exact hdk) (x+2 ^ (k%64))
    rw[hxs] at hst;obtain⟨sb,hsb,hDl,Lp⟩:=Dz.dV (c:=fun x:Nat=>.int .u64 (x:Int)) hx;injection hsb with hsb
    injection hsb with hsb
    subst hsb;have yN:min (k%64) 64=k%64:=by omega
    have hkk:k%64<64:=by omega
    have hn1:(k:Int) / 64=((k / 64:Nat):Int):=by omega
    have hn2:(k:Int)%64=((k%64:Nat):Int):=by omega
    have h2p:(2:Int) ^ (k%64)=((2 ^ (k%64):Nat):Int):=vE _;have HS:=Lib.hid hs;have UL:=Lib.hid gF;have UM:=Lib.hid vF;have Bh:=Lib.hid Dz;have HST:=Lib.hid hst;have hcT:wr.cell? ⟨T,1,none⟩=some (.slice (some ⟨D,0,none⟩) K K):=vF.cell 1;have hTl:=vF.lt;clear hs gF vF Dz hst hx hxs hv;generalize k%64=r at *
    generalize k / 64=qq at *
    generalize 2 ^ r=p at *
    have hsw:wrap64 ((2:Int) ^ r)=wrap64 (p:Int):=by rw[h2p]
    have abl:IntKind.u64.wrap ((2:Int) ^ r)=(p:Int):=by rw[h2p];exact IntWalk.u64_in _ (by omega)
    have hsum:IntKind.u64.wrap ((x:Int)+p)=((x+p:Nat):Int):=by rw[IntWalk.u64_in _ (by omega)];simp
    have hqk:(qq:Int)<K:=by omega
    have hq0:(0:Int)≤qq:=by omega
    clear h2p;go_upto_region 6 with fail
    refine eD 11 (by kernel_rfl) (by kernel_rfl) ?_;simp only[List.take_succ_cons,List.take_zero,List.drop_succ_cons,List.drop_zero];repeat (any_goals (first | go_big_quiet_step (fail) | quiet_step (fail)))
    refine wpQuiet_nil ?_;rintro wz ⟨q,hq⟩;have hsz:Same wr wz:=by rw[hq];exact ay _ q
    have hfz:=Own.free (Own.ag Bh.out hsz (fun _ _=>id)) qq;have hcz:=(hsz.cell (p:=⟨D,qq,none⟩) hDl id).trans Lp;have iC:=Lib.hid ((HS.out.trans hsz (fun _ _ h=>h)).aj (g:=D) qq (.int .u64 ((x+p:Nat):Int)) QL);have Bi:=Lib.hid ((UL.out.ag hsz id).far (p:=⟨D,qq,none⟩) UK (.int .u64 ((x+p:Nat):Int)));have Bj:=Lib.hid ((UM.out.ag hsz id).far (p:=⟨D,qq,none⟩) (Ne.symm abk) (.int .u64 ((x+p:Nat):Int)));have QM:=Lib.hid (HST.out wz hsz);have hDz:D<wz.heap.size:=by have:=hsz.size;omega
    clear hq hsz Lp hDl hcT hTl hcq hbl yN hn1 hn2 hsw abl;go_wp2;go_roundw
    case rel=>exact⟨k+1,by omega,by go_num,iC.out,Bi.out,Bj.out,QM.out⟩
    case measure=>simp[intOf] <;> omega
   | false =>
    have hsm:=YM.out k hv;have HS:=Lib.hid hs;have UL:=Lib.hid gF;have UM:=Lib.hid vF;rw[← hsm] at Dz;have Bh:=Lib.hid Dz;clear hs gF vF Dz hv hsm;go_wp2;go_roundw
    case rel=>exact⟨k+1,by omega,by go_num,HS.out,UL.out,UM.out,Bh.out⟩
    case measure=>simp[intOf] <;> omega
  ·obtain rfl:k=M:=by omega
   rw[YL.out] at Dz;have HS:=Lib.hid hs;have bV:=Lib.hid gF;have Ez:=Lib.hid vF;have Bh:=Lib.hid Dz;have ac1:wr.cell? ⟨T,0,none⟩=some (.int .i64 n):=vF.cell 0;have hcT:wr.cell? ⟨T,1,none⟩=some (.slice (some ⟨D,0,none⟩) K K):=vF.cell 1;have hTl:=vF.lt;have hRl:=gF.lt;have YN:=gF.free 0;have YO:=gF.free 1;have YP:wr.cell? ⟨w.heap.size,0,none⟩=some (.int .i64 0):=gF.cell 0;have YQ:wr.cell? ⟨w.heap.size,1,none⟩=some (.slice none 0 0):=gF.cell 1;clear hs gF vF Dz;go_wp2;refine bM fun we cK=>?_
   have dH:av we w.heap.size 108 #[.int .i64 n,.slice (some ⟨D,0,none⟩) K K]:=by
    rw[cK]
    have:=(bV.out.set 0 (.int .i64 n)).set 1 (.slice (some ⟨D,0,none⟩) K K)
    simpa using this
   have yO:dU we (some ⟨D,0,none⟩) K K W:=by
    rw[cK];exact(Own.far (p:=⟨w.heap.size,0,none⟩) Bh.out (fun a ha h=>by injection ha with ha;subst ha;exact UK h.symm) _).far (p:=⟨w.heap.size,1,none⟩) (fun a ha h=>by injection ha with ha;subst ha;exact UK h.symm) _
   have jy:Same w we:=by rw[cK];exact(HS.out.aj 0 _ (Nat.le_refl _)).aj 1 _ (Nat.le_refl _)
   have hc0:we.cell? ⟨w.heap.size,0,none⟩=some (.int .i64 n):=dH.cell 0;have hc1:we.cell? ⟨w.heap.size,1,none⟩=some (.slice (some ⟨D,0,none⟩) K K):=dH.cell 1;clear cK dH;refine bodyPost_ret (v:=.agg #[.int .i64 n,.slice (some ⟨D,0,none⟩) K K]) (by simp[results,Tryz.results101,go_sem,hc0,hc1]) rfl ?_;refine⟨some ⟨D,0,none⟩,K,by rw[Ey.out],?_,bR QL,jy⟩;rw[Ey.out];exact yO
def sm (Na Nb:Int) (mQ S9:List Nat):Bool:=decide (Na=Nb∧mQ=S9)
theorem fQ (Na:Int) (Aa:Option Addr) (La Ca:Nat) (mQ:List Nat) (Nb:Int) (Ab:Option Addr) (Lb Cb:Nat) (S9:List Nat) (w:World) (ha:WL w Aa La mQ) (hb:WL w Ab Lb S9) (hbd:La≤1000000000000000000) :
  Calls Tryz.prog 71 #[.agg #[.int .i64 Na,.slice Aa La Ca],.agg #[.int .i64 Nb,.slice Ab Lb Cb]] w fun e w'=>e=.returned (.bool (sm Na Nb mQ S9))∧Same w w':=by
 have hla:=ha.len;have hlb:=hb.len;obtain⟨r,hr⟩:∃ r,sm Na Nb mQ S9=r:=⟨_,rfl⟩;rw[hr];have HA:=Lib.hid ha;have HB:=Lib.hid hb;by_cases h1:Na=Nb
 ·by_cases h2:La=Lb
  ·subst h1 h2;have HR:=Lib.hid hr;have HLA:=Lib.hid hla;have QC:=Lib.hid hlb;clear hr hla hlb ha hb;go_enter Tryz.func71,Tryz.ntmps71;go_upto_region 1 with fail
   refine ai fun w1 hw1=>?_
   have hs1:Same w w1:=by rw[hw1];exact((ah.refl _ _).alloc _).alloc _
   have jS:av w1 (w.heap.size) 108 #[.int .i64 Na,.slice Aa La Ca]:=by
    rw[hw1]
    have:=((av.new w 108 #[.int .i64 Na,.slice Aa La Ca]).alloc (.cells #[.int .i64 Na,.slice Ab La Cb] 108))
    simpa using this
   have iX:av w1 (w.heap.size+1) 108 #[.int .i64 Na,.slice Ab La Cb]:=by
    rw[hw1]
    have:=(av.new (w.alloc (.cells #[.int .i64 Na,.slice Aa La Ca] 108)) 108 #[.int .i64 Na,.slice Ab La Cb])
    simpa using this
   clear hw1;obtain⟨Xb,Ie⟩:∃ b,w.heap.size+1=b:=⟨_,rfl⟩;rw[Ie] at iX ⊢;have YR:w.heap.size≤Xb:=by omega
   have Np:w.heap.size≠Xb:=by omega
   clear Ie;have YS:w1.cell? ⟨w.heap.size,0,none⟩=some (.int .i64 Na):=jS.cell 0;have QN:w1.cell? ⟨w.heap.size,1,none⟩=some (.slice Aa La Ca):=jS.cell 1;have lXa:=jS.lt;have YT:=jS.free 0;have YU:=jS.free 1;have UN:=Lib.hid jS;have YV:w1.cell? ⟨Xb,0,none⟩=some (.int .i64 Na):=iX.cell 0;have QO:w1.cell? ⟨Xb,1,none⟩=some (.slice Ab La Cb):=iX.cell 1;have lXb:=iX.lt;have YW:=iX.free 0;have YX:=iX.free 1;have UO:=Lib.hid iX;have aW:=Lib.hid hs1;clear hs1 jS iX;have HS:=Lib.hid aW.out;have HBa:=Lib.hid UN.out;have HBb:=Lib.hid UO.out;go_wp2;go_loopw [5] (fun i wr=>∃ k:Nat,k≤La∧i=.int .i64 k∧(∀ j x y,mQ[j]?=some x→S9[j]?=some y→j<k→x=y)∧Same w1 wr) (fun i _=>La-(intOf i).toNat)
   case atStart=>exact⟨0,by omega,rfl,fun j x y _ _ h=>by omega,ah.refl _ _⟩
   case round =>
    obtain⟨k,hk,rfl,hall,hs⟩:=hrel;have YY:=Lib.hid hall;have FP:=Lib.hid hs;clear hall;by_cases hlt:k<La
    ·have hk0:(0:Int)≤k:=by omega
     have hk1:(k:Int)<La:=by omega
     obtain⟨x,hx⟩:∃ x,mQ[k]?=some x:=⟨_,List.getElem?_eq_getElem (by rw[← HLA.out];exact hlt)⟩;obtain⟨y,hy⟩:∃ x,S9[k]?=some x:=⟨_,List.getElem?_eq_getElem (by rw[← QC.out];exact hlt)⟩;obtain⟨ba,abm,hAa,ac2,hca⟩:=WL.dV (Sl.same (Sl.same HA.out HS.out) hs) hx;obtain⟨bb,abn,hAb,ac3,hcb⟩:=WL.dV (Sl.same (Sl.same HB.out HS.out) hs) hy;subst hAa hAb;have HX:=Lib.hid hx;have HY:=Lib.hid hy;have abo:wr.cell? ⟨w.heap.size,1,none⟩=some (.slice (some ⟨ba,abm,none⟩) La Ca):=(HBa.out.ag hs id).cell 1;have ac4:wr.cell? ⟨Xb,1,none⟩=some (.slice (some ⟨bb,abn,none⟩) La Cb):=(HBb.out.ag hs id).cell 1;have mXa:=(HBa.out.ag hs id).lt;have mXb:=(HBb.out.ag hs id).lt;clear hx hy hs QN QO lXa lXb;by_cases hxy:x=y
     ·subst hxy;have hbq:((x:Int) != (x:Int))=false:=by simp
      go_upto_region 6 with fail
      refine dZ (by kernel_rfl) (by kernel_rfl) ?_;repeat (any_goals (first | go_big_quiet_step (fail) | quiet_step (fail)))
      refine wpQuiet_nil ?_;rintro wq ⟨q,hq⟩;have SC:Same wr wq:=by rw[hq];exact ay _ q
      clear hq;go_wp2;go_roundw
      case rel=>exact⟨k+1,by omega,by go_num,fun j x' y' hx' hy' hj=>by
       by_cases hjk:j<k
       ·exact YY.out j x' y' hx' hy' hjk
       ·obtain rfl:j=k:=by omega
        exact(Option.some.inj (hx'.symm.trans HX.out)).trans (Option.some.inj (hy'.symm.trans HY.out)).symm,FP.out.trans SC (fun _ _ h=>h)⟩
      case measure=>simp[intOf] <;> omega
     ·have hf:r=false:=by
       rw[← HR.out];unfold sm;rw[decide_eq_false_iff_not];rintro⟨_,hw⟩;rw[hw] at HX;exact hxy (Option.some.inj (HX.out.symm.trans HY.out))
      subst hf;have hxi:(x:Int)≠y:=by omega
      go_upto_region 6 with fail
      refine dZ (by kernel_rfl) (by kernel_rfl) ?_;repeat (any_goals (first | go_big_quiet_step (fail) | quiet_step (fail)))
      refine wpQuiet_nil ?_;rintro wq ⟨q,hq⟩;have SC:Same wr wq:=by rw[hq];exact ay _ q
      clear hq;go_wp2;go_ret;exact⟨rfl,(HS.out.trans FP.out (fun _ _ h=>h)).trans SC (fun _ _ h=>h)⟩
    ·obtain rfl:k=La:=by omega
     have hf:r=true:=by
      rw[← HR.out];unfold sm;rw[decide_eq_true_eq];refine⟨rfl,List.ext_getElem? fun j=>?_⟩;by_cases hj:j<k
      ·obtain⟨x,hx⟩:∃ x,mQ[j]?=some x:=⟨_,List.getElem?_eq_getElem (by rw[← HLA.out];exact hj)⟩;obtain⟨y,hy⟩:∃ x,S9[j]?=some x:=⟨_,List.getElem?_eq_getElem (by rw[← QC.out];exact hj)⟩;rw[hx,hy,YY.out j x y hx hy hj]
      ·rw[List.getElem?_eq_none (by rw[← HLA.out];omega),List.getElem?_eq_none (by rw[← QC.out];omega)]
     subst hf;have abo:wr.cell? ⟨w.heap.size,1,none⟩=some (.slice Aa k Ca):=(HBa.out.ag hs id).cell 1;have mXa:=(HBa.out.ag hs id).lt;clear hs QN QO lXa lXb;go_wp2;go_ret;exact⟨rfl,HS.out.trans FP.out (fun _ _ h=>h)⟩
  ·have hf:r=false:=by
    rw[← hr];unfold sm;rw[decide_eq_false_iff_not];rintro⟨_,hw⟩;rw[hw] at hla;omega
   subst h1 hf;have h3:(La:Int)≠Lb:=by omega
   clear hr hla hlb ha hb;go_enter Tryz.func71,Tryz.ntmps71;go_upto_region 1 with fail
   refine ai fun w1 hw1=>?_
   have hs1:Same w w1:=by rw[hw1];exact((ah.refl _ _).alloc _).alloc _
   have jS:av w1 (w.heap.size) 108 #[.int .i64 Na,.slice Aa La Ca]:=by
    rw[hw1]
    have:=((av.new w 108 #[.int .i64 Na,.slice Aa La Ca]).alloc (.cells #[.int .i64 Na,.slice Ab Lb Cb] 108))
    simpa using this
   have iX:av w1 (w.heap.size+1) 108 #[.int .i64 Na,.slice Ab Lb Cb]:=by
    rw[hw1]
    have:=(av.new (w.alloc (.cells #[.int .i64 Na,.slice Aa La Ca] 108)) 108 #[.int .i64 Na,.slice Ab Lb Cb])
    simpa using this
   clear hw1;obtain⟨Xb,Ie⟩:∃ b,w.heap.size+1=b:=⟨_,rfl⟩;rw[Ie] at iX ⊢;have YR:w.heap.size≤Xb:=by omega
   have Np:w.heap.size≠Xb:=by omega
   clear Ie;have YS:w1.cell? ⟨w.heap.size,0,none⟩=some (.int .i64 Na):=jS.cell 0;have QN:w1.cell? ⟨w.heap.size,1,none⟩=some (.slice Aa La Ca):=jS.cell 1;have lXa:=jS.lt;have YT:=jS.free 0;have YU:=jS.free 1;have UN:=Lib.hid jS;have YV:w1.cell? ⟨Xb,0,none⟩=some (.int .i64 Na):=iX.cell 0;have QO:w1.cell? ⟨Xb,1,none⟩=some (.slice Ab Lb Cb):=iX.cell 1;have lXb:=iX.lt;have YW:=iX.free 0;have YX:=iX.free 1;have UO:=Lib.hid iX;have aW:=Lib.hid hs1;clear hs1 jS iX;go_wp2;go_ret;exact⟨rfl,aW.out⟩
 ·have hf:r=false:=by
   rw[← hr];unfold sm;rw[decide_eq_false_iff_not];exact fun h=>h1 h.1
  subst hf;clear hr hla hlb ha hb;go_enter Tryz.func71,Tryz.ntmps71;go_upto_region 1 with fail
  refine ai fun w1 hw1=>?_
  have hs1:Same w w1:=by rw[hw1];exact((ah.refl _ _).alloc _).alloc _
  have jS:av w1 (w.heap.size) 108 #[.int .i64 Na,.slice Aa La Ca]:=by
   rw[hw1]
   have:=((av.new w 108 #[.int .i64 Na,.slice Aa La Ca]).alloc (.cells #[.int .i64 Nb,.slice Ab Lb Cb] 108))
   simpa using this
  have iX:av w1 (w.heap.size+1) 108 #[.int .i64 Nb,.slice Ab Lb Cb]:=by
   rw[hw1]
   have:=(av.new (w.alloc (.cells #[.int .i64 Na,.slice Aa La Ca] 108)) 108 #[.int .i64 Nb,.slice Ab Lb Cb])
   simpa using this
  clear hw1;obtain⟨Xb,Ie⟩:∃ b,w.heap.size+1=b:=⟨_,rfl⟩;rw[Ie] at iX ⊢;have YR:w.heap.size≤Xb:=by omega
  have Np:w.heap.size≠Xb:=by omega
  clear Ie;have YS:w1.cell? ⟨w.heap.size,0,none⟩=some (.int .i64 Na):=jS.cell 0;have QN:w1.cell? ⟨w.heap.size,1,none⟩=some (.slice Aa La Ca):=jS.cell 1;have lXa:=jS.lt;have YT:=jS.free 0;have YU:=jS.free 1;have UN:=Lib.hid jS;have YV:w1.cell? ⟨Xb,0,none⟩=some (.int .i64 Nb):=iX.cell 0;have QO:w1.cell? ⟨Xb,1,none⟩=some (.slice Ab Lb Cb):=iX.cell 1;have lXb:=iX.lt;have YW:=iX.free 0;have YX:=iX.free 1;have UO:=Lib.hid iX;have aW:=Lib.hid hs1;clear hs1 jS iX;go_wp2;go_ret;exact⟨rfl,aW.out⟩
theorem Nq (j v:Nat) (b:Bool):uT (uT j v b) v (j.testBit v)=j:=by
 apply Nat.eq_of_testBit_eq;intro i;rw[om,om];by_cases h:i=v
 ·subst h;simp
 ·rw[if_neg h,if_neg h]
theorem JP {n v x:Nat} {b:Bool} (h6:n<6) (hv:v<n) (hx:x<2 ^ 2 ^ n):pg v b x<2 ^ 2 ^ n:=by
 have hp:2 ^ n≤32:=by
  have:∀ n,n<6→2 ^ n≤32:=by decide
  exact this n h6
 have Um:x<18446744073709551616:=Nat.lt_of_lt_of_le hx (show 2 ^ 2 ^ n≤2 ^ 64 from Nat.pow_le_pow_right (by omega) (by omega));refine Nat.lt_pow_two_of_testBit _ fun j hj=>?_
 by_cases Cm:j<64
 ·rw[y8 b (by omega) Cm];refine Nat.testBit_lt_two_pow (Nat.lt_of_lt_of_le hx (Nat.pow_le_pow_right (by omega) ?_));refine Nat.le_of_not_lt fun hlt=>?_
  have h2:=vW (b:=j.testBit v) hlt hv;rw[Nq] at h2;omega
 ·exact Nat.testBit_lt_two_pow (Nat.lt_of_lt_of_le (Dx Um) (show 2 ^ 64≤2 ^ j from Nat.pow_le_pow_right (by omega) (by omega)))
theorem QS {n v:Nat} {b:Bool} {ws:List Nat} (hf:mF n ws) (hs:Small ws) (hv:v<n):tab n (lQ v b ws)=(List.range (nw n)).map (pq v b ws):=by
 rw[← Nl (n:=n) (g:=pq v b ws) (F:=lQ v b ws) fun k hk j hj _=>JO hf hk hv hj];refine List.map_congr_left fun i hi=>?_
 unfold ug;split
 ·exact Nat.and_two_pow_sub_one_of_lt_two_pow (n:=64) (Dy hs)
 ·rename_i h6;refine Nat.and_two_pow_sub_one_of_lt_two_pow ?_;unfold pq;rw[if_neg (by omega)];have h0:=qD (n:=n) (by omega);have hi0:i=0:=by have:=List.mem_range.1 hi;omega
  rw[hi0];exact JP (by omega) hv (hf.top (by omega))
def DC (g:Nat→Nat) (L k:Nat):List Nat:=(List.range L).map fun i=>if i<k then g i else 0
theorem oM (g:Nat→Nat) (L k:Nat):(DC g L k).length=L:=by simp[DC]
theorem DD (g:Nat→Nat) (L:Nat):DC g L 0=List.replicate L 0:=by
 apply List.ext_getElem?;intro i;rcases Nat.lt_or_ge i L with h | h
 ·simp[DC,h]
 ·rw[List.getElem?_eq_none (by rw[oM];exact h),List.getElem?_eq_none (by simpa using h)]
theorem Ig (g:Nat→Nat) (L:Nat):DC g L L=(List.range L).map g:=by
 unfold DC;exact List.map_congr_left fun i hi=>if_pos (List.mem_range.1 hi)
theorem Ih {g:Nat→Nat} {L k:Nat} (h:k<L):(DC g L k)[k]?=some 0:=by simp[DC,h]
theorem Ii {g:Nat→Nat} {L k:Nat} (h:k<L):(DC g L k).set k (g k)=DC g L (k+1):=by
 apply List.ext_getElem?;intro i;rcases Nat.lt_or_ge i L with hi | hi
 ·rw[List.getElem?_set,oM];simp only[DC,List.getElem?_map,List.getElem?_range hi,Option.map_some];by_cases he:k=i
  ·subst he;simp[h]
  ·rw[if_neg he];congr 1;by_cases h1:i<k
   ·rw[if_pos h1,if_pos (by omega)]
   ·rw[if_neg h1,if_neg (by omega)]
 ·rw[List.getElem?_eq_none (by simp[oM,hi]),List.getElem?_eq_none (by rw[oM];exact hi)]
theorem Nr (u:World) (n L:Nat) (hL:L≤maxLen):av ((u.alloc (.cells (madeCells #[.int .u64 0] L) 123)).alloc (.cells #[.int .i64 n,.slice (some ⟨u.heap.size,0,none⟩) L L] 108)) (u.heap.size+1) 108 #[.int .i64 n,.slice (some ⟨u.heap.size,0,none⟩) L L]∧
  dU ((u.alloc (.cells (madeCells #[.int .u64 0] L) 123)).alloc (.cells #[.int .i64 n,.slice (some ⟨u.heap.size,0,none⟩) L L] 108)) (some ⟨u.heap.size,0,none⟩) L L (List.replicate L 0)∧
  Same u ((u.alloc (.cells (madeCells #[.int .u64 0] L) 123)).alloc (.cells #[.int .i64 n,.slice (some ⟨u.heap.size,0,none⟩) L L] 108)):=by
 refine⟨?_,?_,((ah.refl _ _).alloc _).alloc _⟩
 ·have:=av.new (u.alloc (.cells (madeCells #[.int .u64 0] L) 123)) 108 #[.int .i64 n,.slice (some ⟨u.heap.size,0,none⟩) L L]
  rw[World.size_alloc] at this;exact this
 ·have:=Own.mW (m:=1) u 123 iW (fun _=>rfl) (by decide) 0 L hL rfl
  have h2:=Own.ag this ((ah.refl (fun _=>False) _).alloc (.cells #[.int .i64 n,.slice (some ⟨u.heap.size,0,none⟩) L L] 108)) (fun _ _=>id);simpa [iW] using h2
theorem JQ (u:World) (n L:Nat) (hL:L≤maxLen):av ((u.alloc (.cells #[.int .i64 n,.slice (some ⟨u.heap.size+1,0,none⟩) L L] 108)).alloc (.cells (madeCells #[.int .u64 0] L) 123)) u.heap.size 108 #[.int .i64 n,.slice (some ⟨u.heap.size+1,0,none⟩) L L]∧
  dU ((u.alloc (.cells #[.int .i64 n,.slice (some ⟨u.heap.size+1,0,none⟩) L L] 108)).alloc (.cells (madeCells #[.int .u64 0] L) 123)) (some ⟨u.heap.size+1,0,none⟩) L L (List.replicate L 0)∧
  Same u ((u.alloc (.cells #[.int .i64 n,.slice (some ⟨u.heap.size+1,0,none⟩) L L] 108)).alloc (.cells (madeCells #[.int .u64 0] L) 123)):=by
 refine⟨(av.new u _ _).alloc _,?_,((ah.refl _ _).alloc _).alloc _⟩
 have:=Own.mW (m:=1) (u.alloc (.cells #[.int .i64 n,.slice (some ⟨u.heap.size+1,0,none⟩) L L] 108)) 123 iW (fun _=>rfl) (by decide) 0 L hL rfl
 rw[World.size_alloc] at this;simpa [iW] using this
theorem JR (i s:Nat):uT i s false+(i / 2 ^ s%2)*2 ^ s=i∧uT i s true=uT i s false+2 ^ s:=by
 unfold uT;have hb:i.testBit s=decide (i / 2 ^ s%2=1):=su;have hp:0<2 ^ s:=Nat.pow_pos (by omega);have hd:=Nat.div_add_mod i (2 ^ s);by_cases h:i / 2 ^ s%2=1
 ·rw[hb,decide_eq_true h,if_pos rfl,if_neg (by decide),if_pos rfl,h];have h2:2 ^ s≤i:=by
   refine Nat.le_of_not_lt fun hlt=>?_
   rw[Nat.div_eq_of_lt hlt] at h;cases h
  omega
 ·have h0:i / 2 ^ s%2=0:=by omega
  rw[hb,decide_eq_false h,if_neg (by decide),if_neg (by decide),if_pos rfl,h0];omega
theorem QT (k s:Nat):∃ Q E M J:Nat,(k:Int) / ((2 ^ s:Nat):Int)=(Q:Int)∧(Q:Int).tmod 2=(E:Int)∧(E:Int)*((2 ^ s:Nat):Int)=(M:Int)∧(k:Int)-(M:Int)=(J:Int)∧J=uT k s false∧Q≤k∧E≤1∧M≤k∧J≤k∧uT k s true=J+2 ^ s:=by
 obtain⟨h1,h2⟩:=JR k s;refine⟨k / 2 ^ s,k / 2 ^ s%2,k / 2 ^ s%2*2 ^ s,uT k s false,by rw[Int.natCast_ediv],?_,by rw[Int.natCast_mul],by omega,rfl,Nat.div_le_self _ _,by omega,by omega,by omega,h2⟩;rw[Int.tmod_eq_emod_of_nonneg (Int.natCast_nonneg _),Int.natCast_emod];rfl
def Lr (b:Bool):List Value:=[.bool b]
def PD (b:Bool) (M k:Nat):List Bool:=List.replicate k b++List.replicate (M-k) false
theorem QU (b:Bool) {M k:Nat} (h:k<M):(PD b M k).set k b=PD b M (k+1):=by
 unfold PD;have h1:(List.replicate k b).length=k:=by simp
 rw[List.set_append_right _ _ (by omega),h1,Nat.sub_self,show M-k=(M-(k+1))+1 by omega,List.replicate_succ,List.set_cons_zero,List.replicate_succ',List.append_assoc];rfl
theorem QV (b:Bool) (M:Nat):PD b M M=vals M (fun _=>b):=by
 unfold PD;rw[Nat.sub_self,List.replicate_zero,List.append_nil];apply List.ext_getElem?;intro i;rcases Nat.lt_or_ge i M with h | h
 ·simp[h,vals]
 ·rw[List.getElem?_eq_none (by simpa using h),List.getElem?_eq_none (by simpa [vals] using h)]
theorem qf (n:Nat) (b:Bool) (w:World) (hn:n≤16):Calls Tryz.prog 65 #[.int .i64 n,.bool b] w (FM w n (tab n (fun _=>b))):=by
 have HF:=Lib.hid (fun A C w' (h:BL w' A (2 ^ n) (vals (2 ^ n) (fun _=>b)))=>xB n C A (fun _=>b) w' hn h);obtain⟨W,hW⟩:∃ W,W=tab n (fun _=>b):=⟨_,rfl⟩;rw[← hW] at HF ⊢;clear hW;have hp:(2:Nat) ^ n≤2 ^ 16:=Nat.pow_le_pow_right (by omega) hn;have h2:(2:Int) ^ n=((2 ^ n:Nat):Int):=by rw[Int.natCast_pow];rfl
 obtain⟨M,hM⟩:∃ M,M=2 ^ n:=⟨_,rfl⟩;rw[← hM] at HF hp h2;have yN:min n 64=n:=by omega
 have hw:IntKind.i64.wrap ((2:Int) ^ n)=(M:Int):=by rw[h2];exact IntWalk.i64_in _ (by omega)
 have hw2:wrap64 ((2:Int) ^ n)=(M:Int):=by rw[← hw];simp[IntKind.wrap_i64,wrap64]
 have hmk:=fun w=>eU (P:=Tryz.prog) Tryz.underlying56 lD .i64 .i64 M (show 1*M≤281474976710656 by omega) (show M≤9223372036854775807 by omega) w
 clear hM h2;go_enter Tryz.func65,Tryz.ntmps65;go_upto_region 2 with fail
 refine ai fun w1 hw1=>?_
 have hs1:Same w w1:=by rw[hw1];exact((ah.refl _ _).alloc _).alloc _
 have gF:av w1 w.heap.size 108 #[.int .i64 0,.slice none 0 0]:=by
  rw[hw1];exact(av.new w 108 #[.int .i64 0,.slice none 0 0]).alloc _
 have hO:Go.Tk.Own w1 4 1 Lr (some ⟨w.heap.size+1,0,none⟩) M M (PD b M 0):=by
  have h:=Own.mW (m:=1) (w.alloc (.cells #[.int .i64 0,.slice none 0 0] 108)) 4 Lr (fun _=>rfl) (by decide) false M (show M≤9223372036854775807 by omega) rfl;rw[hw1];simpa [PD,Lr] using h
 obtain⟨R,hR⟩:∃ z,z=w.heap.size:=⟨_,rfl⟩;obtain⟨G,hG⟩:∃ z,z=w.heap.size+1:=⟨_,rfl⟩;have qg:w.heap.size≤R:=Nat.le_of_eq hR.symm;have Wt:w.heap.size≤G:=by omega
 have Wu:G≠R:=by omega
 have hgg:(w.alloc (.cells #[.int .i64 0,.slice none 0 0] 108)).heap.size=G:=by simp[hG]
 have Ns:R+1=G:=by omega
 simp only[← hR,Ns] at hO gF;simp only[← hR,Ns];have HS:=Lib.hid hs1;have bV:=Lib.hid gF;have HO:=Lib.hid hO;clear hw1 hs1 gF hO hG hR hgg Ns hmk hw hw2 yN;go_wp2;go_loopw [6] (fun i wi=>∃ k:Nat,k≤M∧i=.int .i64 k∧Same w wi∧av wi R 108 #[.int .i64 0,.slice none 0 0]∧Go.Tk.Own wi 4 1 Lr (some ⟨G,0,none⟩) M M (PD b M k)) (fun i _=>M-(intOf i).toNat)
 case atStart=>exact⟨0,by omega,rfl,HS.out,bV.out,HO.out⟩
 case round =>
  clear HS bV HO;obtain⟨k,hk,rfl,hs,hbr,ho⟩:=hrel;by_cases hlt:k<M
  ·have hlk:k<(PD b M k).length:=by rw[← ho.len];exact hlt
   obtain⟨x,hx⟩:∃ x,(PD b M k)[k]?=some x:=⟨_,List.getElem?_eq_getElem hlk⟩;obtain⟨s0,h0,hgl,c0⟩:=Own.dV (c:=fun x:Bool=>.bool x) ho hx;injection h0 with h0
   injection h0 with h0
   subst h0;have fz:=Own.free ho k;have HP:=Lib.hid (Own.kS (c:=fun x:Bool=>.bool x) ho hlk b);rw[QU b hlt] at HP;have UQ:=Lib.hid (hs.aj k (.bool b) Wt);have HBP:=Lib.hid (hbr.far (p:=⟨G,k,none⟩) (Ne.symm Wu) (.bool b));have hk0:(0:Int)≤k:=by omega
   have hk1:(k:Int)<M:=by omega
   clear hlk hx hs hbr ho;go_wp2;go_roundw
   case rel=>exact⟨k+1,by omega,by go_num,UQ.out,HBP.out,HP.out⟩
   case measure=>simp[intOf] <;> omega
  ·obtain rfl:k=M:=by omega
   have HB:=Lib.hid (show BL wr (some ⟨G,0,none⟩) k (vals k (fun _=>b)) by rw[← QV];exact ho.sl (fun _=>rfl));have HS:=Lib.hid hs;have bV:=Lib.hid hbr;clear hs hbr ho;go_wp2_with (fail)
   refine(HF.out (some ⟨G,0,none⟩) k wr HB.out).mono ?_;rintro e w2 ⟨A,C,rfl,eB⟩;have gF:=bV.out.ag eB.2.2 id;have cR0:w2.cell? ⟨R,0,none⟩=some (.int .i64 0):=gF.cell 0;have cR1:w2.cell? ⟨R,1,none⟩=some (.slice none 0 0):=gF.cell 1;have lR:=gF.lt;have fR0:=gF.free 0;have fR1:=gF.free 1;have HB2:=Lib.hid gF;have YZ:=Lib.hid eB.1;have Qp:=Lib.hid (show bG w.heap.size A from fun x hx=>Nat.le_trans HS.out.size (eB.2.1 x hx));have Ta:=Lib.hid (show ∀ a,A=some a→a.block≠R from fun a ha h=>by have:=eB.2.1 a.block ⟨a,ha,rfl⟩;have:=bV.out.lt;omega);have HS2:=Lib.hid (HS.out.trans eB.2.2 (fun _ _ h=>h));clear eB gF;go_wp2;refine bM fun w3 hw3=>?_
   have dH:av w3 R 108 #[.int .i64 n,.slice A W.length C]:=by
    rw[hw3]
    have:=(HB2.out.set 0 (.int .i64 n)).set 1 (.slice A W.length C)
    simpa using this
   have jy:Same w w3:=by rw[hw3];exact(HS2.out.aj 0 _ qg).aj 1 _ qg
   have yO:dU w3 A W.length C W:=by
    rw[hw3];exact(Own.far (p:=⟨R,0,none⟩) YZ.out Ta.out _).far (p:=⟨R,1,none⟩) Ta.out _
   have hr0:w3.cell? ⟨R,0,none⟩=some (.int .i64 n):=dH.cell 0;have hr1:w3.cell? ⟨R,1,none⟩=some (.slice A W.length C):=dH.cell 1;have Tc:=Qp.out;clear hw3 dH;refine bodyPost_ret (v:=.agg #[.int .i64 n,.slice A W.length C]) (by simp[results,Tryz.results65,go_sem,hr0,hr1]) rfl ?_;exact⟨A,C,rfl,yO,Tc,jy⟩
def Ij (v M k:Nat):List Bool:=(List.range M).map fun i=>decide (i<k)&&i.testBit v
theorem Nt (v M:Nat):Ij v M 0=List.replicate M false:=by
 apply List.ext_getElem?;intro i;rcases Nat.lt_or_ge i M with h | h
 ·simp[Ij,h]
 ·rw[List.getElem?_eq_none (by simpa [Ij] using h),List.getElem?_eq_none (by simpa using h)]
theorem QW (v M:Nat):Ij v M M=vals M (fun x=>x.testBit v):=by
 unfold Ij vals;refine List.map_congr_left fun i hi=>?_
 rw[decide_eq_true (List.mem_range.1 hi),Bool.true_and]
theorem QX (v:Nat) {M k:Nat} (h:k<M):(Ij v M k).set k (k.testBit v)=Ij v M (k+1):=by
 apply List.ext_getElem?;intro i;rcases Nat.lt_or_ge i M with hi | hi
 ·rw[List.getElem?_set];simp only[Ij,List.getElem?_map,List.getElem?_range hi,Option.map_some,List.length_map,List.length_range,h,if_true];by_cases he:k=i
  ·subst he;simp
  ·rw[if_neg he];congr 2;rw[decide_eq_decide];omega
 ·rw[List.getElem?_eq_none (by simp[Ij,hi]),List.getElem?_eq_none (by simp[Ij,hi])]
theorem Ik (ab k:Nat):(((ab:Int) / 2 ^ k).tmod 2 == 1)=ab.testBit k:=by
 rw[Nat.testBit_eq_decide_div_mod_eq];have h1:(ab:Int) / 2 ^ k=((ab / 2 ^ k:Nat):Int):=by
  rw[Int.natCast_ediv,Int.natCast_pow];rfl
 have h:(((ab / 2 ^ k:Nat):Int)).tmod 2=((ab / 2 ^ k%2:Nat):Int):=by
  rw[Int.tmod_eq_emod_of_nonneg (Int.natCast_nonneg _),Int.natCast_emod];rfl
 rw[h1,h];by_cases hb:ab / 2 ^ k%2=1
 ·rw[hb];rfl
 ·rw[decide_eq_false hb,beq_eq_false_iff_ne];omega
theorem Nu (n v:Nat) (w:World) (hn:n≤16) (hv:v<n):Calls Tryz.prog 134 #[.int .i64 n,.int .i64 v] w (FM w n (tab n (fun x=>x.testBit v))):=by
 have HF:=Lib.hid (fun A C w' (h:BL w' A (2 ^ n) (vals (2 ^ n) (fun x=>x.testBit v)))=>xB n C A (fun x=>x.testBit v) w' hn h);obtain⟨W,hW⟩:∃ W,W=tab n (fun x=>x.testBit v):=⟨_,rfl⟩;rw[← hW] at HF ⊢;clear hW;have hp:(2:Nat) ^ n≤2 ^ 16:=Nat.pow_le_pow_right (by omega) hn;have h2:(2:Int) ^ n=((2 ^ n:Nat):Int):=by rw[Int.natCast_pow];rfl
 obtain⟨M,hM⟩:∃ M,M=2 ^ n:=⟨_,rfl⟩;rw[← hM] at HF hp h2;have yN:min n 64=n:=by omega
 have Y0:min v 64=v:=by omega
 have hv0:(0:Int)≤v:=by omega
 have hw:IntKind.i64.wrap ((2:Int) ^ n)=(M:Int):=by rw[h2];exact IntWalk.i64_in _ (by omega)
 have hw2:wrap64 ((2:Int) ^ n)=(M:Int):=by rw[← hw];simp[IntKind.wrap_i64,wrap64]
 have hmk:=fun w=>eU (P:=Tryz.prog) Tryz.underlying56 lD .i64 .i64 M (show 1*M≤281474976710656 by omega) (show M≤9223372036854775807 by omega) w
 clear hM h2;go_enter Tryz.func134,Tryz.ntmps134;go_upto_region 2 with fail
 refine ai fun w1 hw1=>?_
 have hs1:Same w w1:=by rw[hw1];exact((ah.refl _ _).alloc _).alloc _
 have gF:av w1 w.heap.size 108 #[.int .i64 0,.slice none 0 0]:=by
  rw[hw1];exact(av.new w 108 #[.int .i64 0,.slice none 0 0]).alloc _
 have hO:Go.Tk.Own w1 4 1 Lr (some ⟨w.heap.size+1,0,none⟩) M M (Ij v M 0):=by
  have h:=Own.mW (m:=1) (w.alloc (.cells #[.int .i64 0,.slice none 0 0] 108)) 4 Lr (fun _=>rfl) (by decide) false M (show M≤9223372036854775807 by omega) rfl;rw[hw1];simpa [Lr,Nt] using h
 obtain⟨R,hR⟩:∃ z,z=w.heap.size:=⟨_,rfl⟩;obtain⟨G,hG⟩:∃ z,z=w.heap.size+1:=⟨_,rfl⟩;have qg:w.heap.size≤R:=Nat.le_of_eq hR.symm;have Wt:w.heap.size≤G:=by omega
 have Wu:G≠R:=by omega
 have hgg:(w.alloc (.cells #[.int .i64 0,.slice none 0 0] 108)).heap.size=G:=by simp[hG]
 have Ns:R+1=G:=by omega
 simp only[← hR,Ns] at hO gF;simp only[← hR,Ns];have HS:=Lib.hid hs1;have bV:=Lib.hid gF;have HO:=Lib.hid hO;clear hw1 hs1 gF hO hG hR hgg Ns hmk hw hw2 yN;go_wp2;go_loopw [6] (fun i wi=>∃ k:Nat,k≤M∧i=.int .i64 k∧Same w wi∧av wi R 108 #[.int .i64 0,.slice none 0 0]∧Go.Tk.Own wi 4 1 Lr (some ⟨G,0,none⟩) M M (Ij v M k)) (fun i _=>M-(intOf i).toNat)
 case atStart=>exact⟨0,by omega,rfl,HS.out,bV.out,HO.out⟩
 case round =>
  clear HS bV HO;obtain⟨k,hk,rfl,hs,hbr,ho⟩:=hrel;by_cases hlt:k<M
  ·have hlk:k<(Ij v M k).length:=by rw[← ho.len];exact hlt
   obtain⟨x,hx⟩:∃ x,(Ij v M k)[k]?=some x:=⟨_,List.getElem?_eq_getElem hlk⟩;obtain⟨s0,h0,hgl,c0⟩:=Own.dV (c:=fun x:Bool=>.bool x) ho hx;injection h0 with h0
   injection h0 with h0
   subst h0;have fz:=Own.free ho k;have HP:=Lib.hid (Own.kS (c:=fun x:Bool=>.bool x) ho hlk (k.testBit v));rw[QX v hlt] at HP;obtain⟨b,hb⟩:∃ z,z=k.testBit v:=⟨_,rfl⟩;rw[← hb] at HP;have abp:(((k:Int) / 2 ^ v).tmod 2 == 1)=b:=by rw[hb];exact Ik k v
   have UQ:=Lib.hid (hs.aj k (.bool b) Wt);have HBP:=Lib.hid (hbr.far (p:=⟨G,k,none⟩) (Ne.symm Wu) (.bool b));have hk0:(0:Int)≤k:=by omega
   have hk1:(k:Int)<M:=by omega
   clear hlk hx hs hbr ho hb;go_wp2;go_roundw
   case rel=>exact⟨k+1,by omega,by go_num,UQ.out,HBP.out,HP.out⟩
   case measure=>simp[intOf] <;> omega
  ·obtain rfl:k=M:=by omega
   have HB:=Lib.hid (show BL wr (some ⟨G,0,none⟩) k (vals k (fun x=>x.testBit v)) by rw[← QW];exact ho.sl (fun _=>rfl));have HS:=Lib.hid hs;have bV:=Lib.hid hbr;clear hs hbr ho;go_wp2_with (fail)
   refine(HF.out (some ⟨G,0,none⟩) k wr HB.out).mono ?_;rintro e w2 ⟨A,C,rfl,eB⟩;have gF:=bV.out.ag eB.2.2 id;have cR0:w2.cell? ⟨R,0,none⟩=some (.int .i64 0):=gF.cell 0;have cR1:w2.cell? ⟨R,1,none⟩=some (.slice none 0 0):=gF.cell 1;have lR:=gF.lt;have fR0:=gF.free 0;have fR1:=gF.free 1;have HB2:=Lib.hid gF;have YZ:=Lib.hid eB.1;have Qp:=Lib.hid (show bG w.heap.size A from fun x hx=>Nat.le_trans HS.out.size (eB.2.1 x hx));have Ta:=Lib.hid (show ∀ a,A=some a→a.block≠R from fun a ha h=>by have:=eB.2.1 a.block ⟨a,ha,rfl⟩;have:=bV.out.lt;omega);have HS2:=Lib.hid (HS.out.trans eB.2.2 (fun _ _ h=>h));clear eB gF;go_wp2;refine bM fun w3 hw3=>?_
   have dH:av w3 R 108 #[.int .i64 n,.slice A W.length C]:=by
    rw[hw3]
    have:=(HB2.out.set 0 (.int .i64 n)).set 1 (.slice A W.length C)
    simpa using this
   have jy:Same w w3:=by rw[hw3];exact(HS2.out.aj 0 _ qg).aj 1 _ qg
   have yO:dU w3 A W.length C W:=by
    rw[hw3];exact(Own.far (p:=⟨R,0,none⟩) YZ.out Ta.out _).far (p:=⟨R,1,none⟩) Ta.out _
   have hr0:w3.cell? ⟨R,0,none⟩=some (.int .i64 n):=dH.cell 0;have hr1:w3.cell? ⟨R,1,none⟩=some (.slice A W.length C):=dH.cell 1;have Tc:=Qp.out;clear hw3 dH;refine bodyPost_ret (v:=.agg #[.int .i64 n,.slice A W.length C]) (by simp[results,Tryz.results134,go_sem,hr0,hr1]) rfl ?_;exact⟨A,C,rfl,yO,Tc,jy⟩
end Go.Proofs.YtiomgckodmecbaaGreat
namespace Go.Tk
open Go.RowKit Go.Sort
theorem bF {P:Program} {ops:Array Oper} {C:World→Prop} {o:Oper} {a:Act} {w:World} {K:Act→World→Prop} (hg:Region.wanted o (yielded ops a.tmps)=true)
  (h:∀ K':Act→World→Prop,(∀ a w,C w→K a w→K' a w)→o.wp P a w K' (fun _ _ _=>False)):cZ P ops C o a w K:=by
 have h1:=h (fun a w=>C w∧K a w) (fun a w hc hw=>⟨hc,hw⟩);unfold cZ;rw[if_pos hg];exact h1
end Go.Tk
namespace Go.Proofs.YtiomgckodmecbaaGreat
open Go.RowKit Go.Tk
end Go.Proofs.YtiomgckodmecbaaGreat
namespace Go.Tk
open Go.RowKit
end Go.Tk
namespace Go.Proofs.YtiomgckodmecbaaGreat
open Go.RowKit Go.Tk
def Tb.cells (t:Tb):List Value:=[.int .i64 t.N,.slice t.A t.ws.length t.C]
theorem JS (a:Int) (A:Option Addr) (n C:Nat) (w:World):(Instr.field 108 (.agg #[.int .i64 a,.slice A n C]) 1).run Tryz.prog w=.ok (.slice A n C) w:=rfl
def sZ (n:Nat) (ws:List Nat) (v:Nat):Bool:=!decide (tab n (lQ v false ws)=tab n (lQ v true ws))
theorem QY (v:Nat):tab 6 (fun x=>x.testBit v)=[kH (fun j=>j.testBit v) 64]:=by
 have h:nw 6=1:=rfl;unfold tab;rw[h];simp[word];exact lV fun j hj=>by simp[hj]
theorem JU {x O p z:Nat} (hx:x<18446744073709551616) (hO:O<18446744073709551616) (hz:z=(x&&& O)||| (x&&& O) / 2 ^ p):∃ y:Nat,bits .and .u64 (x:Int) (O:Int)=(y:Int)∧bits .or .u64 (y:Int) ((y:Int) / 2 ^ p)=(z:Int):=by
 have h1:x&&& O<18446744073709551616:=Nat.lt_of_le_of_lt Nat.and_le_left hx;refine⟨x&&& O,u64_and_nat x O hx hO,?_⟩;rw[hz,← u64_or_nat _ _ h1 (Nat.lt_of_le_of_lt (Nat.div_le_self _ _) h1),Int.natCast_ediv,Int.natCast_pow];rfl
theorem FQ {x O p z:Nat} (hx:x<18446744073709551616) (hO:O<18446744073709551616) (hz:z=(x&&& (18446744073709551615-O))||| ((x&&& (18446744073709551615-O))*2 ^ p)%18446744073709551616):∃ y:Nat,bits .andNot .u64 (x:Int) (O:Int)=(y:Int)∧bits .or .u64 (y:Int) (IntKind.u64.wrap ((y:Int)*2 ^ p))=(z:Int):=by
 have h1:x&&& (18446744073709551615-O)<18446744073709551616:=Nat.lt_of_le_of_lt Nat.and_le_left hx;refine⟨x&&& (18446744073709551615-O),u64_andNot_nat x O hx hO,?_⟩;rw[hz,← u64_or_nat _ _ h1 (Nat.mod_lt _ (by decide))];congr 1
theorem xC (n v:Nat) (b:Bool) (Aa:Option Addr) (Ca:Nat) (mQ:List Nat) (w:World) (h:JM w ⟨n,Aa,Ca,mQ⟩) (hf:mF n mQ) (hv:v<n) :
  Calls Tryz.prog 127 #[.agg #[.int .i64 n,.slice Aa mQ.length Ca],.int .i64 v,.bool b] w (FM w n (tab n (lQ v b mQ))):=by
 have hn:=hf.n16;have hnl:=iO hn;have hnp:=EM n;have hct:=QS (b:=b) hf h.small hv;have hlen:=hf.len;obtain⟨G,hG⟩:∃ z,z=pq v b mQ:=⟨_,rfl⟩;rw[← hG] at hct;have hGs:∀ i,G i<18446744073709551616:=fun i=>by rw[hG];exact Dy h.small
 have hmk:=fun w=>eU (P:=Tryz.prog) Tryz.underlying74 Dv .i64 .i64 (nw n) (show 8*nw n≤281474976710656 by omega) (show nw n≤9223372036854775807 by omega) w
 obtain⟨L,hL⟩:∃ z,z=nw n:=⟨_,rfl⟩;have hLn:=hL;rw[← hL] at hct hnl hnp hlen hmk;rw[hct,hlen];have H:=Lib.hid (show WL w Aa L mQ by rw[← hlen];exact h.wl);have uK:=Lib.hid h.small;have HGS:=Lib.hid hGs;have SG:=Lib.hid hG;have BR:=Lib.hid hLn;have HLEN:=Lib.hid hlen;clear h hf hct hlen hG hGs hL hLn;go_enter Tryz.func127,Tryz.ntmps127;go_upto_region 1 with fail
 refine ai fun w1 hw1=>?_
 have hs1:Same w w1:=by rw[hw1];exact((ah.refl _ _).alloc _).alloc _
 have qh:av w1 (w.heap.size) 108 #[.int .i64 n,.slice Aa L Ca]:=by
  rw[hw1]
  have:=((av.new w 108 #[.int .i64 n,.slice Aa L Ca]).alloc (.cells #[.int .i64 0,.slice none 0 0] 108))
  simpa using this
 have gF:av w1 (w.heap.size+1) 108 #[.int .i64 0,.slice none 0 0]:=by
  rw[hw1]
  have:=(av.new (w.alloc (.cells #[.int .i64 n,.slice Aa L Ca] 108)) 108 #[.int .i64 0,.slice none 0 0])
  simpa using this
 clear hw1;obtain⟨R,hR⟩:∃ b,w.heap.size+1=b:=⟨_,rfl⟩;rw[hR] at gF ⊢;have leR:w.heap.size≤R:=by omega
 have acv:w.heap.size≠R:=by omega
 clear hR;have Y1:w1.cell? ⟨w.heap.size,0,none⟩=some (.int .i64 n):=qh.cell 0;have Y2:w1.cell? ⟨w.heap.size,1,none⟩=some (.slice Aa L Ca):=qh.cell 1;have lXT:=qh.lt;have Y3:=qh.free 0;have Y4:=qh.free 1;have UR:=Lib.hid qh;have cR0:w1.cell? ⟨R,0,none⟩=some (.int .i64 0):=gF.cell 0;have cR1:w1.cell? ⟨R,1,none⟩=some (.slice none 0 0):=gF.cell 1;have lR:=gF.lt;have fR0:=gF.free 0;have fR1:=gF.free 1;have bV:=Lib.hid gF;have aW:=Lib.hid hs1;clear hs1 qh gF;go_cut [7] (fun s7 wx=>∃ X G:Nat,s7=.pointer (some ⟨X,0,none⟩)∧X≠G∧w1.heap.size≤X∧w1.heap.size≤G∧av wx X 108 #[.int .i64 n,.slice (some ⟨G,0,none⟩) L L]∧dU wx (some ⟨G,0,none⟩) L L (List.replicate L 0)∧Same w1 wx)
 case first =>
  refine Ci (fun _=>False) (.q [0,1,2,3,4] (.fork 5 (.q [6] (.step 7 (.last 8))) 7 (.step 5 (.q [6] (.last 8))))) (by kernel_rfl) (by kernel_rfl) ?_;simp only[Et,pick,List.map_cons,List.map_nil,List.getD_cons_zero,List.getD_cons_succ];repeat (any_goals (first | go_big_quiet_step (fail) | quiet_step (fail)))
  refine wpQuiet_nil ?_;have hqd:Same w1 w1.drew:=(ah.refl _ _).drew;refine⟨?_,?_⟩
  ·refine aa rfl fun K hK=>?_
   go_simp;refine hK _ _ (aY.bz (ah.alloc hqd _)) ?_;clear hK K;repeat (any_goals (first | go_big_quiet_step (fail) | quiet_step (fail)))
   refine wpQuiet_nil ?_;refine aa rfl fun K hK=>?_
   go_simp;refine hK _ _ (aY.bz (ah.alloc (ah.alloc hqd _) _)) ?_;clear hK K;go_wp2_with fail
   go_meet
   obtain⟨g1,g2,g3⟩:=Nr w1 n L (by simp[maxLen] <;> omega);exact⟨w1.heap.size+1,w1.heap.size,rfl,by omega,by omega,Nat.le_refl _,g1.drew,Own.ag g2 ((ah.refl (fun _=>False) _).drew) (fun _ _=>id),g3.drew⟩
  ·refine aa rfl fun K hK=>?_
   go_simp;refine hK _ _ (aY.bz (ah.alloc hqd _)) ?_;clear hK K;refine aa rfl fun K hK=>?_
   go_simp;refine hK _ _ (aY.bz (ah.alloc (ah.alloc hqd _) _)) ?_;clear hK K;repeat (any_goals (first | go_big_quiet_step (fail) | quiet_step (fail)))
   refine wpQuiet_nil ?_;go_wp2_with fail
   go_meet
   obtain⟨g1,g2,g3⟩:=JQ w1 n L (by simp[maxLen] <;> omega);exact⟨w1.heap.size,w1.heap.size+1,rfl,by omega,Nat.le_refl _,by omega,g1.drew,Own.ag g2 ((ah.refl (fun _=>False) _).drew) (fun _ _=>id),g3.drew⟩
 case rest =>
  obtain⟨X,D,rfl,hXD,hX0,hD0,hBX,Dz,hsc⟩:=hcut;have hwX:w.heap.size≤X:=by have:=aW.out.size;omega
  have QL:w.heap.size≤D:=by have:=aW.out.size;omega
  have hXR:X≠R:=by omega
  have Td:D≠R:=by omega
  have hTX:w.heap.size≠X:=by omega
  have hTD:w.heap.size≠D:=by omega
  have Ez:=Lib.hid (UR.out.ag hsc id);have o7:=Lib.hid (bV.out.ag hsc id);have HS:=Lib.hid (aW.out.trans hsc (fun _ _ h=>h));have yH:=Lib.hid hBX;have Bh:=Lib.hid Dz;clear hBX Dz hsc UR bV aW Y1 Y2 lXT Y3 Y4 cR0 cR1 lR fR0 fR1 hmk hX0 hD0;by_cases h6:6≤v
  ·obtain⟨s,hs⟩:∃ s,s=v-6:=⟨_,rfl⟩;have hv6:(v:Int)-6=s:=by omega
   have h6':(v:Int)≥6:=by omega
   have jT:s≤10:=by omega
   have abq:2 ^ s≤2 ^ 10:=Nat.pow_le_pow_right (by omega) jT;have h2:(2:Int) ^ s=((2 ^ s:Nat):Int):=vE s;have hpar:=fun i=>QT i s
   obtain⟨P,hP⟩:∃ z,z=2 ^ s:=⟨_,rfl⟩;have Yp:0<P:=by rw[hP];exact Nat.pow_pos (by omega)
   rw[← hP] at abq h2;have yN:min s 64=s:=by omega
   have hw:IntKind.i64.wrap ((2:Int) ^ s)=(P:Int):=by rw[h2];exact IntWalk.i64_in _ (by omega)
   have hw2:wrap64 ((2:Int) ^ (v-6))=(P:Int):=by rw[← hs,← hw];simp[IntKind.wrap_i64,wrap64]
   have HP:=Lib.hid hP;have abr:=Lib.hid hpar;clear hP hpar h2;have hsn:s<n-6:=by omega
   have zI:=Lib.hid hsn;have HS0:=Lib.hid hs;clear hs hv6 hw hsn;go_wp2;go_loopw [9] (fun i wi=>∃ k:Nat,k≤L∧i=.int .i64 k∧Same w wi∧av wi w.heap.size 108 #[.int .i64 n,.slice Aa L Ca]∧av wi R 108 #[.int .i64 0,.slice none 0 0]∧av wi X 108 #[.int .i64 n,.slice (some ⟨D,0,none⟩) L L]∧dU wi (some ⟨D,0,none⟩) L L (DC G L k)) (fun i _=>L-(intOf i).toNat)
   case atStart=>exact⟨0,by omega,rfl,HS.out,Ez.out,o7.out,yH.out,by rw[DD];exact Bh.out⟩
   case round =>
    clear HS Ez o7 yH Bh;obtain⟨k,hk,rfl,hs,hbt,hbr,hbx,hod⟩:=hrel;have c0:wr.cell? ⟨w.heap.size,0,none⟩=some (.int .i64 n):=hbt.cell 0;have c1:wr.cell? ⟨w.heap.size,1,none⟩=some (.slice Aa L Ca):=hbt.cell 1;have lT:=hbt.lt;by_cases hlt:k<L
    ·have hk0:(0:Int)≤k:=by omega
     have hk1:(k:Int)<L:=by omega
     obtain⟨Q,E,M,J,f1,f2,f3,f4,hJ,hQk,hE1,hMk,hJk,hp2⟩:=abr.out k;rw[← HP.out] at f1 f3 hp2;have F1:=Lib.hid f1;have F2:=Lib.hid f2;have F3:=Lib.hid f3;have F4:=Lib.hid f4;clear f1 f2 f3 f4 hw2;have ac5:¬ P=0:=Nat.pos_iff_ne_zero.1 Yp;obtain⟨I,hI⟩:∃ z,z=uT k s b:=⟨_,rfl⟩;have hIL:I<L:=by
      rw[hI,BR.out,show nw n=2 ^ (n-6) by unfold nw;rw[if_neg (by omega)]];refine vW ?_ zI.out;rw[BR.out,show nw n=2 ^ (n-6) by unfold nw;rw[if_neg (by omega)]] at hlt;exact hlt
     obtain⟨x,hx⟩:∃ x,mQ[I]?=some x:=⟨_,List.getElem?_eq_getElem (by rw[HLEN.out];exact hIL)⟩;have Wv:G k=x:=by
      rw[SG.out];unfold pq;rw[if_pos h6,← HS0.out,← hI,List.getD_eq_getElem?_getD,hx];rfl
     obtain⟨ba,oa,hA,hba,hca⟩:=WL.dV (Sl.same H.out hs) hx;subst hA;have hI0:(0:Int)≤I:=by omega
     have hI1:(I:Int)<L:=by omega
     obtain⟨sb,hsb,hDl,Lp⟩:=hod.dV (c:=fun x:Nat=>.int .u64 (x:Int)) (Ih (g:=G) hlt);injection hsb with hsb
     injection hsb with hsb
     subst hsb;have hst:=fun (w':World) (hs':Same wr w')=>Own.kS (c:=fun x:Nat=>.int .u64 (x:Int)) (Own.ag hod hs' (fun _ _=>id)) (i:=k) (by rw[oM];exact hlt) x
     rw[show(DC G L k).set k x=DC G L (k+1) by rw[← Wv];exact Ii hlt] at hst;have Y5:wr.cell? ⟨X,1,none⟩=some (.slice (some ⟨D,0,none⟩) L L):=hbx.cell 1;have UU:=hbx.lt;have hfree:=fun (w':World) (hs':Same wr w')=>Own.free (Own.ag hod hs' (fun _ _=>id)) k
     have HST:=Lib.hid hst;have DF:=Lib.hid hfree;have HS:=Lib.hid hs;have Ez:=Lib.hid hbt;have o7:=Lib.hid hbr;have yH:=Lib.hid hbx;have hbI:(if b then J+P else J)=I:=by
      rw[hI];cases b
      ·exact hJ
      ·rw[hp2];rfl
     have hk3:k≤1024:=by omega
     clear hp2 hJ hI hx Wv hst hfree hs hbt hbr hbx hod;cases b with
     | false =>
      have hJI:J=I:=hbI;clear hbI;subst hJI;go_upto_region 7 with fail
      refine wp_region_lit ?_;refine j5 3 ?_;simp only[List.take_succ_cons,List.take_zero,List.drop_succ_cons,List.drop_zero];repeat (any_goals (first | go_big_quiet_step (fail) | quiet_step (fail)))
      refine wpQuiet_nil ?_;refine wpList_plain rfl fun K hK=>?_
      go_simp;rw[F1.out,show IntKind.i64.wrap (Q:Int)=Q from IntWalk.i64_in _ (by omega)];go_simp;refine hK _ _ ?_;clear hK K;have f2:=F2.out;refine wpList_plain rfl fun K hK=>?_
      go_simp;refine hK _ _ ?_;clear hK K;clear f2;refine wpList_plain rfl fun K hK=>?_
      go_simp;refine hK _ _ ?_;clear hK K;have f3:=F3.out;refine wpList_plain rfl fun K hK=>?_
      go_simp;clear f3;rw[show IntKind.i64.wrap (M:Int)=M from IntWalk.i64_in _ (by omega)];refine hK _ _ ?_;clear hK K;refine wpList_plain rfl fun K hK=>?_
      go_simp;rw[F4.out,show IntKind.i64.wrap (J:Int)=J from IntWalk.i64_in _ (by omega)];refine hK _ _ ?_;clear hK K;go_upto_region 10 with fail
      refine eD 9 (by kernel_rfl) (by kernel_rfl) ?_;simp only[List.take_succ_cons,List.take_zero,List.drop_succ_cons,List.drop_zero];repeat (any_goals (first | go_big_quiet_step (fail) | quiet_step (fail)))
      refine wpQuiet_nil ?_;rintro wz ⟨q,hq⟩;have hsz:Same wr wz:=by rw[hq];exact ay _ q
      have hfz:=DF.out wz hsz;have hcz:=(hsz.cell (p:=⟨D,k,none⟩) hDl id).trans Lp;have iC:=Lib.hid ((HS.out.trans hsz (fun _ _ h=>h)).aj (g:=D) k (.int .u64 (x:Int)) QL);have Bj:=Lib.hid ((Ez.out.ag hsz id).far (p:=⟨D,k,none⟩) hTD (.int .u64 (x:Int)));have Bi:=Lib.hid ((o7.out.ag hsz id).far (p:=⟨D,k,none⟩) (Ne.symm Td) (.int .u64 (x:Int)));have FR:=Lib.hid ((yH.out.ag hsz id).far (p:=⟨D,k,none⟩) hXD (.int .u64 (x:Int)));have QM:=Lib.hid (HST.out wz hsz);have hDz:D<wz.heap.size:=by have:=hsz.size;omega
      clear hq hsz Lp hDl Y5 UU hca hba c0 c1 lT;go_wp2;go_roundw
      case rel=>exact⟨k+1,by omega,by go_num,iC.out,Bj.out,Bi.out,FR.out,QM.out⟩
      case measure=>simp[intOf] <;> omega
     | true =>
      have f5:(J:Int)+(P:Int)=(I:Int):=by rw[← hbI];simp
      clear hbI;go_upto_region 7 with fail
      refine wp_region_lit ?_;refine j5 3 ?_;simp only[List.take_succ_cons,List.take_zero,List.drop_succ_cons,List.drop_zero];repeat (any_goals (first | go_big_quiet_step (fail) | quiet_step (fail)))
      refine wpQuiet_nil ?_;refine wpList_plain rfl fun K hK=>?_
      go_simp;rw[F1.out,show IntKind.i64.wrap (Q:Int)=Q from IntWalk.i64_in _ (by omega)];go_simp;refine hK _ _ ?_;clear hK K;have f2:=F2.out;refine wpList_plain rfl fun K hK=>?_
      go_simp;refine hK _ _ ?_;clear hK K;clear f2;refine wpList_plain rfl fun K hK=>?_
      go_simp;refine hK _ _ ?_;clear hK K;have f3:=F3.out;refine wpList_plain rfl fun K hK=>?_
      go_simp;clear f3;rw[show IntKind.i64.wrap (M:Int)=M from IntWalk.i64_in _ (by omega)];refine hK _ _ ?_;clear hK K;refine wpList_plain rfl fun K hK=>?_
      go_simp;rw[F4.out,show IntKind.i64.wrap (J:Int)=J from IntWalk.i64_in _ (by omega)];refine hK _ _ ?_;clear hK K;go_upto_region 10 with fail
      refine eD 9 (by kernel_rfl) (by kernel_rfl) ?_;simp only[List.take_succ_cons,List.take_zero,List.drop_succ_cons,List.drop_zero];repeat (any_goals (first | go_big_quiet_step (fail) | quiet_step (fail)))
      refine wpQuiet_nil ?_;rintro wz ⟨q,hq⟩;have hsz:Same wr wz:=by rw[hq];exact ay _ q
      have hfz:=DF.out wz hsz;have hcz:=(hsz.cell (p:=⟨D,k,none⟩) hDl id).trans Lp;have iC:=Lib.hid ((HS.out.trans hsz (fun _ _ h=>h)).aj (g:=D) k (.int .u64 (x:Int)) QL);have Bj:=Lib.hid ((Ez.out.ag hsz id).far (p:=⟨D,k,none⟩) hTD (.int .u64 (x:Int)));have Bi:=Lib.hid ((o7.out.ag hsz id).far (p:=⟨D,k,none⟩) (Ne.symm Td) (.int .u64 (x:Int)));have FR:=Lib.hid ((yH.out.ag hsz id).far (p:=⟨D,k,none⟩) hXD (.int .u64 (x:Int)));have QM:=Lib.hid (HST.out wz hsz);have hDz:D<wz.heap.size:=by have:=hsz.size;omega
      clear hq hsz Lp hDl Y5 UU hca hba c0 c1 lT;go_wp2;go_roundw
      case rel=>exact⟨k+1,by omega,by go_num,iC.out,Bj.out,Bi.out,FR.out,QM.out⟩
      case measure=>simp[intOf] <;> omega
    ·obtain rfl:k=L:=by omega
     rw[Ig] at hod;have HS:=Lib.hid hs;have o7:=Lib.hid hbr;have Bh:=Lib.hid hod;have abt:wr.cell? ⟨X,0,none⟩=some (.int .i64 n):=hbx.cell 0;have abu:wr.cell? ⟨X,1,none⟩=some (.slice (some ⟨D,0,none⟩) k k):=hbx.cell 1;have UU:=hbx.lt;have hRl:=hbr.lt;have YN:=hbr.free 0;have YO:=hbr.free 1;have YP:wr.cell? ⟨R,0,none⟩=some (.int .i64 0):=hbr.cell 0;have YQ:wr.cell? ⟨R,1,none⟩=some (.slice none 0 0):=hbr.cell 1;clear hs hbt hbr hbx hod HGS;have Ey:=Lib.hid (show(List.map G (List.range k)).length=k by simp);clear SG uK;go_wp2;refine bM fun we cK=>?_
     have dH:av we R 108 #[.int .i64 n,.slice (some ⟨D,0,none⟩) k k]:=by
      rw[cK]
      have:=(o7.out.set 0 (.int .i64 n)).set 1 (.slice (some ⟨D,0,none⟩) k k)
      simpa using this
     have jy:Same w we:=by rw[cK];exact(HS.out.aj 0 _ leR).aj 1 _ leR
     have yO:dU we (some ⟨D,0,none⟩) k k (List.map G (List.range k)):=by
      rw[cK];exact(Own.far (p:=⟨R,0,none⟩) Bh.out (fun a ha h=>by injection ha with ha;subst ha;exact Td h) _).far (p:=⟨R,1,none⟩) (fun a ha h=>by injection ha with ha;subst ha;exact Td h) _
     have hr0:we.cell? ⟨R,0,none⟩=some (.int .i64 n):=dH.cell 0;have hr1:we.cell? ⟨R,1,none⟩=some (.slice (some ⟨D,0,none⟩) k k):=dH.cell 1;clear cK dH;refine bodyPost_ret (v:=.agg #[.int .i64 n,.slice (some ⟨D,0,none⟩) k k]) (by simp[results,Tryz.results127,go_sem,hr0,hr1]) rfl ?_;refine⟨some ⟨D,0,none⟩,k,by rw[Ey.out],?_,bR QL,jy⟩;rw[Ey.out];exact yO
  ·have h6':¬ (v:Int)≥6:=by omega
   go_wp2_with (fail)
   refine(Nu 6 v wc (by omega) (by omega)).mono ?_;rintro e w3 ⟨A3,C3,rfl,eB⟩;have ho3:=eB.wl;have hs3:=eB.2.2;obtain⟨O,hO⟩:∃ z,z=kH (fun j=>j.testBit v) 64:=⟨_,rfl⟩;have Y6:O<18446744073709551616:=by rw[hO];exact lU _ 64
   rw[QY v,← hO] at ho3 ⊢;have h3l:[O].length=1:=rfl;rw[h3l] at ho3 ⊢;obtain⟨b3,o3,hA3,hb3,hc3⟩:=WL.dV ho3 (i:=0) (x:=O) rfl;subst hA3;have abv:w3.cell? ⟨b3,o3,none⟩=some (.int .u64 O):=by simpa using hc3
   replace Ez:=Lib.hid (Ez.out.ag hs3 id);replace o7:=Lib.hid (o7.out.ag hs3 id);replace yH:=Lib.hid (yH.out.ag hs3 id);replace Bh:=Lib.hid (Own.ag Bh.out hs3 (fun _ _=>id));replace HS:=Lib.hid (HS.out.trans hs3 (fun _ _ h=>h));have HOV:=Lib.hid hO;have hrw:=JS;clear eB ho3 hs3 h3l hc3 hO;have QZ:=Lib.hid (show v<6 by omega);have hvp:2 ^ v≤2 ^ 5:=Nat.pow_le_pow_right (by omega) (by omega);have hvi:(2:Int) ^ v=((2 ^ v:Nat):Int):=vE v;have Y0:min v 64=v:=by omega
   have hv0:(0:Int)≤v:=by omega
   obtain⟨p,hp⟩:∃ z,z=2 ^ v:=⟨_,rfl⟩;rw[← hp] at hvp hvi;have hpw:IntKind.u64.wrap ((2:Int) ^ v)=(p:Int):=by rw[hvi];exact IntWalk.u64_in _ (by omega)
   have hpm:min p 64=p:=by omega
   have UW:=Lib.hid hp;clear hp hvi;go_wp2;go_loopw [12] (fun i wi=>∃ k:Nat,k≤L∧i=.int .i64 k∧Same w wi∧av wi w.heap.size 108 #[.int .i64 n,.slice Aa L Ca]∧av wi R 108 #[.int .i64 0,.slice none 0 0]∧av wi X 108 #[.int .i64 n,.slice (some ⟨D,0,none⟩) L L]∧dU wi (some ⟨D,0,none⟩) L L (DC G L k)) (fun i _=>L-(intOf i).toNat)
   case atStart=>exact⟨0,by omega,rfl,HS.out,Ez.out,o7.out,yH.out,by rw[DD];exact Bh.out⟩
   case round =>
    clear HS Ez o7 yH Bh abv hb3;obtain⟨k,hk,rfl,hs,hbt,hbr,hbx,hod⟩:=hrel;have c0:wr.cell? ⟨w.heap.size,0,none⟩=some (.int .i64 n):=hbt.cell 0;have c1:wr.cell? ⟨w.heap.size,1,none⟩=some (.slice Aa L Ca):=hbt.cell 1;have lT:=hbt.lt;by_cases hlt:k<L
    ·have hk0:(0:Int)≤k:=by omega
     have hk1:(k:Int)<L:=by omega
     obtain⟨x,hx⟩:∃ x,mQ[k]?=some x:=⟨_,List.getElem?_eq_getElem (by rw[HLEN.out];exact hlt)⟩;have hxl:=uK.out.dV hx;have Wv:G k=pg v b x:=by
      rw[SG.out];unfold pq;rw[if_neg (by have:=QZ.out;omega),List.getD_eq_getElem?_getD,hx];rfl
     obtain⟨ba,oa,hA,hba,hca⟩:=WL.dV (Sl.same H.out hs) hx;subst hA;obtain⟨sb,hsb,hDl,Lp⟩:=hod.dV (c:=fun x:Nat=>.int .u64 (x:Int)) (Ih (g:=G) hlt);injection hsb with hsb
     injection hsb with hsb
     subst hsb;obtain⟨z,hz⟩:∃ z,z=pg v b x:=⟨_,rfl⟩;rw[← hz] at Wv;have hst:=fun (w':World) (hs':Same wr w')=>Own.kS (c:=fun x:Nat=>.int .u64 (x:Int)) (Own.ag hod hs' (fun _ _=>id)) (i:=k) (by rw[oM];exact hlt) z
     rw[show(DC G L k).set k z=DC G L (k+1) by rw[← Wv];exact Ii hlt] at hst;have Y5:wr.cell? ⟨X,1,none⟩=some (.slice (some ⟨D,0,none⟩) L L):=hbx.cell 1;have UU:=hbx.lt;have hfree:=fun (w':World) (hs':Same wr w')=>Own.free (Own.ag hod hs' (fun _ _=>id)) k
     have HST:=Lib.hid hst;have DF:=Lib.hid hfree;have HS:=Lib.hid hs;have Ez:=Lib.hid hbt;have o7:=Lib.hid hbr;have yH:=Lib.hid hbx;clear hx hst hfree hs hbt hbr hbx hod Wv;cases b with
     | false =>
      have hhf:=FQ (p:=p) (z:=z) hxl Y6 (by rw[hz,UW.out,HOV.out];exact(if_neg (by decide):pg v false x=_));obtain⟨y,fa,fc⟩:=hhf;clear hz;go_upto_region 20 with fail
      refine eD 10 (by kernel_rfl) (by kernel_rfl) ?_;simp only[List.take_succ_cons,List.take_zero,List.drop_succ_cons,List.drop_zero];repeat (any_goals (first | go_big_quiet_step (fail) | quiet_step (fail)))
      refine wpQuiet_nil ?_;rintro wz ⟨q,hq⟩;have hsz:Same wr wz:=by rw[hq];exact ay _ q
      have hfz:=DF.out wz hsz;have hcz:=(hsz.cell (p:=⟨D,k,none⟩) hDl id).trans Lp;have iC:=Lib.hid ((HS.out.trans hsz (fun _ _ h=>h)).aj (g:=D) k (.int .u64 (z:Int)) QL);have Bj:=Lib.hid ((Ez.out.ag hsz id).far (p:=⟨D,k,none⟩) hTD (.int .u64 (z:Int)));have Bi:=Lib.hid ((o7.out.ag hsz id).far (p:=⟨D,k,none⟩) (Ne.symm Td) (.int .u64 (z:Int)));have FR:=Lib.hid ((yH.out.ag hsz id).far (p:=⟨D,k,none⟩) hXD (.int .u64 (z:Int)));have QM:=Lib.hid (HST.out wz hsz);have hDz:D<wz.heap.size:=by have:=hsz.size;omega
      clear hq hsz Lp hDl Y5 UU hca hba c0 c1 lT fa;go_wp2;go_roundw
      case rel=>exact⟨k+1,by omega,by go_num,iC.out,Bj.out,Bi.out,FR.out,QM.out⟩
      case measure=>simp[intOf] <;> omega
     | true =>
      have hhf:=JU (p:=p) (z:=z) hxl Y6 (by rw[hz,UW.out,HOV.out];exact(if_pos rfl:pg v true x=_));obtain⟨y,fa,fc⟩:=hhf;clear hz;go_upto_region 18 with fail
      refine eD 10 (by kernel_rfl) (by kernel_rfl) ?_;simp only[List.take_succ_cons,List.take_zero,List.drop_succ_cons,List.drop_zero];repeat (any_goals (first | go_big_quiet_step (fail) | quiet_step (fail)))
      refine wpQuiet_nil ?_;rintro wz ⟨q,hq⟩;have hsz:Same wr wz:=by rw[hq];exact ay _ q
      have hfz:=DF.out wz hsz;have hcz:=(hsz.cell (p:=⟨D,k,none⟩) hDl id).trans Lp;have iC:=Lib.hid ((HS.out.trans hsz (fun _ _ h=>h)).aj (g:=D) k (.int .u64 (z:Int)) QL);have Bj:=Lib.hid ((Ez.out.ag hsz id).far (p:=⟨D,k,none⟩) hTD (.int .u64 (z:Int)));have Bi:=Lib.hid ((o7.out.ag hsz id).far (p:=⟨D,k,none⟩) (Ne.symm Td) (.int .u64 (z:Int)));have FR:=Lib.hid ((yH.out.ag hsz id).far (p:=⟨D,k,none⟩) hXD (.int .u64 (z:Int)));have QM:=Lib.hid (HST.out wz hsz);have hDz:D<wz.heap.size:=by have:=hsz.size;omega
      clear hq hsz Lp hDl Y5 UU hca hba c0 c1 lT fa;go_wp2;go_roundw
      case rel=>exact⟨k+1,by omega,by go_num,iC.out,Bj.out,Bi.out,FR.out,QM.out⟩
      case measure=>simp[intOf] <;> omega
    ·obtain rfl:k=L:=by omega
     rw[Ig] at hod;have HS:=Lib.hid hs;have o7:=Lib.hid hbr;have Bh:=Lib.hid hod;have abt:wr.cell? ⟨X,0,none⟩=some (.int .i64 n):=hbx.cell 0;have abu:wr.cell? ⟨X,1,none⟩=some (.slice (some ⟨D,0,none⟩) k k):=hbx.cell 1;have UU:=hbx.lt;have hRl:=hbr.lt;have YN:=hbr.free 0;have YO:=hbr.free 1;have YP:wr.cell? ⟨R,0,none⟩=some (.int .i64 0):=hbr.cell 0;have YQ:wr.cell? ⟨R,1,none⟩=some (.slice none 0 0):=hbr.cell 1;clear hs hbt hbr hbx hod HGS;have Ey:=Lib.hid (show(List.map G (List.range k)).length=k by simp);clear SG uK;go_wp2;refine bM fun we cK=>?_
     have dH:av we R 108 #[.int .i64 n,.slice (some ⟨D,0,none⟩) k k]:=by
      rw[cK]
      have:=(o7.out.set 0 (.int .i64 n)).set 1 (.slice (some ⟨D,0,none⟩) k k)
      simpa using this
     have jy:Same w we:=by rw[cK];exact(HS.out.aj 0 _ leR).aj 1 _ leR
     have yO:dU we (some ⟨D,0,none⟩) k k (List.map G (List.range k)):=by
      rw[cK];exact(Own.far (p:=⟨R,0,none⟩) Bh.out (fun a ha h=>by injection ha with ha;subst ha;exact Td h) _).far (p:=⟨R,1,none⟩) (fun a ha h=>by injection ha with ha;subst ha;exact Td h) _
     have hr0:we.cell? ⟨R,0,none⟩=some (.int .i64 n):=dH.cell 0;have hr1:we.cell? ⟨R,1,none⟩=some (.slice (some ⟨D,0,none⟩) k k):=dH.cell 1;clear cK dH;refine bodyPost_ret (v:=.agg #[.int .i64 n,.slice (some ⟨D,0,none⟩) k k]) (by simp[results,Tryz.results127,go_sem,hr0,hr1]) rfl ?_;refine⟨some ⟨D,0,none⟩,k,by rw[Ey.out],?_,bR QL,jy⟩;rw[Ey.out];exact yO
theorem qZ (n v:Nat) (Aa:Option Addr) (Ca:Nat) (mQ:List Nat) (w:World) (h:JM w ⟨n,Aa,Ca,mQ⟩) (hf:mF n mQ) (hv:v<n) :
  Calls Tryz.prog 128 #[.agg #[.int .i64 n,.slice Aa mQ.length Ca],.int .i64 v] w fun e w'=>e=.returned (.bool (sZ n mQ v))∧Same w w':=by
 have hn:=hf.n16;have H:=Lib.hid h;have HF:=Lib.hid hf;have HV:=Lib.hid hv;obtain⟨d,hd⟩:∃ z,z=sZ n mQ v:=⟨_,rfl⟩;rw[← hd];have HD:=Lib.hid (show(!decide (tab n (lQ v false mQ)=tab n (lQ v true mQ)))=d from hd.symm);clear h hf hd;go_enter Tryz.func128,Tryz.ntmps128;go_upto_region 1 with fail
 refine ai fun w1 hw1=>?_
 have hs1:Same w w1:=by rw[hw1];exact(ah.refl _ _).alloc _
 have qh:av w1 (w.heap.size) 108 #[.int .i64 n,.slice Aa mQ.length Ca]:=by
  rw[hw1]
  have:=(av.new w 108 #[.int .i64 n,.slice Aa mQ.length Ca])
  simpa using this
 clear hw1;have Y1:w1.cell? ⟨w.heap.size,0,none⟩=some (.int .i64 n):=qh.cell 0;have Y2:w1.cell? ⟨w.heap.size,1,none⟩=some (.slice Aa mQ.length Ca):=qh.cell 1;have lXT:=qh.lt;have Y3:=qh.free 0;have Y4:=qh.free 1;have UR:=Lib.hid qh;have aW:=Lib.hid hs1;clear hs1 qh;refine aG (fun _=>False) [([0,1,3,4],2),([],5),([],6),([7],8)] (by kernel_rfl) (by kernel_rfl) ?_;simp only[di,pick,List.map_cons,List.map_nil,List.getD_cons_zero,List.getD_cons_succ];have hs:Same w1 w1.drew:=(ah.refl _ _).drew;repeat (any_goals (first | go_big_quiet_step (fail) | quiet_step (fail)))
 refine wpQuiet_nil ?_;refine aa rfl fun K hK=>?_
 go_simp;refine(xC n v false Aa Ca mQ _ (H.out.same (aW.out.trans hs (fun _ _ h=>h))) HF.out HV.out).mono ?_;rintro e u ⟨A0,C0,rfl,eB⟩;have hs:=hs.trans eB.2.2 (fun _ _ h=>h);have ho0:=eB.1;refine hK _ _ (aY.bz (ah.mono hs (fun _ _ h=>h.elim))) ?_;clear hK K eB;refine wpQuiet_nil ?_;refine aa rfl fun K hK=>?_
 go_simp;refine(xC n v true Aa Ca mQ _ (H.out.same (aW.out.trans hs (fun _ _ h=>h))) HF.out HV.out).mono ?_;rintro e u ⟨A1,C1,rfl,eB⟩;have hs:=hs.trans eB.2.2 (fun _ _ h=>h);have ho0:=Own.ag ho0 eB.2.2 (fun _ _=>id);have ho1:=eB.1;refine hK _ _ (aY.bz (ah.mono hs (fun _ _ h=>h.elim))) ?_;clear hK K eB;refine wpQuiet_nil ?_;refine aa rfl fun K hK=>?_
 go_simp;refine(fQ n A0 _ C0 _ n A1 _ C1 _ _ (ho0.sl jI) (ho1.sl jI) (by rw[Aj];have:=iO hn;omega)).mono ?_;rintro e u ⟨rfl,hsz⟩;have hs:=hs.trans hsz (fun _ _ h=>h);refine hK _ _ (aY.bz (ah.mono hs (fun _ _ h=>h.elim))) ?_;have hdd:=HD.out;rw[show sm (n:Int) n (tab n (lQ v false mQ)) (tab n (lQ v true mQ))=decide (tab n (lQ v false mQ)=tab n (lQ v true mQ)) by unfold sm;simp];generalize decide (tab n (lQ v false mQ)=tab n (lQ v true mQ))=dd at *
 subst hdd;have zI:=Lib.hid (aW.out.trans hs (fun _ _ h=>h));clear hK K hsz ho0 ho1 hs HD;repeat (any_goals (first | go_big_quiet_step (fail) | quiet_step (fail)))
 refine wpQuiet_nil ?_;go_wp2;go_ret;exact⟨rfl,zI.out⟩
theorem fe:(Tryz.prog.info? 108).map (fun i=>(i.zero,i.size,i.bytes))=some (some (.agg #[.int .i64 0,.slice none 0 0]),2,32):=by kernel_rfl
structure TW (w:World) (n:Nat) (t:Tb):Prop where
 N:t.N=(n:Int)
 own:dU w t.A t.ws.length t.C t.ws
 fm:mF n t.ws
 sm:Small t.ws
structure TL (w:World) (n:Nat) (A:Option Addr) (ts:List Tb):Prop where
 sl:Sl w 2 Tb.cells A ts.length ts
 tw:∀ t∈ts,TW w n t
structure TN (lo:Nat) (w:World) (n:Nat) (A:Option Addr) (C:Nat) (ts:List Tb):Prop where
 own:Go.Tk.Own w 108 2 Tb.cells A ts.length C ts
 tw:∀ t∈ts,TW w n t
 fresh:bG lo A
theorem Tb.ak (t:Tb):t.cells.length=2:=rfl
section
variable {w w':World} {n:Nat} {A:Option Addr} {C:Nat} {ts:List Tb} {t:Tb} {lo:Nat}
theorem TW.same (h:TW w n t) (hs:Same w w'):TW w' n t:=⟨h.N,h.own.ag hs (fun _ _=>id),h.fm,h.sm⟩
theorem TW.ok (h:TW w n t):JM w t:=⟨h.own.sl jI,h.sm⟩
theorem TL.same (h:TL w n A ts) (hs:Same w w'):TL w' n A ts:=⟨Sl.same h.sl hs,fun t ht=>(h.tw t ht).same hs⟩
theorem TN.tl (h:TN lo w n A C ts):TL w n A ts:=⟨h.own.sl Tb.ak,h.tw⟩
theorem TN.same (h:TN lo w n A C ts) (hs:Same w w'):TN lo w' n A C ts:=⟨h.own.ag hs (fun _ _=>id),fun t ht=>(h.tw t ht).same hs,h.fresh⟩
theorem TN.nil (lo:Nat) (w:World) (n:Nat):TN lo w n none 0 []:=⟨Own.nil _ _ _ _,fun _ h=>(by cases h),aL _⟩
theorem TL.at (h:TL w n A ts) {i:Nat} (hi:ts[i]?=some t):∃ b off,A=some ⟨b,off,none⟩∧b<w.heap.size∧w.cell? ⟨b,off+i*2,none⟩=some (.int .i64 t.N)∧w.cell? ⟨b,off+i*2+1,none⟩=some (.slice t.A t.ws.length t.C):=by
 obtain⟨b,off,h1,h2,h3⟩:=h.sl.get i t hi;exact⟨b,off,h1,h2,h3 0 (by omega),h3 1 (by omega)⟩
theorem oN (hL:TL w n A ts) (ht:TW w n t) (hl:ts.length≤1000000000000000000) :
  Calls Tryz.prog 103 #[.slice A ts.length C,t.val] w fun e w'=>e=.returned (.bool (decide (t.ws∈ts.map Tb.ws)))∧Same w w':=by
 have htl:t.ws.length≤1000000000000000000:=by rw[ht.fm.len];have:=iO ht.fm.n16;omega
 have hsm:=fun (u:Tb) w' (h1:TW w' n t) (h2:TW w' n u)=>fQ t.N t.A t.ws.length t.C t.ws u.N u.A u.ws.length u.C u.ws w' h1.ok.wl h2.ok.wl htl
 have uK:=Lib.hid hsm;have HL:=Lib.hid hL;have HT:=Lib.hid ht;clear hL ht hsm htl;unfold Tb.val;go_enter Tryz.func103,Tryz.ntmps103;go_wp2_with (fail)
 refine ai fun w1 hw1=>?_
 have hX:=av.new w 108 #[.int .i64 t.N,.slice t.A t.ws.length t.C];have hs1:Same w w1:=by rw[hw1];exact(ah.refl _ _).alloc _
 rw[← hw1] at hX;clear hw1;have HX:=Lib.hid hX;have aW:=Lib.hid hs1;clear hX hs1;go_loopw [9] (fun i wr=>∃ k:Nat,k≤ts.length∧i=.int .i64 k∧Same w1 wr∧∀ u∈ts.take k,u.ws≠t.ws) (fun i _=>ts.length-(intOf i).toNat)
 case atStart=>exact⟨0,by omega,rfl,ah.refl _ _,fun u hu=>by simp at hu⟩
 case round =>
  obtain⟨k,hk,rfl,hS,hno⟩:=hrel;have HS:=Lib.hid hS;have oZ:=Lib.hid hno;have hX:=HX.out.ag hS id;have x0:=hX.cell 0;have x1:=hX.cell 1;have hxl:=hX.lt;simp at x0 x1;clear hS hno hX;by_cases hlt:k<ts.length
  ·obtain⟨u,hu⟩:∃ u,ts[k]?=some u:=⟨_,List.getElem?_eq_getElem hlt⟩;have hL:=HL.out.same (aW.out.trans HS.out (fun _ _ h=>h));obtain⟨b,off,rfl,hb,c0,c1⟩:=hL.at hu;have hI:(k:Int)<(ts.length:Int):=by omega
   have hsm:=uK.out u;have hse:sm t.N u.N t.ws u.ws=decide (u.ws=t.ws):=by
    unfold sm;rw[HT.out.N,(HL.out.tw u (List.mem_of_getElem? hu)).N];by_cases h:t.ws=u.ws
    ·simp[h]
    ·have h':¬ u.ws=t.ws:=fun e=>h e.symm
     simp[h,h']
   have uL:=Lib.hid (show ∀ w',Same w1 w'→Calls Tryz.prog 71 #[.agg #[.int .i64 t.N,.slice t.A t.ws.length t.C],.agg #[.int .i64 u.N,.slice u.A u.ws.length u.C]] w' fun e w''=>e=.returned (.bool (decide (u.ws=t.ws)))∧Same w' w'' from fun w' hw=>by
    have:=hsm w' (HT.out.same (aW.out.trans hw (fun _ _ h=>h))) ((HL.out.tw u (List.mem_of_getElem? hu)).same (aW.out.trans hw (fun _ _ h=>h)))
    rwa [hse] at this)
   have HU:=Lib.hid hu;clear hu hL hsm hse;obtain⟨bb,hbb⟩:∃ bb,decide (u.ws=t.ws)=bb:=⟨_,rfl⟩;rw[hbb] at uL;have qP:=Lib.hid hbb;clear hbb;cases bb with
   | true =>
    go_wp2_with (fail)
    refine(uL.out _ (HS.out.alloc _)).mono ?_;rintro e w3 ⟨rfl,hs3⟩;have dX:=Lib.hid hs3;clear hs3;go_wp2;go_ret;refine⟨?_,(aW.out.trans (HS.out.alloc _) (fun _ _ h=>h)).trans dX.out (fun _ _ h=>h)⟩
    have:t.ws∈ts.map Tb.ws:=List.mem_map.2 ⟨u,List.mem_of_getElem? HU.out,of_decide_eq_true qP.out⟩
    exact gT (by simpa using this)
   | false =>
    go_wp2_with (fail)
    refine(uL.out _ (HS.out.alloc _)).mono ?_;rintro e w3 ⟨rfl,hs3⟩;have dX:=Lib.hid ((HS.out.alloc (.cells #[.int .i64 u.N,.slice u.A u.ws.length u.C] 108)).trans hs3 (fun _ _ h=>h));clear hs3;go_wp2;go_roundw
    case rel =>
     refine⟨k+1,by omega,by go_num,dX.out,fun v hv=>?_⟩;rw[List.take_add_one,HU.out] at hv;rcases List.mem_append.1 hv with hv | hv
     ·exact oZ.out v hv
     ·simp at hv;rw[hv];exact of_decide_eq_false qP.out
    case measure=>simp[intOf] <;> omega
  ·obtain rfl:k=ts.length:=by omega
   have hI:¬ ((ts.length:Nat):Int)<(ts.length:Int):=by omega
   go_wp2;go_ret;refine⟨gT ?_,aW.out.trans HS.out (fun _ _ h=>h)⟩
   have:t.ws∉ts.map Tb.ws:=fun hm=>by
    obtain⟨u,hu,he⟩:=List.mem_map.1 hm;exact oZ.out u (by rw[List.take_length];exact hu) he
   symm;apply decide_eq_false;simpa using this
def addN (l:List (List Nat)) (z:List Nat):List (List Nat):=if z∈l then l else l++[z]
def dW (zs:List (List Nat)):List (List Nat):=zs.foldl addN []
def ja (n:Nat) (zs:List (List Nat)) (v:Nat):List (List Nat):=zs.filter fun z=>sZ n z v
theorem xD (l:List (List Nat)) (z:List Nat):(addN l z).length≤l.length+1:=by unfold addN;split <;> simp
theorem TN.push (h:TN lo w n A C ts) (ht:TW w n t) {wb:World} {g cap:Nat} (hO:Go.Tk.Own wb 108 2 Tb.cells (some ⟨g,0,none⟩) (ts.length+1) cap (ts++[t])) (hg:w.grownBy wb (Value.slice A ts.length C).ownBlock)
  (hat:(Value.slice A ts.length C).ownBlock=some g∨g=w.heap.size) (hlo:lo≤w.heap.size):TN lo wb n (some ⟨g,0,none⟩) cap (ts++[t])∧∀ (w0:World),Same w0 w→w0.heap.size=lo→Same w0 wb:=by
 have kp:∀ u,TW w n u→TW wb n u:=fun u hu=>⟨hu.N,hu.own.gW hg (fun b hb hA=>h.own.aM hu.own (by decide) b (af.1 hb) hA),hu.fm,hu.sm⟩
 refine⟨⟨by rw[List.length_append];exact hO,fun u hu=>?_,bR ?_⟩,fun w0 hs hz=>hs.grown hg (fun g' hg'=>.inr ?_)⟩
 ·rcases List.mem_append.1 hu with hu | hu
  ·exact kp u (h.tw u hu)
  ·simp at hu;subst hu;exact kp _ ht
 ·rcases hat with h1 | h1
  ·exact h.fresh g (af.1 h1)
  ·omega
 ·rw[hz];exact h.fresh g' (af.1 hg')
theorem uw (hL:TL w n A ts) (hl:ts.length≤4300000000000) :
  Calls Tryz.prog 126 #[.slice A ts.length C] w fun e w'=>∃ A' C' us,e=.returned (.slice A' us.length C')∧TN w.heap.size w' n A' C' us∧us.map Tb.ws=dW (ts.map Tb.ws)∧us.length≤ts.length∧Same w w':=by
 have HL:=Lib.hid hL;clear hL;go_enter Tryz.func126,Tryz.ntmps126;go_wp2_with (fail)
 go_loopw [8,3] (fun i v wr=>∃ (k:Nat) (A':Option Addr) (C':Nat) (us:List Tb),k≤ts.length∧i=.int .i64 k∧v=.slice A' us.length C'∧TN w.heap.size wr n A' C' us∧us.map Tb.ws=dW ((ts.take k).map Tb.ws)∧us.length≤k∧Same w wr) (fun i _ _=>ts.length-(intOf i).toNat)
 case atStart=>exact⟨0,none,0,[],by omega,rfl,rfl,TN.nil _ _ _,rfl,Nat.le_refl _,ah.refl _ _⟩
 case round =>
  obtain⟨k,A',C',us,hk,rfl,rfl,hN,ny,sI,hS⟩:=hrel;by_cases hlt:k<ts.length
  ·obtain⟨t,ht⟩:∃ t,ts[k]?=some t:=⟨_,List.getElem?_eq_getElem hlt⟩;have hL:=HL.out.same hS;have uy:=hL.tw t (List.mem_of_getElem? ht);obtain⟨b,off,rfl,hb,c0,c1⟩:=hL.at ht;have hI:(k:Int)<(ts.length:Int):=by omega
   have hin:=fun w' (hw:Same wr w')=>oN (w:=w') (t:=t) (C:=C') (hN.tl.same hw) (uy.same hw) (by omega)
   have hstep:dW ((ts.take (k+1)).map Tb.ws)=addN (dW ((ts.take k).map Tb.ws)) t.ws:=by
    rw[List.take_add_one,ht];unfold dW;simp
   unfold Tb.val at hin;obtain⟨bb,hbb⟩:∃ bb,decide (t.ws∈us.map Tb.ws)=bb:=⟨_,rfl⟩;rw[hbb] at hin;have Bl:=Lib.hid hin;have HST:=Lib.hid hstep;have HN:=Lib.hid hN;have HU:=Lib.hid ny;have HS:=Lib.hid hS;have UX:=Lib.hid uy;have qP:=Lib.hid hbb;clear hL uy hin hstep hN ny hS ht hbb;go_upto_region 5 with fail
   refine ai fun w1 hw1=>?_
   have hX:=av.new wr 108 #[.int .i64 t.N,.slice t.A t.ws.length t.C];have hs1:Same wr w1:=by rw[hw1];exact(ah.refl _ _).alloc _
   rw[← hw1] at hX;clear hw1;have x0:=hX.cell 0;have x1:=hX.cell 1;have hxl:=hX.lt;simp at x0 x1;have HX:=Lib.hid hX;have aW:=Lib.hid hs1;clear hX hs1;go_wp2_with (fail)
   refine(Bl.out _ aW.out).mono ?_;rintro e w2 ⟨rfl,hs2⟩;have hX2:=HX.out.ag hs2 id;have HS2:=Lib.hid (aW.out.trans hs2 (fun _ _ h=>h));have x0:=hX2.cell 0;have x1:=hX2.cell 1;have XJ:=hX2.lt;simp at x0 x1;clear hX2 hs2 HX aW;cases bb with
   | true =>
    go_wp2;go_roundw
    case rel =>
     have e1:dW ((ts.take (k+1)).map Tb.ws)=us.map Tb.ws:=by
      rw[HST.out,← HU.out];unfold addN;rw[if_pos (of_decide_eq_true qP.out)]
     exact⟨k+1,A',C',us,by omega,by go_num,rfl,HN.out.same HS2.out,e1.symm,by omega,HS.out.trans HS2.out (fun _ _ h=>h)⟩
    case measure=>simp[intOf] <;> omega
   | false =>
    go_upto_region 6 with fail
    refine aR 2 ?_;simp only[List.take_succ_cons,List.take_zero,List.drop_succ_cons,List.drop_zero];repeat (any_goals (first | go_big_quiet_step (fail) | quiet_step (fail)))
    refine wpQuiet_nil ?_;refine wpList_plain rfl fun K hK=>?_
    go_simp;refine hK _ _ ?_;clear hK K;refine aK fun wa dJ=>?_
    have hM:=av.new w2 108 #[.int .i64 t.N,.slice t.A t.ws.length t.C];have hsa:Same wr wa:=by rw[dJ];exact HS2.out.alloc _
    rw[← dJ] at hM;clear dJ;have Nv:=HN.out.same hsa;refine Own.aI rfl (.tmp 16) (.tmp 18) _ rfl Tryz.underlying55 fe rfl (by omega) rfl Nv.own Tb.ak t w2.heap.size 1 rfl hM (by simp[Value.oneCell',Tb.cells]) (by unfold maxLen;omega) (by omega) ?_;intro gg cap wb hOb hgb hat;have hza:w.heap.size≤wa.heap.size:=(HS.out.trans hsa (fun _ _ h=>h)).size;have hp:=Nv.push (UX.out.same hsa) hOb hgb hat hza;have HP:=Lib.hid hp.1;have l7:=Lib.hid (hp.2 w (HS.out.trans hsa (fun _ _ h=>h)) rfl);clear hp hOb hgb hat Nv hsa hM;go_wp2;go_roundw
    case rel =>
     have e1:dW ((ts.take (k+1)).map Tb.ws)=(us++[t]).map Tb.ws:=by
      rw[HST.out,← HU.out];unfold addN;rw[if_neg (of_decide_eq_false qP.out)];simp
     exact⟨k+1,some ⟨gg,0,none⟩,cap,us++[t],by omega,by go_num,by rw[List.length_append];rfl,HP.out,e1.symm,by simp <;> omega,l7.out⟩
    case measure=>simp[intOf] <;> omega
  ·obtain rfl:k=ts.length:=by omega
   have hI:¬ ((ts.length:Nat):Int)<(ts.length:Int):=by omega
   have HN:=Lib.hid hN;have HU:=Lib.hid ny;have HS:=Lib.hid hS;clear hN ny hS;go_wp2;go_ret;exact⟨A',C',us,rfl,HN.out,by have:=HU.out;rwa [List.take_length] at this,sI,HS.out⟩
theorem FT (hL:TL w n A ts) (v:Nat) (hv:v<n) (hl:ts.length≤1000000000000) :
  Calls Tryz.prog 129 #[.slice A ts.length C,.int .i64 v] w fun e w'=>∃ A' C' us,e=.returned (.slice A' us.length C')∧TN w.heap.size w' n A' C' us∧us.map Tb.ws=ja n (ts.map Tb.ws) v∧us.length≤ts.length∧Same w w':=by
 have HL:=Lib.hid hL;clear hL;go_enter Tryz.func129,Tryz.ntmps129;go_wp2_with (fail)
 go_loopw [10,5] (fun i v' wr=>∃ (k:Nat) (A':Option Addr) (C':Nat) (us:List Tb),k≤ts.length∧i=.int .i64 k∧v'=.slice A' us.length C'∧TN w.heap.size wr n A' C' us∧us.map Tb.ws=ja n ((ts.take k).map Tb.ws) v∧us.length≤k∧Same w wr) (fun i _ _=>ts.length-(intOf i).toNat)
 case atStart=>exact⟨0,none,0,[],by omega,rfl,rfl,TN.nil _ _ _,rfl,Nat.le_refl _,ah.refl _ _⟩
 case round =>
  obtain⟨k,A',C',us,hk,rfl,rfl,hN,ny,sI,hS⟩:=hrel;by_cases hlt:k<ts.length
  ·obtain⟨t,ht⟩:∃ t,ts[k]?=some t:=⟨_,List.getElem?_eq_getElem hlt⟩;have hL:=HL.out.same hS;have uy:=hL.tw t (List.mem_of_getElem? ht);obtain⟨b,off,rfl,hb,c0,c1⟩:=hL.at ht;have hI:(k:Int)<(ts.length:Int):=by omega
   have hin:=fun w' (hw:Same wr w')=>qZ n v t.A t.C t.ws w' (by have:=(uy.same hw).ok;rw[show t=⟨t.N,t.A,t.C,t.ws⟩ from rfl,uy.N] at this;exact this) uy.fm hv
   have MG:=uy.N;have hstep:ja n ((ts.take (k+1)).map Tb.ws) v=if sZ n t.ws v then ja n ((ts.take k).map Tb.ws) v++[t.ws] else ja n ((ts.take k).map Tb.ws) v:=by
    rw[List.take_add_one,ht];unfold ja;rw[Option.toList_some,List.map_append,List.filter_append,List.map_singleton,List.filter_cons];split <;> simp
   obtain⟨bb,hbb⟩:∃ bb,sZ n t.ws v=bb:=⟨_,rfl⟩;rw[hbb] at hin hstep;rw[MG] at c0;have Bl:=Lib.hid hin;have HST:=Lib.hid hstep;have HN:=Lib.hid hN;have HU:=Lib.hid ny;have HS:=Lib.hid hS;have UX:=Lib.hid uy;have Ml:=Lib.hid MG;clear hL uy hin hstep hN ny hS ht hbb MG;go_upto_region 5 with fail
   refine ai fun w1 hw1=>?_
   have hX:=av.new wr 108 #[.int .i64 n,.slice t.A t.ws.length t.C];have hs1:Same wr w1:=by rw[hw1];exact(ah.refl _ _).alloc _
   rw[← hw1] at hX;clear hw1;have x0:=hX.cell 0;have x1:=hX.cell 1;have hxl:=hX.lt;simp at x0 x1;have HX:=Lib.hid hX;have aW:=Lib.hid hs1;clear hX hs1;go_wp2_with (fail)
   refine(Bl.out _ aW.out).mono ?_;rintro e w2 ⟨rfl,hs2⟩;have hX2:=HX.out.ag hs2 id;have HS2:=Lib.hid (aW.out.trans hs2 (fun _ _ h=>h));have x0:=hX2.cell 0;have x1:=hX2.cell 1;have XJ:=hX2.lt;simp at x0 x1;clear hX2 hs2 HX aW;cases bb with
   | false =>
    go_wp2;go_roundw
    case rel =>
     have e1:ja n ((ts.take (k+1)).map Tb.ws) v=us.map Tb.ws:=by rw[HST.out,if_neg (by simp),← HU.out]
     exact⟨k+1,A',C',us,by omega,by go_num,rfl,HN.out.same HS2.out,e1.symm,by omega,HS.out.trans HS2.out (fun _ _ h=>h)⟩
    case measure=>simp[intOf] <;> omega
   | true =>
    go_upto_region 6 with fail
    refine aR 2 ?_;simp only[List.take_succ_cons,List.take_zero,List.drop_succ_cons,List.drop_zero];repeat (any_goals (first | go_big_quiet_step (fail) | quiet_step (fail)))
    refine wpQuiet_nil ?_;refine wpList_plain rfl fun K hK=>?_
    go_simp;refine hK _ _ ?_;clear hK K;refine aK fun wa dJ=>?_
    have hM:=av.new w2 108 #[.int .i64 n,.slice t.A t.ws.length t.C];have hsa:Same wr wa:=by rw[dJ];exact HS2.out.alloc _
    rw[← dJ] at hM;clear dJ;have Nv:=HN.out.same hsa;refine Own.aI rfl (.tmp 17) (.tmp 19) _ rfl Tryz.underlying55 fe rfl (by omega) rfl Nv.own Tb.ak t w2.heap.size 1 rfl (by unfold Tb.cells;rw[Ml.out];exact hM) (by simp[Value.oneCell',Tb.cells]) (by unfold maxLen;omega) (by omega) ?_;intro gg cap wb hOb hgb hat;have hza:w.heap.size≤wa.heap.size:=(HS.out.trans hsa (fun _ _ h=>h)).size;have hp:=Nv.push (UX.out.same hsa) hOb hgb hat hza;have HP:=Lib.hid hp.1;have l7:=Lib.hid (hp.2 w (HS.out.trans hsa (fun _ _ h=>h)) rfl);clear hp hOb hgb hat Nv hsa hM;go_wp2;go_roundw
    case rel =>
     have e1:ja n ((ts.take (k+1)).map Tb.ws) v=(us++[t]).map Tb.ws:=by
      rw[HST.out,if_pos trivial,← HU.out];simp
     exact⟨k+1,some ⟨gg,0,none⟩,cap,us++[t],by omega,by go_num,by rw[List.length_append];rfl,HP.out,e1.symm,by simp <;> omega,l7.out⟩
    case measure=>simp[intOf] <;> omega
  ·obtain rfl:k=ts.length:=by omega
   have hI:¬ ((ts.length:Nat):Int)<(ts.length:Int):=by omega
   have HN:=Lib.hid hN;have HU:=Lib.hid ny;have HS:=Lib.hid hS;clear hN ny hS;go_wp2;go_ret;exact⟨A',C',us,rfl,HN.out,by have:=HU.out;rwa [List.take_length] at this,sI,HS.out⟩
end
end Go.Proofs.YtiomgckodmecbaaGreat
