/- Contracts and plain laws, put together in one file. No condition. -/
import Derived.Test.YtiomgckodmecbaaGreatJKernelRoom6
import Derived.Test.YtiomgckodmecbaaGreatProg
import Derived.Laws.BitsAllLaws
import Derived.BigRegion
import Derived.Shelf.Abstract

set_option maxRecDepth 100000
set_option maxHeartbeats 32000000
namespace Go.Proofs.YtiomgckodmecbaaGreat
open Go.RowKit Go.Tk
section
variable {k k0 k2:KS} {n m:Nd} {r q s:Int} {p:Int→Bool} {b b':Bool} {l x y:Nat} {ext:List Int} {X:List bN}
theorem rP (K:KI k) (h0:0≤r) (hh:k.hs.getD r.toNat 0≠0):Lf k r:=by
 obtain⟨n,hn⟩:=jL K.bk h0 hh;rw[List.append_nil] at hn;exact Lf.of K hn
end
abbrev Fn:=(Int→Bool)→Bool
def IZ (vs:List Int) (a p:Int→Bool):Int→Bool:=fun v=>if v∈vs then a v else p v
def Sub (ord:List Int) (H:Fn→Prop) (l:Nat) (g:Fn):Prop:=∃ h a,H h∧∀ p,g p=h (IZ (ord.take l) a p)
def HN (ord:List Int) (H:Fn→Prop) (l:Nat) (g:Fn):Prop:=Sub ord H l g∧∃ v p,ord[l]?=some v∧g (upd p v false)≠g (upd p v true)
def HF (k:KS):Fn→Prop:=fun h=>∃ r,0≤r∧k.hs.getD r.toNat 0≠0∧h=sem k.L r
section
variable {k k0 k2:KS} {n m:Nd} {r q s:Int} {p:Int→Bool} {b b':Bool} {l x y i:Nat} {g:Fn} {H:Fn→Prop} {ord ord':List Int}
theorem mO {v:Int} {l:Nat} (K:KI k):v∈k.ord.take l↔0≤v∧v<k.n∧bz k v<l:=by
 rw[List.mem_iff_getElem?];constructor
 ·rintro⟨i,hi⟩;rw[List.getElem?_take] at hi;split at hi
  ·rename_i hil;obtain⟨m,rfl,hm,_⟩:=K.lv.o2 i v hi
   have:=(K.lv.vK hi).2
   exact⟨by omega,by omega,by omega⟩
  ·cases hi
 ·rintro⟨v0,v1,hv⟩;obtain⟨i,e1,e2,e3⟩:=K.lv.dM v0 v1;exact⟨i,by rw[List.getElem?_take,if_pos (by omega)];exact e3⟩
theorem Pg (a p:Int→Bool):IZ [] a p=p:=by
 funext v;unfold IZ;rw[if_neg (List.not_mem_nil)]
theorem EC {vs:List Int} {a p:Int→Bool} {v:Int} (h:v∈vs):IZ vs a p v=a v:=if_pos h
theorem Gs {vs:List Int} {a p:Int→Bool} {v:Int} (h:v∉vs):IZ vs a p v=p v:=if_neg h
theorem BQ {vs:List Int} {a p:Int→Bool} {v:Int}:IZ (vs++[v]) a p=IZ vs a (upd p v (a v)):=by
 funext u;unfold IZ upd;by_cases h:u∈vs
 ·rw[if_pos (List.mem_append_left _ h),if_pos h]
 ·rw[if_neg h];by_cases h2:u=v
  ·rw[if_pos (by simp[h2]),if_pos h2,h2]
  ·rw[if_neg (by simp[h,h2]),if_neg h2]
theorem I1 (K:KI k) (hr:Lf k r) (a:Int→Bool):∀ l,l≤k.n→∃ q,Lf k q∧(l:Int)≤bn k q∧∀ p,sem k.L q p=sem k.L r (IZ (k.ord.take l) a p):=by
 intro l
 induction l with
 | zero =>
  intro _;obtain⟨d,e,_⟩:=eT K hr;exact⟨r,hr,by omega,fun p=>by rw[List.take_zero,Pg]⟩
 | succ l ih =>
  intro hl;obtain⟨q,hq,hd,hs⟩:=ih (by omega);obtain⟨v,hv⟩:∃ v,k.ord[l]?=some v:=⟨_,List.getElem?_eq_getElem (by rw[K.lv.ol];omega)⟩;have ht:k.ord.take (l+1)=k.ord.take l++[v]:=by rw[List.take_add_one,hv];rfl
  obtain⟨m,rfl,hm,_⟩:=K.lv.o2 l v hv;have hlv:=(K.lv.vK hv).2;obtain⟨d,e1,_,e3⟩:=eT K hq;by_cases hdl:d=l
  ·subst hdl;obtain⟨n,hn⟩:=e3.1 (by omega);have QG:n.v=m:=by
    obtain⟨c0,c1,_⟩:=K.bk.fo n q hn;refine zL K c0 c1 (by omega) (by omega) ?_;rw[hlv,← bG K hn,e1]
   have hkd:=EA (b:=a m) K hn;rw[QG,hlv] at hkd;refine⟨if a m then n.hi else n.lo,Lf.kid K hn,by omega,fun p=>?_⟩;rw[ht,BQ,← hs,iM K hn,QG,upd_same];cases a m with
   | false =>
    rw[if_neg (by decide),if_neg (by decide),jk K (Lf.lo K hn) (fun _ _=>by have:=bJ K hn (.inl rfl);rw[QG] at this;exact this)]
   | true =>
    rw[if_pos rfl,if_pos rfl,jk K (Lf.hi K hn) (fun _ _=>by have:=bJ K hn (.inr rfl);rw[QG] at this;exact this)]
  ·refine⟨q,hq,by omega,fun p=>?_⟩;rw[ht,BQ,← hs,jk K hq (fun _ _=>by rw[hlv];omega)]
theorem yI (K:KI k) (hq:Lf k q) {v:Int} (v0:0≤v) (v1:v<k.n) (hp:sem k.L q (upd p v false)≠sem k.L q (upd p v true)):bn k q≤bz k v∧∃ n,(n,q)∈k.L:=by
 have h1:bn k q≤bz k v:=by
  refine Classical.byContradiction (fun hno=>hp ?_);rw[jk K hq (fun _ _=>by omega),jk K hq (fun _ _=>by omega)]
 refine⟨h1,?_⟩;obtain⟨d,e1,_,e3⟩:=eT K hq;obtain⟨i,e4,e5,_⟩:=K.lv.dM v0 v1;exact e3.1 (by omega)
theorem Ph (K:KI k):∀ (f:Nat) (n:Nd) (q:Int),(n,q)∈k.L→bz k n.v≤(f:Nat)→∃ r a,(0≤r∧k.hs.getD r.toNat 0≠0)∧∀ p,sem k.L q p=sem k.L r (IZ (k.ord.take (bz k n.v).toNat) a p):=by
 intro f;have base:∀ (n:Nd) (q:Int),(n,q)∈k.L→∀ a p,sem k.L q p=sem k.L q (IZ (k.ord.take (bz k n.v).toNat) a p):=by
  intro n q hn a p;refine Gr K (Lf.of K hn) (fun v v0 v1 hv=>?_);rw[bG K hn] at hv;refine(Gs (fun hm=>?_)).symm
  have:=((mO K).1 hm).2.2
  obtain⟨c0,c1,_⟩:=K.bk.fo n q hn;obtain⟨i,e1,_⟩:=K.lv.dM c0 c1;omega
 induction f with
 | zero =>
  intro n q hn hf;have hpos:=K.pos n q hn;obtain⟨hu,_⟩:=K.bk.KY (List.mem_append_left [] hn);by_cases hh:k.hs.getD q.toNat 0=0
  ·exfalso;rw[hu,if_pos hh,List.count_nil] at hpos;have h3:0<par k.L q:=by omega
   obtain⟨e,he,heq⟩:∃ e∈k.L,e.1.lo=q∨e.1.hi=q:=by
    refine Classical.byContradiction (fun hno=>?_)
    have:=gJ.2 (fun p hp=>⟨fun e=>hno ⟨p,hp,.inl e⟩,fun e=>hno ⟨p,hp,.inr e⟩⟩:∀ p∈k.L,p.1.lo≠q∧p.1.hi≠q)
    omega
   have h4:=bJ (q:=q) K (n:=e.1) (r:=e.2) he (by rcases heq with h | h;exact .inl h.symm;exact .inr h.symm);rw[bG K hn] at h4;obtain⟨c0,c1,_⟩:=K.bk.fo e.1 e.2 he;obtain⟨i,e4,_⟩:=K.lv.dM c0 c1;omega
  ·exact⟨q,fun _=>false,⟨by have:=(K.mem' hn).1;omega,hh⟩,base n q hn _⟩
 | succ f ih =>
  intro n q hn hf;have hpos:=K.pos n q hn;obtain⟨hu,_⟩:=K.bk.KY (List.mem_append_left [] hn);by_cases hh:k.hs.getD q.toNat 0=0
  ·rw[hu,if_pos hh,List.count_nil] at hpos;have h3:0<par k.L q:=by omega
   obtain⟨e,he,heq⟩:∃ e∈k.L,e.1.lo=q∨e.1.hi=q:=by
    refine Classical.byContradiction (fun hno=>?_)
    have:=gJ.2 (fun p hp=>⟨fun e=>hno ⟨p,hp,.inl e⟩,fun e=>hno ⟨p,hp,.inr e⟩⟩:∀ p∈k.L,p.1.lo≠q∧p.1.hi≠q)
    omega
   obtain⟨⟨m,t⟩,hme⟩:∃ x,x=e:=⟨e,rfl⟩;subst hme;simp only at heq;have h4:=bJ (q:=q) K he (by rcases heq with h | h;exact .inl h.symm;exact .inr h.symm);rw[bG K hn] at h4;obtain⟨c0,c1,_⟩:=K.bk.fo m t he;obtain⟨i,e4,e5,e6⟩:=K.lv.dM c0 c1;obtain⟨r,a,hr,hs⟩:=ih m t he (by omega);rw[e4,Int.toNat_natCast] at hs;obtain⟨b,hb⟩:∃ b:Bool,q=if b then m.hi else m.lo:=by
    rcases heq with h | h
    ·exact⟨false,h.symm⟩
    ·exact⟨true,h.symm⟩
   obtain⟨a',ha'⟩:∃ a':Int→Bool,a'=fun v=>if v∈k.ord.take i then a v else b:=⟨_,rfl⟩
   have J4:m.v∉k.ord.take i:=fun h=>by have:=((mO K).1 h).2.2;omega
   have hmn:m.v∈k.ord.take (bz k n.v).toNat:=(mO K).2 ⟨c0,c1,by omega⟩;refine⟨r,a',hr,fun p=>?_⟩;rw[base n q hn a' p];obtain⟨p',hp'⟩:∃ p',IZ (k.ord.take (bz k n.v).toNat) a' p=p':=⟨_,rfl⟩;rw[hp'];have e7:IZ (k.ord.take i) a p'=p':=by
    funext v;by_cases hv:v∈k.ord.take i
    ·rw[EC hv,← hp',EC ((mO K).2 (by have:=(mO K).1 hv;exact⟨this.1,this.2.1,by omega⟩)),ha'];exact(if_pos hv).symm
    ·rw[Gs hv]
   have e8:p' m.v=b:=by
    rw[← hp',EC hmn,ha'];exact if_neg J4
   rw[← e7,← hs,iM K he,e7,e8,hb];cases b <;> rfl
  ·exact⟨q,fun _=>false,⟨by have:=(K.mem' hn).1;omega,hh⟩,base n q hn _⟩
theorem jA (K:KI k) (hl:l<k.n):HN k.ord (HF k) l g↔∃ n r,(n,r)∈k.L∧bz k n.v=l∧g=sem k.L r:=by
 constructor
 ·rintro⟨⟨h,a,⟨r,r0,hr,rfl⟩,hg⟩,v,p,hv,hp⟩;obtain⟨q,hq,hd,hs⟩:=I1 K (rP K r0 hr) a l (by omega);obtain rfl:g=sem k.L q:=by funext p;rw[hg,hs]
  obtain⟨m,rfl,hm,_⟩:=K.lv.o2 l v hv;have hlv:=(K.lv.vK hv).2;obtain⟨h1,n,hn⟩:=yI K hq (by omega) (by omega) hp;refine⟨n,q,hn,?_,rfl⟩;rw[bG K hn] at hd h1;omega
 ·rintro⟨n,r,hn,hlv,rfl⟩;obtain⟨s,a,⟨s0,hs0⟩,hs⟩:=Ph K k.n n r hn (by omega);rw[hlv,Int.toNat_natCast] at hs;obtain⟨p,hp⟩:=BP K hn;obtain⟨c0,c1,_⟩:=K.bk.fo n r hn;obtain⟨i,e4,e5,e6⟩:=K.lv.dM c0 c1;obtain rfl:i=l:=by omega
  exact⟨⟨_,a,⟨s,s0,hs0,rfl⟩,hs⟩,n.v,p,e6,hp⟩
end
section
variable {k k' k0 k1 k2:KS} {n m:Nd} {r q s:Int} {p:Int→Bool} {b b':Bool} {l x y i:Nat} {g:Fn} {H:Fn→Prop} {ord ord':List Int}
theorem vU (K:KI k):(k.L.map fun e=>sem k.L e.2).Nodup:=by
 have h1:=K.bk.rn;rw[List.append_nil] at h1;rw[List.Nodup,List.pairwise_map] at h1 ⊢;refine h1.imp_of_mem (fun {a b} ha hb hab he=>hab ?_);exact canon K (Lf.of (n:=a.1) K ha) (Lf.of (n:=b.1) K hb) (fun p=>congrFun he p)
theorem ED {α:Type} {l m:List α} (hl:l.Nodup) (hm:m.Nodup) (h:∀ a,a∈l↔a∈m):l.length=m.length:=by
 classical
 exact Nat.le_antisymm (gm hl (fun a ha=>(h a).1 ha)) (gm hm (fun a ha=>(h a).2 ha))
theorem I4 (K:KI k) (K':KI k') (hn:k'.n=k.n) (ho:k'.ord=k.ord) (hh:∀ g,HF k' g↔HF k g):k'.L.length=k.L.length∧k'.ac=k.ac:=by
 have e:∀ i,∀ g,HN k'.ord (HF k') i g↔HN k.ord (HF k) i g:=by
  intro i g;rw[ho];unfold HN Sub;simp only[hh]
 have hlen:k'.L.length=k.L.length:=by
  have:=ED (vU K') (vU K) (fun g=>by
   rw[List.mem_map,List.mem_map];constructor
   ·rintro⟨a,ha,rfl⟩;obtain⟨c0,c1,_⟩:=K'.bk.fo a.1 a.2 ha;obtain⟨i,e1,e2,_⟩:=K'.lv.dM c0 c1;obtain⟨n,r,hn',_,h2⟩:=(jA K (by omega)).1 ((e i _).1 ((jA K' e2).2 ⟨a.1,a.2,ha,e1,rfl⟩));exact⟨(n,r),hn',h2.symm⟩
   ·rintro⟨a,ha,rfl⟩;obtain⟨c0,c1,_⟩:=K.bk.fo a.1 a.2 ha;obtain⟨i,e1,e2,_⟩:=K.lv.dM c0 c1;obtain⟨n,r,hn',_,h2⟩:=(jA K' (by omega)).1 ((e i _).2 ((jA K e2).2 ⟨a.1,a.2,ha,e1,rfl⟩))
    exact⟨(n,r),hn',h2.symm⟩)
  rwa [List.length_map,List.length_map] at this
 have h1:=K.bk.cnt;have h2:=K'.bk.cnt;rw[List.append_nil] at h1 h2;exact⟨hlen,by omega⟩
end
theorem uq (n:Nat):(2:Int) ^ n=((2 ^ n:Nat):Int):=by simp
def oH (x:Nat):List Value:=[.int .u64 (x:Int)]
theorem jB (x:Nat):(oH x).length=1:=rfl
abbrev WL (w:World) (A:Option Addr) (n:Nat) (ws:List Nat):Prop:=Sl w 1 oH A n ws
abbrev dN (w:World) (A:Option Addr) (n C:Nat) (ws:List Nat):Prop:=Go.Tk.Own w 123 1 oH A n C ws
theorem WL.dQ {w:World} {A:Option Addr} {n:Nat} {ws:List Nat} (h:WL w A n ws) {i:Nat} {x:Nat} (hi:ws[i]?=some x):∃ b off,A=some ⟨b,off,none⟩∧b<w.heap.size∧w.cell? ⟨b,off+i,none⟩=some (.int .u64 x):=by
 obtain⟨b,off,h1,h2,h3⟩:=h.get i x hi;refine⟨b,off,h1,h2,?_⟩
 have:=h3 0 (by omega)
 simpa [oH] using this
def Small (ws:List Nat):Prop:=∀ x∈ws,x<18446744073709551616
theorem Small.dQ {ws:List Nat} (h:Small ws) {i x:Nat} (hi:ws[i]?=some x):x<18446744073709551616:=h x (List.mem_of_getElem? hi)
def ag (N:Int) (ws:List Nat):Bool:=decide (0≤N∧N≤16∧ws.length=nw N.toNat)&&(decide (6≤N)||decide (ws.getD 0 0<2 ^ 2 ^ N.toNat))
structure Tb where
 N:Int
 A:Option Addr
 C:Nat
 ws:List Nat
def Tb.val (t:Tb):Value:=.agg #[.int .i64 t.N,.slice t.A t.ws.length t.C]
def Tb.ag (t:Tb):Bool:=Proofs.YtiomgckodmecbaaGreat.ag t.N t.ws
structure I5 (w:World) (t:Tb):Prop where
 wl:WL w t.A t.ws.length t.ws
 small:Small t.ws
theorem I5.same {w w':World} {t:Tb} (h:I5 w t) (hs:Same w w'):I5 w' t:=⟨Sl.same h.wl hs,h.small⟩
def fm (ts:List Tb):Bool:=ts.all fun t=>t.ag&&(t.N == (ts.getD 0 ⟨0,none,0,[]⟩).N)
def xN (w:World) (ws:List Nat) (A:Option Addr) (C:Nat) (w':World):Prop:=dN w' A ws.length C ws∧bQ w.heap.size A∧Same w w'
def EE (w:World) (N:Int) (ws:List Nat) (e:Ending) (w':World):Prop:=∃ A C,e=.returned (.agg #[.int .i64 N,.slice A ws.length C])∧xN w ws A C w'
theorem xN.wl {w w':World} {ws:List Nat} {A:Option Addr} {C:Nat} (h:xN w ws A C w'):WL w' A ws.length ws:=h.1.sl jB
theorem BR:(Tryz.prog.info? 123).map (fun i=>(i.zero,i.size,i.bytes))=some (some (.int .u64 0),1,8):=by kernel_rfl
theorem EF (x k:Nat):x.testBit k=decide (x / 2 ^ k%2=1):=by
 rw[Nat.testBit_eq_decide_div_mod_eq]
theorem L9 {n:Nat} {g:Nat→Nat} {F:Nat→Bool} (h:∀ k,k<nw n→∀ j,j<64→64*k+j<2 ^ n→(g k).testBit j=F (64*k+j)):((List.range (nw n)).map fun i=>g i&&& sI n)=tab n F:=by
 unfold tab;apply List.map_congr_left;intro k hk;exact Hy (List.mem_range.1 hk) (h k (List.mem_range.1 hk))
def BS (n:Int) (e:Int):Int:=if e=0 then n else 0
def I6 (ws:List Nat) (e:Int):List Nat:=if e=0 then ws else []
theorem Gt {ws:List Nat} {k x j:Nat} (h:ws[k]?=some x) (hj:j<64):vb ws (64*k+j)=x.testBit j:=by
 unfold vb;rw[show(64*k+j) / 64=k by omega,show(64*k+j)%64=j by omega,List.getD_eq_getElem?_getD,h];rfl
theorem Gu {ws:List Nat} {k x:Nat} (h:ws[k]?=some x):ws.getD k 0=x:=by rw[List.getD_eq_getElem?_getD,h];rfl
def kU (v:Nat) (b:Bool) (ws:List Nat):Nat→Bool:=fun i=>vb ws (tT i v b)
theorem Small.getD {ws:List Nat} (h:Small ws) (i:Nat):ws.getD i 0<18446744073709551616:=by
 rw[List.getD_eq_getElem?_getD];cases hx:ws[i]? with
 | none=>simp
 | some x=>exact h.dQ hx
theorem BU {v x:Nat} {b:Bool} (hx:x<18446744073709551616):oo v b x<18446744073709551616:=by
 unfold oo;have h1:x&&& kg (fun j=>j.testBit v) 64<2 ^ 64:=Nat.lt_of_le_of_lt Nat.and_le_left hx;have h2:x&&& (18446744073709551615-kg (fun j=>j.testBit v) 64)<2 ^ 64:=Nat.lt_of_le_of_lt Nat.and_le_left hx;split
 ·exact Nat.or_lt_two_pow (n:=64) h1 (Nat.lt_of_le_of_lt (Nat.div_le_self _ _) h1)
 ·exact Nat.or_lt_two_pow (n:=64) h2 (Nat.mod_lt _ (by decide))
theorem BV {v i:Nat} {b:Bool} {ws:List Nat} (h:Small ws):ou v b ws i<18446744073709551616:=by
 unfold ou;split
 ·exact h.getD _
 ·exact BU (h.getD _)
theorem I7 {n v k j:Nat} {b:Bool} {ws:List Nat} (hf:lU n ws) (hk:k<nw n) (hv:v<n) (hj:j<64):(ou v b ws k).testBit j=kU v b ws (64*k+j):=by
 unfold ou kU;by_cases h6:6≤v
 ·rw[if_pos h6,KE b hj h6];have h0:nw n=2 ^ (n-6):=by unfold nw;rw[if_neg (by omega)]
  have hil:tT k (v-6) b<ws.length:=by
   rw[hf.len,h0];rw[h0] at hk;exact uO hk (by omega)
  rw[Gu (List.getElem?_eq_getElem hil),Gt (List.getElem?_eq_getElem hil) hj]
 ·have hkl:k<ws.length:=by rw[hf.len];exact hk
  rw[if_neg h6,Ot b hj (by omega),Gu (List.getElem?_eq_getElem hkl),x9 b (by omega) hj,Gt (List.getElem?_eq_getElem hkl) (uO (n:=6) hj (by omega))]
end Go.Proofs.YtiomgckodmecbaaGreat
namespace Go.Tk
def vals (M:Nat) (F:Nat→Bool):List Bool:=(List.range M).map F
theorem BX {M i:Nat} {F:Nat→Bool} (h:i<M):(vals M F)[i]?=some (F i):=by simp[vals,h]
end Go.Tk
namespace Go.Proofs.YtiomgckodmecbaaGreat
open Go.RowKit Go.Tk
abbrev Ma (w:World) (A:Option Addr) (N C:Nat) (bs:List Bool):Prop:=Row1 w 4 (fun b:Bool=>.bool b) A N C bs
abbrev BL (w:World) (A:Option Addr) (n:Nat) (bs:List Bool):Prop:=Sl w 1 (fun b:Bool=>[.bool b]) A n bs
theorem BL.dQ {w:World} {A:Option Addr} {n:Nat} {bs:List Bool} (h:BL w A n bs) {i:Nat} {x:Bool} (hi:bs[i]?=some x):∃ b off,A=some ⟨b,off,none⟩∧b<w.heap.size∧w.cell? ⟨b,off+i,none⟩=some (.bool x):=by
 obtain⟨b,off,h1,h2,h3⟩:=h.get i x hi;refine⟨b,off,h1,h2,?_⟩
 have:=h3 0 (by omega)
 simpa using this
theorem Pj (x r:Nat):(((x / 2 ^ r%2:Nat):Int) == 1)=x.testBit r:=by
 rw[EF,Bool.eq_iff_iff,beq_iff_eq,decide_eq_true_eq];omega
theorem EG (n:Nat) (w:World) (h:n≤16):Calls Tryz.prog 123 #[.int .i64 n] w fun e w'=>e=.returned (.int .i64 (nw n:Nat))∧w=w':=by
 by_cases h6:n≤6
 ·have hn:nw n=1:=by unfold nw;rw[if_pos h6]
  rw[hn];have h6i:(n:Int)≤6:=by omega
  clear hn;go_enter Tryz.func123,Tryz.ntmps123;go_wp2;go_ret;exact⟨rfl,rfl⟩
 ·obtain⟨m,rfl⟩:∃ m,n=m+6:=⟨n-6,by omega⟩;have hn:nw (m+6)=2 ^ m:=by unfold nw;rw[if_neg h6,Nat.add_sub_cancel]
  have hp:(2:Nat) ^ m≤2 ^ 16:=Nat.pow_le_pow_right (by omega) (by omega);have h2:(2:Int) ^ m=((2 ^ m:Nat):Int):=by rw[Int.natCast_pow];rfl
  have hw:IntKind.i64.wrap ((2:Int) ^ m)=((2 ^ m:Nat):Int):=by
   rw[h2];generalize 2 ^ m=z at *
   exact IntWalk.i64_in _ (by omega)
  have hw1:IntKind.i64.wrap (((m+6:Nat):Int)-6)=(m:Int):=by
   rw[show((m+6:Nat):Int)-6=(m:Int) by omega];exact IntWalk.i64_in _ (by omega)
  rw[hn];have h6i:¬ ((m+6:Nat):Int)≤6:=by omega
  have h60:(0:Int)≤m:=by omega
  obtain⟨z,hz⟩:∃ z:Nat,z=2 ^ m:=⟨_,rfl⟩;rw[← hz] at hw ⊢;have xO:min m 64=m:=by omega
  have hw2:wrap64 ((2:Int) ^ m)=(z:Int):=by rw[← hw];simp[IntKind.wrap_i64,wrap64]
  clear hn h2 hp hz;obtain⟨y,hy⟩:∃ y:Nat,y=m+6:=⟨_,rfl⟩;rw[← hy] at hw1 h6i ⊢;clear hy h6 h;go_enter Tryz.func123,Tryz.ntmps123;go_wp2;go_ret;exact⟨rfl,rfl⟩
theorem vV (n C:Nat) (A:Option Addr) (F:Nat→Bool) (w:World) (hn:n≤16) (h:BL w A (2 ^ n) (vals (2 ^ n) F)) :
  Calls Tryz.prog 101 #[.int .i64 n,.slice A (2 ^ n) C] w (EE w n (tab n F)):=by
 have hmk:=fun w=>eZ (P:=Tryz.prog) Tryz.underlying74 BR .i64 .i64 (nw n) (show 8*nw n≤281474976710656 by have:=iD hn;omega) (show nw n≤9223372036854775807 by have:=iD hn;omega) w
 have hnl:=iD hn;have hwd:=fun w=>EG n w hn
 have Tc:=AQ hn;have hfull:=Hz n F;have hdl:∀ i,i<2 ^ n→i / 64<nw n:=fun i hi=>qP hi
 have hput:∀ k,k<2 ^ n→F k=true→∃ x,(Tk.part n F k)[k / 64]?=some x∧x+2 ^ (k%64)<18446744073709551616∧(Tk.part n F k).set (k / 64) (x+2 ^ (k%64))=Tk.part n F (k+1):=fun k hk hF =>
  ⟨_,uN (qP hk),by rw[AV hk hF];exact word_lt _ _ _,Kz hk hF⟩
 have hsame:∀ k,F k=false→Tk.part n F (k+1)=Tk.part n F k:=fun k hF=>H7 hF
 have hz:=H6 n F;have hll:=mE n F;obtain⟨W,hW⟩:∃ W,tab n F=W:=⟨_,rfl⟩;rw[hW] at hfull ⊢;have hWl:W.length=nw n:=by rw[← hW];exact ze n F
 obtain⟨K,hK⟩:∃ K,nw n=K:=⟨_,rfl⟩;rw[hK] at hmk hnl hwd hdl hz hll hWl;obtain⟨M,hM⟩:∃ M,2 ^ n=M:=⟨_,rfl⟩;rw[hM] at Tc hfull hdl hput h ⊢;have Xy:=Lib.hid hfull;have Dr:=Lib.hid hdl;have aaP:=Lib.hid hput;have Xz:=Lib.hid hsame;have HZ:=Lib.hid hz;have NZ:=Lib.hid hll;have Dt:=Lib.hid hWl;have Pk:=Lib.hid hwd;have H:=Lib.hid h;clear hM hK hW hfull hdl hput hsame hz hll hWl hwd h;go_enter Tryz.func101,Tryz.ntmps101;go_wp2_with (fail)
 refine ek fun w1 hw1=>?_
 refine(Pk.out w1).mono ?_;rintro e w2 ⟨rfl,rfl⟩;go_upto_region 2 with fail
 refine ai fun wb hwb=>?_
 subst hw1;have hsb:Same w wb:=by rw[hwb];exact(((ah.refl _ _).alloc _).alloc _).alloc _
 have fV:ax wb w.heap.size 108 #[.int .i64 0,.slice none 0 0]:=by rw[hwb];exact((ax.new w _ _).alloc _).alloc _
 have uu:ax wb (w.heap.size+1+1) 108 #[.int .i64 n,.slice (some ⟨w.heap.size+1,0,none⟩) K K]:=by
  rw[hwb]
  have:=ax.new ((w.alloc (.cells #[.int .i64 0,.slice none 0 0] 108)).alloc (.cells (madeCells #[.int .u64 0] K) 123)) 108 #[.int .i64 n,.slice (some ⟨w.heap.size+1,0,none⟩) K K]
  simpa using this
 have BZ:dN wb (some ⟨w.heap.size+1,0,none⟩) K K (Tk.part n F 0):=by
  rw[hwb,HZ.out]
  have:=Own.mh (m:=1) (w.alloc (.cells #[.int .i64 0,.slice none 0 0] 108)) 123 oH (fun _=>rfl) (by decide) 0 K (show K≤9223372036854775807 by omega) rfl
  have h2:=Own.ag this ((ah.refl (fun _=>False) _).alloc (.cells #[.int .i64 n,.slice (some ⟨w.heap.size+1,0,none⟩) K K] 108)) (fun _ _=>id);simpa [oH] using h2
 clear hwb hmk;obtain⟨T,hT⟩:∃ T,w.heap.size+1+1=T:=⟨_,rfl⟩;rw[hT] at uu ⊢;obtain⟨D,hD⟩:∃ D,w.heap.size+1=D:=⟨_,rfl⟩;rw[hD] at uu BZ ⊢;have aaQ:D≠T:=by omega
 have acz:w.heap.size≠T:=by omega
 have Td:w.heap.size≠D:=by omega
 have Pm:w.heap.size≤D:=by omega
 have hwT:w.heap.size≤T:=by omega
 clear hD hT;have bP:=Lib.hid fV;have Du:=Lib.hid uu;have zN:=Lib.hid BZ;have kS:=Lib.hid hsb;clear fV uu BZ hsb;go_wp2;go_loopw [6] (fun i wr=>∃ k:Nat,k≤M∧i=.int .i64 k∧Same w wr∧ax wr w.heap.size 108 #[.int .i64 0,.slice none 0 0]∧ax wr T 108 #[.int .i64 n,.slice (some ⟨D,0,none⟩) K K]∧dN wr (some ⟨D,0,none⟩) K K (Tk.part n F k)) (fun i _=>M-(intOf i).toNat)
 case atStart=>exact⟨0,by omega,rfl,kS.out,bP.out,Du.out,zN.out⟩
 case round =>
  clear bP Du zN kS;obtain⟨k,hk,rfl,hs,fV,uu,BZ⟩:=hrel;by_cases hlt:k<M
  ·have hk1:(k:Int)<M:=by omega
   have hk0:(0:Int)≤k:=by omega
   obtain⟨v,hv⟩:∃ v,F k=v:=⟨_,rfl⟩;obtain⟨bq,acA,hA,hbl,hcq⟩:=BL.dQ (Sl.same H.out hs) (show(vals M F)[k]?=some v by rw[BX hlt,hv]);subst hA;cases v with
   | true =>
    obtain⟨x,hx,hxl,hxs⟩:=aaP.out k hlt hv;have hdk:=Dr.out k hlt;have hst:=fun (w':World) (hs':Same wr w')=>Own.l5 (c:=fun x:Nat=>.int .u64 (x:Int)) (Own.ag BZ hs' (fun _ _=>id)) (i:=k / 64) (by rw[NZ.out];exact hdk) (x+2 ^ (k%64))
    rw[hxs] at hst;obtain⟨sb,hsb,hDl,Ke⟩:=BZ.dQ (c:=fun x:Nat=>.int .u64 (x:Int)) hx;injection hsb with hsb
    injection hsb with hsb
    subst hsb;have xO:min (k%64) 64=k%64:=by omega
    have hkk:k%64<64:=by omega
    have hn1:(k:Int) / 64=((k / 64:Nat):Int):=by omega
    have hn2:(k:Int)%64=((k%64:Nat):Int):=by omega
    have h2p:(2:Int) ^ (k%64)=((2 ^ (k%64):Nat):Int):=uq _;have HS:=Lib.hid hs;have Te:=Lib.hid fV;have Tf:=Lib.hid uu;have zN:=Lib.hid BZ;have HST:=Lib.hid hst;have hcT:wr.cell? ⟨T,1,none⟩=some (.slice (some ⟨D,0,none⟩) K K):=uu.cell 1;have ZH:=uu.lt;clear hs fV uu BZ hst hx hxs hv;generalize k%64=r at *
    generalize k / 64=qq at *
    generalize 2 ^ r=p at *
    have hsw:wrap64 ((2:Int) ^ r)=wrap64 (p:Int):=by rw[h2p]
    have aaR:IntKind.u64.wrap ((2:Int) ^ r)=(p:Int):=by rw[h2p];exact IntWalk.u64_in _ (by omega)
    have hsum:IntKind.u64.wrap ((x:Int)+p)=((x+p:Nat):Int):=by rw[IntWalk.u64_in _ (by omega)];simp
    have hqk:(qq:Int)<K:=by omega
    have hq0:(0:Int)≤qq:=by omega
    clear h2p;go_upto_region 6 with fail
    refine dZ 11 (by kernel_rfl) (by kernel_rfl) ?_;simp only[List.take_succ_cons,List.take_zero,List.drop_succ_cons,List.drop_zero];repeat (any_goals (first | go_big_quiet_step (fail) | quiet_step (fail)))
    refine wpQuiet_nil ?_;rintro wz ⟨q,hq⟩;have hsz:Same wr wz:=by rw[hq];exact az _ q
    have hfz:=Own.free (Own.ag zN.out hsz (fun _ _=>id)) qq;have hcz:=(hsz.cell (p:=⟨D,qq,none⟩) hDl id).trans Ke;have tJ:=Lib.hid ((HS.out.trans hsz (fun _ _ h=>h)).aj (g:=D) qq (.int .u64 ((x+p:Nat):Int)) Pm);have zO:=Lib.hid ((Te.out.ag hsz id).far (p:=⟨D,qq,none⟩) Td (.int .u64 ((x+p:Nat):Int)));have zP:=Lib.hid ((Tf.out.ag hsz id).far (p:=⟨D,qq,none⟩) (Ne.symm aaQ) (.int .u64 ((x+p:Nat):Int)));have Pn:=Lib.hid (HST.out wz hsz);have ZT:D<wz.heap.size:=by have:=hsz.size;omega
    clear hq hsz Ke hDl hcT ZH hcq hbl xO hn1 hn2 hsw aaR;go_wp2;go_roundw
    case rel=>exact⟨k+1,by omega,by go_num,tJ.out,zO.out,zP.out,Pn.out⟩
    case measure=>simp[intOf] <;> omega
   | false =>
    have hsm:=Xz.out k hv;have HS:=Lib.hid hs;have Te:=Lib.hid fV;have Tf:=Lib.hid uu;rw[← hsm] at BZ;have zN:=Lib.hid BZ;clear hs fV uu BZ hv hsm;go_wp2;go_roundw
    case rel=>exact⟨k+1,by omega,by go_num,HS.out,Te.out,Tf.out,zN.out⟩
    case measure=>simp[intOf] <;> omega
  ·obtain rfl:k=M:=by omega
   rw[Xy.out] at BZ;have HS:=Lib.hid hs;have bP:=Lib.hid fV;have Du:=Lib.hid uu;have zN:=Lib.hid BZ;have acB:wr.cell? ⟨T,0,none⟩=some (.int .i64 n):=uu.cell 0;have hcT:wr.cell? ⟨T,1,none⟩=some (.slice (some ⟨D,0,none⟩) K K):=uu.cell 1;have ZH:=uu.lt;have hRl:=fV.lt;have XA:=fV.free 0;have XB:=fV.free 1;have XC:wr.cell? ⟨w.heap.size,0,none⟩=some (.int .i64 0):=fV.cell 0;have XD:wr.cell? ⟨w.heap.size,1,none⟩=some (.slice none 0 0):=fV.cell 1;clear hs fV uu BZ;go_wp2;refine bE fun we bY=>?_
   have dx:ax we w.heap.size 108 #[.int .i64 n,.slice (some ⟨D,0,none⟩) K K]:=by
    rw[bY]
    have:=(bP.out.set 0 (.int .i64 n)).set 1 (.slice (some ⟨D,0,none⟩) K K)
    simpa using this
   have xP:dN we (some ⟨D,0,none⟩) K K W:=by
    rw[bY];exact(Own.far (p:=⟨w.heap.size,0,none⟩) zN.out (fun a ha h=>by injection ha with ha;subst ha;exact Td h.symm) _).far (p:=⟨w.heap.size,1,none⟩) (fun a ha h=>by injection ha with ha;subst ha;exact Td h.symm) _
   have jl:Same w we:=by rw[bY];exact(HS.out.aj 0 _ (Nat.le_refl _)).aj 1 _ (Nat.le_refl _)
   have hc0:we.cell? ⟨w.heap.size,0,none⟩=some (.int .i64 n):=dx.cell 0;have hc1:we.cell? ⟨w.heap.size,1,none⟩=some (.slice (some ⟨D,0,none⟩) K K):=dx.cell 1;clear bY dx;refine bodyPost_ret (v:=.agg #[.int .i64 n,.slice (some ⟨D,0,none⟩) K K]) (by simp[results,Tryz.results101,go_sem,hc0,hc1]) rfl ?_;refine⟨some ⟨D,0,none⟩,K,by rw[Dt.out],?_,bR Pm,jl⟩;rw[Dt.out];exact xP
def sm (Na Nb:Int) (l7 Rb:List Nat):Bool:=decide (Na=Nb∧l7=Rb)
theorem fJ (Na:Int) (Aa:Option Addr) (La Ca:Nat) (l7:List Nat) (Nb:Int) (Ab:Option Addr) (Lb Cb:Nat) (Rb:List Nat) (w:World) (ha:WL w Aa La l7) (hb:WL w Ab Lb Rb) (hbd:La≤1000000000000000000) :
  Calls Tryz.prog 71 #[.agg #[.int .i64 Na,.slice Aa La Ca],.agg #[.int .i64 Nb,.slice Ab Lb Cb]] w fun e w'=>e=.returned (.bool (sm Na Nb l7 Rb))∧Same w w':=by
 have hla:=ha.len;have hlb:=hb.len;obtain⟨r,hr⟩:∃ r,sm Na Nb l7 Rb=r:=⟨_,rfl⟩;rw[hr];have HA:=Lib.hid ha;have HB:=Lib.hid hb;by_cases h1:Na=Nb
 ·by_cases h2:La=Lb
  ·subst h1 h2;have HR:=Lib.hid hr;have HLA:=Lib.hid hla;have O8:=Lib.hid hlb;clear hr hla hlb ha hb;go_enter Tryz.func71,Tryz.ntmps71;go_upto_region 1 with fail
   refine ai fun w1 hw1=>?_
   have hs1:Same w w1:=by rw[hw1];exact((ah.refl _ _).alloc _).alloc _
   have jO:ax w1 (w.heap.size) 108 #[.int .i64 Na,.slice Aa La Ca]:=by
    rw[hw1]
    have:=((ax.new w 108 #[.int .i64 Na,.slice Aa La Ca]).alloc (.cells #[.int .i64 Na,.slice Ab La Cb] 108))
    simpa using this
   have iN:ax w1 (w.heap.size+1) 108 #[.int .i64 Na,.slice Ab La Cb]:=by
    rw[hw1]
    have:=(ax.new (w.alloc (.cells #[.int .i64 Na,.slice Aa La Ca] 108)) 108 #[.int .i64 Na,.slice Ab La Cb])
    simpa using this
   clear hw1;obtain⟨Xb,Mc⟩:∃ b,w.heap.size+1=b:=⟨_,rfl⟩;rw[Mc] at iN ⊢;have XE:w.heap.size≤Xb:=by omega
   have Md:w.heap.size≠Xb:=by omega
   clear Mc;have XF:w1.cell? ⟨w.heap.size,0,none⟩=some (.int .i64 Na):=jO.cell 0;have Po:w1.cell? ⟨w.heap.size,1,none⟩=some (.slice Aa La Ca):=jO.cell 1;have ZU:=jO.lt;have XG:=jO.free 0;have XH:=jO.free 1;have Tg:=Lib.hid jO;have XJ:w1.cell? ⟨Xb,0,none⟩=some (.int .i64 Na):=iN.cell 0;have Pp:w1.cell? ⟨Xb,1,none⟩=some (.slice Ab La Cb):=iN.cell 1;have ZV:=iN.lt;have XK:=iN.free 0;have XL:=iN.free 1;have Ti:=Lib.hid iN;have aX:=Lib.hid hs1;clear hs1 jO iN;have HS:=Lib.hid aX.out;have ZW:=Lib.hid Tg.out;have HBb:=Lib.hid Ti.out;go_wp2;go_loopw [5] (fun i wr=>∃ k:Nat,k≤La∧i=.int .i64 k∧(∀ j x y,l7[j]?=some x→Rb[j]?=some y→j<k→x=y)∧Same w1 wr) (fun i _=>La-(intOf i).toNat)
   case atStart=>exact⟨0,by omega,rfl,fun j x y _ _ h=>by omega,ah.refl _ _⟩
   case round =>
    obtain⟨k,hk,rfl,hall,hs⟩:=hrel;have XM:=Lib.hid hall;have EH:=Lib.hid hs;clear hall;by_cases hlt:k<La
    ·have hk0:(0:Int)≤k:=by omega
     have hk1:(k:Int)<La:=by omega
     obtain⟨x,hx⟩:∃ x,l7[k]?=some x:=⟨_,List.getElem?_eq_getElem (by rw[← HLA.out];exact hlt)⟩;obtain⟨y,hy⟩:∃ x,Rb[k]?=some x:=⟨_,List.getElem?_eq_getElem (by rw[← O8.out];exact hlt)⟩;obtain⟨ba,aaS,hAa,acC,hca⟩:=WL.dQ (Sl.same (Sl.same HA.out HS.out) hs) hx;obtain⟨bb,aaT,hAb,acD,hcb⟩:=WL.dQ (Sl.same (Sl.same HB.out HS.out) hs) hy;subst hAa hAb;have HX:=Lib.hid hx;have HY:=Lib.hid hy;have aaU:wr.cell? ⟨w.heap.size,1,none⟩=some (.slice (some ⟨ba,aaS,none⟩) La Ca):=(ZW.out.ag hs id).cell 1;have acE:wr.cell? ⟨Xb,1,none⟩=some (.slice (some ⟨bb,aaT,none⟩) La Cb):=(HBb.out.ag hs id).cell 1;have mXa:=(ZW.out.ag hs id).lt;have mXb:=(HBb.out.ag hs id).lt;clear hx hy hs Po Pp ZU ZV;by_cases hxy:x=y
     ·subst hxy;have hbq:((x:Int) != (x:Int))=false:=by simp
      go_upto_region 6 with fail
      refine eG (by kernel_rfl) (by kernel_rfl) ?_;repeat (any_goals (first | go_big_quiet_step (fail) | quiet_step (fail)))
      refine wpQuiet_nil ?_;rintro wq ⟨q,hq⟩;have J9:Same wr wq:=by rw[hq];exact az _ q
      clear hq;go_wp2;go_roundw
      case rel=>exact⟨k+1,by omega,by go_num,fun j x' y' hx' hy' hj=>by
       by_cases hjk:j<k
       ·exact XM.out j x' y' hx' hy' hjk
       ·obtain rfl:j=k:=by omega
        exact(Option.some.inj (hx'.symm.trans HX.out)).trans (Option.some.inj (hy'.symm.trans HY.out)).symm,EH.out.trans J9 (fun _ _ h=>h)⟩
      case measure=>simp[intOf] <;> omega
     ·have hf:r=false:=by
       rw[← HR.out];unfold sm;rw[decide_eq_false_iff_not];rintro⟨_,hw⟩;rw[hw] at HX;exact hxy (Option.some.inj (HX.out.symm.trans HY.out))
      subst hf;have hxi:(x:Int)≠y:=by omega
      go_upto_region 6 with fail
      refine eG (by kernel_rfl) (by kernel_rfl) ?_;repeat (any_goals (first | go_big_quiet_step (fail) | quiet_step (fail)))
      refine wpQuiet_nil ?_;rintro wq ⟨q,hq⟩;have J9:Same wr wq:=by rw[hq];exact az _ q
      clear hq;go_wp2;go_ret;exact⟨rfl,(HS.out.trans EH.out (fun _ _ h=>h)).trans J9 (fun _ _ h=>h)⟩
    ·obtain rfl:k=La:=by omega
     have hf:r=true:=by
      rw[← HR.out];unfold sm;rw[decide_eq_true_eq];refine⟨rfl,List.ext_getElem? fun j=>?_⟩;by_cases hj:j<k
      ·obtain⟨x,hx⟩:∃ x,l7[j]?=some x:=⟨_,List.getElem?_eq_getElem (by rw[← HLA.out];exact hj)⟩;obtain⟨y,hy⟩:∃ x,Rb[j]?=some x:=⟨_,List.getElem?_eq_getElem (by rw[← O8.out];exact hj)⟩;rw[hx,hy,XM.out j x y hx hy hj]
      ·rw[List.getElem?_eq_none (by rw[← HLA.out];omega),List.getElem?_eq_none (by rw[← O8.out];omega)]
     subst hf;have aaU:wr.cell? ⟨w.heap.size,1,none⟩=some (.slice Aa k Ca):=(ZW.out.ag hs id).cell 1;have mXa:=(ZW.out.ag hs id).lt;clear hs Po Pp ZU ZV;go_wp2;go_ret;exact⟨rfl,HS.out.trans EH.out (fun _ _ h=>h)⟩
  ·have hf:r=false:=by
    rw[← hr];unfold sm;rw[decide_eq_false_iff_not];rintro⟨_,hw⟩;rw[hw] at hla;omega
   subst h1 hf;have h3:(La:Int)≠Lb:=by omega
   clear hr hla hlb ha hb;go_enter Tryz.func71,Tryz.ntmps71;go_upto_region 1 with fail
   refine ai fun w1 hw1=>?_
   have hs1:Same w w1:=by rw[hw1];exact((ah.refl _ _).alloc _).alloc _
   have jO:ax w1 (w.heap.size) 108 #[.int .i64 Na,.slice Aa La Ca]:=by
    rw[hw1]
    have:=((ax.new w 108 #[.int .i64 Na,.slice Aa La Ca]).alloc (.cells #[.int .i64 Na,.slice Ab Lb Cb] 108))
    simpa using this
   have iN:ax w1 (w.heap.size+1) 108 #[.int .i64 Na,.slice Ab Lb Cb]:=by
    rw[hw1]
    have:=(ax.new (w.alloc (.cells #[.int .i64 Na,.slice Aa La Ca] 108)) 108 #[.int .i64 Na,.slice Ab Lb Cb])
    simpa using this
   clear hw1;obtain⟨Xb,Mc⟩:∃ b,w.heap.size+1=b:=⟨_,rfl⟩;rw[Mc] at iN ⊢;have XE:w.heap.size≤Xb:=by omega
   have Md:w.heap.size≠Xb:=by omega
   clear Mc;have XF:w1.cell? ⟨w.heap.size,0,none⟩=some (.int .i64 Na):=jO.cell 0;have Po:w1.cell? ⟨w.heap.size,1,none⟩=some (.slice Aa La Ca):=jO.cell 1;have ZU:=jO.lt;have XG:=jO.free 0;have XH:=jO.free 1;have Tg:=Lib.hid jO;have XJ:w1.cell? ⟨Xb,0,none⟩=some (.int .i64 Na):=iN.cell 0;have Pp:w1.cell? ⟨Xb,1,none⟩=some (.slice Ab Lb Cb):=iN.cell 1;have ZV:=iN.lt;have XK:=iN.free 0;have XL:=iN.free 1;have Ti:=Lib.hid iN;have aX:=Lib.hid hs1;clear hs1 jO iN;go_wp2;go_ret;exact⟨rfl,aX.out⟩
 ·have hf:r=false:=by
   rw[← hr];unfold sm;rw[decide_eq_false_iff_not];exact fun h=>h1 h.1
  subst hf;clear hr hla hlb ha hb;go_enter Tryz.func71,Tryz.ntmps71;go_upto_region 1 with fail
  refine ai fun w1 hw1=>?_
  have hs1:Same w w1:=by rw[hw1];exact((ah.refl _ _).alloc _).alloc _
  have jO:ax w1 (w.heap.size) 108 #[.int .i64 Na,.slice Aa La Ca]:=by
   rw[hw1]
   have:=((ax.new w 108 #[.int .i64 Na,.slice Aa La Ca]).alloc (.cells #[.int .i64 Nb,.slice Ab Lb Cb] 108))
   simpa using this
  have iN:ax w1 (w.heap.size+1) 108 #[.int .i64 Nb,.slice Ab Lb Cb]:=by
   rw[hw1]
   have:=(ax.new (w.alloc (.cells #[.int .i64 Na,.slice Aa La Ca] 108)) 108 #[.int .i64 Nb,.slice Ab Lb Cb])
   simpa using this
  clear hw1;obtain⟨Xb,Mc⟩:∃ b,w.heap.size+1=b:=⟨_,rfl⟩;rw[Mc] at iN ⊢;have XE:w.heap.size≤Xb:=by omega
  have Md:w.heap.size≠Xb:=by omega
  clear Mc;have XF:w1.cell? ⟨w.heap.size,0,none⟩=some (.int .i64 Na):=jO.cell 0;have Po:w1.cell? ⟨w.heap.size,1,none⟩=some (.slice Aa La Ca):=jO.cell 1;have ZU:=jO.lt;have XG:=jO.free 0;have XH:=jO.free 1;have Tg:=Lib.hid jO;have XJ:w1.cell? ⟨Xb,0,none⟩=some (.int .i64 Nb):=iN.cell 0;have Pp:w1.cell? ⟨Xb,1,none⟩=some (.slice Ab Lb Cb):=iN.cell 1;have ZV:=iN.lt;have XK:=iN.free 0;have XL:=iN.free 1;have Ti:=Lib.hid iN;have aX:=Lib.hid hs1;clear hs1 jO iN;go_wp2;go_ret;exact⟨rfl,aX.out⟩
theorem Me (j v:Nat) (b:Bool):tT (tT j v b) v (j.testBit v)=j:=by
 apply Nat.eq_of_testBit_eq;intro i;rw[nD,nD];by_cases h:i=v
 ·subst h;simp
 ·rw[if_neg h,if_neg h]
theorem I8 {n v x:Nat} {b:Bool} (h6:n<6) (hv:v<n) (hx:x<2 ^ 2 ^ n):oo v b x<2 ^ 2 ^ n:=by
 have hp:2 ^ n≤32:=by
  have:∀ n,n<6→2 ^ n≤32:=by decide
  exact this n h6
 have Sq:x<18446744073709551616:=Nat.lt_of_lt_of_le hx (show 2 ^ 2 ^ n≤2 ^ 64 from Nat.pow_le_pow_right (by omega) (by omega));refine Nat.lt_pow_two_of_testBit _ fun j hj=>?_
 by_cases AU:j<64
 ·rw[x9 b (by omega) AU];refine Nat.testBit_lt_two_pow (Nat.lt_of_lt_of_le hx (Nat.pow_le_pow_right (by omega) ?_));refine Nat.le_of_not_lt fun hlt=>?_
  have h2:=uO (b:=j.testBit v) hlt hv;rw[Me] at h2;omega
 ·exact Nat.testBit_lt_two_pow (Nat.lt_of_lt_of_le (BU Sq) (show 2 ^ 64≤2 ^ j from Nat.pow_le_pow_right (by omega) (by omega)))
theorem Pq {n v:Nat} {b:Bool} {ws:List Nat} (hf:lU n ws) (hs:Small ws) (hv:v<n):tab n (kU v b ws)=(List.range (nw n)).map (ou v b ws):=by
 rw[← L9 (n:=n) (g:=ou v b ws) (F:=kU v b ws) fun k hk j hj _=>I7 hf hk hv hj];refine List.map_congr_left fun i hi=>?_
 unfold sI;split
 ·exact Nat.and_two_pow_sub_one_of_lt_two_pow (n:=64) (BV hs)
 ·rename_i h6;refine Nat.and_two_pow_sub_one_of_lt_two_pow ?_;unfold ou;rw[if_neg (by omega)];have h0:=pK (n:=n) (by omega);have hi0:i=0:=by have:=List.mem_range.1 hi;omega
  rw[hi0];exact I8 (by omega) hv (hf.top (by omega))
def Cc (g:Nat→Nat) (L k:Nat):List Nat:=(List.range L).map fun i=>if i<k then g i else 0
theorem nN (g:Nat→Nat) (L k:Nat):(Cc g L k).length=L:=by simp[Cc]
theorem Ce (g:Nat→Nat) (L:Nat):Cc g L 0=List.replicate L 0:=by
 apply List.ext_getElem?;intro i;rcases Nat.lt_or_ge i L with h | h
 ·simp[Cc,h]
 ·rw[List.getElem?_eq_none (by rw[nN];exact h),List.getElem?_eq_none (by simpa using h)]
theorem Gv (g:Nat→Nat) (L:Nat):Cc g L L=(List.range L).map g:=by
 unfold Cc;exact List.map_congr_left fun i hi=>if_pos (List.mem_range.1 hi)
theorem Gw {g:Nat→Nat} {L k:Nat} (h:k<L):(Cc g L k)[k]?=some 0:=by simp[Cc,h]
theorem Gx {g:Nat→Nat} {L k:Nat} (h:k<L):(Cc g L k).set k (g k)=Cc g L (k+1):=by
 apply List.ext_getElem?;intro i;rcases Nat.lt_or_ge i L with hi | hi
 ·rw[List.getElem?_set,nN];simp only[Cc,List.getElem?_map,List.getElem?_range hi,Option.map_some];by_cases he:k=i
  ·subst he;simp[h]
  ·rw[if_neg he];congr 1;by_cases h1:i<k
   ·rw[if_pos h1,if_pos (by omega)]
   ·rw[if_neg h1,if_neg (by omega)]
 ·rw[List.getElem?_eq_none (by simp[nN,hi]),List.getElem?_eq_none (by rw[nN];exact hi)]
theorem Mf (u:World) (n L:Nat) (hL:L≤maxLen):ax ((u.alloc (.cells (madeCells #[.int .u64 0] L) 123)).alloc (.cells #[.int .i64 n,.slice (some ⟨u.heap.size,0,none⟩) L L] 108)) (u.heap.size+1) 108 #[.int .i64 n,.slice (some ⟨u.heap.size,0,none⟩) L L]∧
  dN ((u.alloc (.cells (madeCells #[.int .u64 0] L) 123)).alloc (.cells #[.int .i64 n,.slice (some ⟨u.heap.size,0,none⟩) L L] 108)) (some ⟨u.heap.size,0,none⟩) L L (List.replicate L 0)∧
  Same u ((u.alloc (.cells (madeCells #[.int .u64 0] L) 123)).alloc (.cells #[.int .i64 n,.slice (some ⟨u.heap.size,0,none⟩) L L] 108)):=by
 refine⟨?_,?_,((ah.refl _ _).alloc _).alloc _⟩
 ·have:=ax.new (u.alloc (.cells (madeCells #[.int .u64 0] L) 123)) 108 #[.int .i64 n,.slice (some ⟨u.heap.size,0,none⟩) L L]
  rw[World.size_alloc] at this;exact this
 ·have:=Own.mh (m:=1) u 123 oH (fun _=>rfl) (by decide) 0 L hL rfl
  have h2:=Own.ag this ((ah.refl (fun _=>False) _).alloc (.cells #[.int .i64 n,.slice (some ⟨u.heap.size,0,none⟩) L L] 108)) (fun _ _=>id);simpa [oH] using h2
theorem I9 (u:World) (n L:Nat) (hL:L≤maxLen):ax ((u.alloc (.cells #[.int .i64 n,.slice (some ⟨u.heap.size+1,0,none⟩) L L] 108)).alloc (.cells (madeCells #[.int .u64 0] L) 123)) u.heap.size 108 #[.int .i64 n,.slice (some ⟨u.heap.size+1,0,none⟩) L L]∧
  dN ((u.alloc (.cells #[.int .i64 n,.slice (some ⟨u.heap.size+1,0,none⟩) L L] 108)).alloc (.cells (madeCells #[.int .u64 0] L) 123)) (some ⟨u.heap.size+1,0,none⟩) L L (List.replicate L 0)∧
  Same u ((u.alloc (.cells #[.int .i64 n,.slice (some ⟨u.heap.size+1,0,none⟩) L L] 108)).alloc (.cells (madeCells #[.int .u64 0] L) 123)):=by
 refine⟨(ax.new u _ _).alloc _,?_,((ah.refl _ _).alloc _).alloc _⟩
 have:=Own.mh (m:=1) (u.alloc (.cells #[.int .i64 n,.slice (some ⟨u.heap.size+1,0,none⟩) L L] 108)) 123 oH (fun _=>rfl) (by decide) 0 L hL rfl
 rw[World.size_alloc] at this;simpa [oH] using this
theorem Ja (i s:Nat):tT i s false+(i / 2 ^ s%2)*2 ^ s=i∧tT i s true=tT i s false+2 ^ s:=by
 unfold tT;have hb:i.testBit s=decide (i / 2 ^ s%2=1):=qQ;have hp:0<2 ^ s:=Nat.pow_pos (by omega);have hd:=Nat.div_add_mod i (2 ^ s);by_cases h:i / 2 ^ s%2=1
 ·rw[hb,decide_eq_true h,if_pos rfl,if_neg (by decide),if_pos rfl,h];have h2:2 ^ s≤i:=by
   refine Nat.le_of_not_lt fun hlt=>?_
   rw[Nat.div_eq_of_lt hlt] at h;cases h
  omega
 ·have h0:i / 2 ^ s%2=0:=by omega
  rw[hb,decide_eq_false h,if_neg (by decide),if_neg (by decide),if_pos rfl,h0];omega
theorem Pt (k s:Nat):∃ Q E M J:Nat,(k:Int) / ((2 ^ s:Nat):Int)=(Q:Int)∧(Q:Int).tmod 2=(E:Int)∧(E:Int)*((2 ^ s:Nat):Int)=(M:Int)∧(k:Int)-(M:Int)=(J:Int)∧J=tT k s false∧Q≤k∧E≤1∧M≤k∧J≤k∧tT k s true=J+2 ^ s:=by
 obtain⟨h1,h2⟩:=Ja k s;refine⟨k / 2 ^ s,k / 2 ^ s%2,k / 2 ^ s%2*2 ^ s,tT k s false,by rw[Int.natCast_ediv],?_,by rw[Int.natCast_mul],by omega,rfl,Nat.div_le_self _ _,by omega,by omega,by omega,h2⟩;rw[Int.tmod_eq_emod_of_nonneg (Int.natCast_nonneg _),Int.natCast_emod];rfl
def Kg (b:Bool):List Value:=[.bool b]
def Oa (b:Bool) (M k:Nat):List Bool:=List.replicate k b++List.replicate (M-k) false
theorem Pv (b:Bool) {M k:Nat} (h:k<M):(Oa b M k).set k b=Oa b M (k+1):=by
 unfold Oa;have h1:(List.replicate k b).length=k:=by simp
 rw[List.set_append_right _ _ (by omega),h1,Nat.sub_self,show M-k=(M-(k+1))+1 by omega,List.replicate_succ,List.set_cons_zero,List.replicate_succ',List.append_assoc];rfl
theorem Pw (b:Bool) (M:Nat):Oa b M M=vals M (fun _=>b):=by
 unfold Oa;rw[Nat.sub_self,List.replicate_zero,List.append_nil];apply List.ext_getElem?;intro i;rcases Nat.lt_or_ge i M with h | h
 ·simp[h,vals]
 ·rw[List.getElem?_eq_none (by simpa using h),List.getElem?_eq_none (by simpa [vals] using h)]
theorem o5 (n:Nat) (b:Bool) (w:World) (hn:n≤16):Calls Tryz.prog 65 #[.int .i64 n,.bool b] w (EE w n (tab n (fun _=>b))):=by
 have HF:=Lib.hid (fun A C w' (h:BL w' A (2 ^ n) (vals (2 ^ n) (fun _=>b)))=>vV n C A (fun _=>b) w' hn h);obtain⟨W,hW⟩:∃ W,W=tab n (fun _=>b):=⟨_,rfl⟩;rw[← hW] at HF ⊢;clear hW;have hp:(2:Nat) ^ n≤2 ^ 16:=Nat.pow_le_pow_right (by omega) hn;have h2:(2:Int) ^ n=((2 ^ n:Nat):Int):=by rw[Int.natCast_pow];rfl
 obtain⟨M,hM⟩:∃ M,M=2 ^ n:=⟨_,rfl⟩;rw[← hM] at HF hp h2;have xO:min n 64=n:=by omega
 have hw:IntKind.i64.wrap ((2:Int) ^ n)=(M:Int):=by rw[h2];exact IntWalk.i64_in _ (by omega)
 have hw2:wrap64 ((2:Int) ^ n)=(M:Int):=by rw[← hw];simp[IntKind.wrap_i64,wrap64]
 have hmk:=fun w=>eZ (P:=Tryz.prog) Tryz.underlying56 kL .i64 .i64 M (show 1*M≤281474976710656 by omega) (show M≤9223372036854775807 by omega) w
 clear hM h2;go_enter Tryz.func65,Tryz.ntmps65;go_upto_region 2 with fail
 refine ai fun w1 hw1=>?_
 have hs1:Same w w1:=by rw[hw1];exact((ah.refl _ _).alloc _).alloc _
 have fV:ax w1 w.heap.size 108 #[.int .i64 0,.slice none 0 0]:=by
  rw[hw1];exact(ax.new w 108 #[.int .i64 0,.slice none 0 0]).alloc _
 have hO:Go.Tk.Own w1 4 1 Kg (some ⟨w.heap.size+1,0,none⟩) M M (Oa b M 0):=by
  have h:=Own.mh (m:=1) (w.alloc (.cells #[.int .i64 0,.slice none 0 0] 108)) 4 Kg (fun _=>rfl) (by decide) false M (show M≤9223372036854775807 by omega) rfl;rw[hw1];simpa [Oa,Kg] using h
 obtain⟨R,hR⟩:∃ z,z=w.heap.size:=⟨_,rfl⟩;obtain⟨G,hG⟩:∃ z,z=w.heap.size+1:=⟨_,rfl⟩;have o6:w.heap.size≤R:=Nat.le_of_eq hR.symm;have Va:w.heap.size≤G:=by omega
 have Vb:G≠R:=by omega
 have hgg:(w.alloc (.cells #[.int .i64 0,.slice none 0 0] 108)).heap.size=G:=by simp[hG]
 have Mg:R+1=G:=by omega
 simp only[← hR,Mg] at hO fV;simp only[← hR,Mg];have HS:=Lib.hid hs1;have bP:=Lib.hid fV;have HO:=Lib.hid hO;clear hw1 hs1 fV hO hG hR hgg Mg hmk hw hw2 xO;go_wp2;go_loopw [6] (fun i wi=>∃ k:Nat,k≤M∧i=.int .i64 k∧Same w wi∧ax wi R 108 #[.int .i64 0,.slice none 0 0]∧Go.Tk.Own wi 4 1 Kg (some ⟨G,0,none⟩) M M (Oa b M k)) (fun i _=>M-(intOf i).toNat)
 case atStart=>exact⟨0,by omega,rfl,HS.out,bP.out,HO.out⟩
 case round =>
  clear HS bP HO;obtain⟨k,hk,rfl,hs,hbr,ho⟩:=hrel;by_cases hlt:k<M
  ·have hlk:k<(Oa b M k).length:=by rw[← ho.len];exact hlt
   obtain⟨x,hx⟩:∃ x,(Oa b M k)[k]?=some x:=⟨_,List.getElem?_eq_getElem hlk⟩;obtain⟨s0,h0,hgl,c0⟩:=Own.dQ (c:=fun x:Bool=>.bool x) ho hx;injection h0 with h0
   injection h0 with h0
   subst h0;have fz:=Own.free ho k;have HP:=Lib.hid (Own.l5 (c:=fun x:Bool=>.bool x) ho hlk b);rw[Pv b hlt] at HP;have Tj:=Lib.hid (hs.aj k (.bool b) Va);have HBP:=Lib.hid (hbr.far (p:=⟨G,k,none⟩) (Ne.symm Vb) (.bool b));have hk0:(0:Int)≤k:=by omega
   have hk1:(k:Int)<M:=by omega
   clear hlk hx hs hbr ho;go_wp2;go_roundw
   case rel=>exact⟨k+1,by omega,by go_num,Tj.out,HBP.out,HP.out⟩
   case measure=>simp[intOf] <;> omega
  ·obtain rfl:k=M:=by omega
   have HB:=Lib.hid (show BL wr (some ⟨G,0,none⟩) k (vals k (fun _=>b)) by rw[← Pw];exact ho.sl (fun _=>rfl));have HS:=Lib.hid hs;have bP:=Lib.hid hbr;clear hs hbr ho;go_wp2_with (fail)
   refine(HF.out (some ⟨G,0,none⟩) k wr HB.out).mono ?_;rintro e w2 ⟨A,C,rfl,dX⟩;have fV:=bP.out.ag dX.2.2 id;have ZX:w2.cell? ⟨R,0,none⟩=some (.int .i64 0):=fV.cell 0;have ZY:w2.cell? ⟨R,1,none⟩=some (.slice none 0 0):=fV.cell 1;have lR:=fV.lt;have ZZ:=fV.free 0;have Z0:=fV.free 1;have HB2:=Lib.hid fV;have XN:=Lib.hid dX.1;have OT:=Lib.hid (show bQ w.heap.size A from fun x hx=>Nat.le_trans HS.out.size (dX.2.1 x hx));have Rc:=Lib.hid (show ∀ a,A=some a→a.block≠R from fun a ha h=>by have:=dX.2.1 a.block ⟨a,ha,rfl⟩;have:=bP.out.lt;omega);have HS2:=Lib.hid (HS.out.trans dX.2.2 (fun _ _ h=>h));clear dX fV;go_wp2;refine bE fun w3 hw3=>?_
   have dx:ax w3 R 108 #[.int .i64 n,.slice A W.length C]:=by
    rw[hw3]
    have:=(HB2.out.set 0 (.int .i64 n)).set 1 (.slice A W.length C)
    simpa using this
   have jl:Same w w3:=by rw[hw3];exact(HS2.out.aj 0 _ o6).aj 1 _ o6
   have xP:dN w3 A W.length C W:=by
    rw[hw3];exact(Own.far (p:=⟨R,0,none⟩) XN.out Rc.out _).far (p:=⟨R,1,none⟩) Rc.out _
   have hr0:w3.cell? ⟨R,0,none⟩=some (.int .i64 n):=dx.cell 0;have hr1:w3.cell? ⟨R,1,none⟩=some (.slice A W.length C):=dx.cell 1;have Re:=OT.out;clear hw3 dx;refine bodyPost_ret (v:=.agg #[.int .i64 n,.slice A W.length C]) (by simp[results,Tryz.results65,go_sem,hr0,hr1]) rfl ?_;exact⟨A,C,rfl,xP,Re,jl⟩
def Gy (v M k:Nat):List Bool:=(List.range M).map fun i=>decide (i<k)&&i.testBit v
theorem Mh (v M:Nat):Gy v M 0=List.replicate M false:=by
 apply List.ext_getElem?;intro i;rcases Nat.lt_or_ge i M with h | h
 ·simp[Gy,h]
 ·rw[List.getElem?_eq_none (by simpa [Gy] using h),List.getElem?_eq_none (by simpa using h)]
theorem Px (v M:Nat):Gy v M M=vals M (fun x=>x.testBit v):=by
 unfold Gy vals;refine List.map_congr_left fun i hi=>?_
 rw[decide_eq_true (List.mem_range.1 hi),Bool.true_and]
theorem Py (v:Nat) {M k:Nat} (h:k<M):(Gy v M k).set k (k.testBit v)=Gy v M (k+1):=by
 apply List.ext_getElem?;intro i;rcases Nat.lt_or_ge i M with hi | hi
 ·rw[List.getElem?_set];simp only[Gy,List.getElem?_map,List.getElem?_range hi,Option.map_some,List.length_map,List.length_range,h,if_true];by_cases he:k=i
  ·subst he;simp
  ·rw[if_neg he];congr 2;rw[decide_eq_decide];omega
 ·rw[List.getElem?_eq_none (by simp[Gy,hi]),List.getElem?_eq_none (by simp[Gy,hi])]
theorem Gz (ab k:Nat):(((ab:Int) / 2 ^ k).tmod 2 == 1)=ab.testBit k:=by
 rw[Nat.testBit_eq_decide_div_mod_eq];have h1:(ab:Int) / 2 ^ k=((ab / 2 ^ k:Nat):Int):=by
  rw[Int.natCast_ediv,Int.natCast_pow];rfl
 have h:(((ab / 2 ^ k:Nat):Int)).tmod 2=((ab / 2 ^ k%2:Nat):Int):=by
  rw[Int.tmod_eq_emod_of_nonneg (Int.natCast_nonneg _),Int.natCast_emod];rfl
 rw[h1,h];by_cases hb:ab / 2 ^ k%2=1
 ·rw[hb];rfl
 ·rw[decide_eq_false hb,beq_eq_false_iff_ne];omega
theorem Mi (n v:Nat) (w:World) (hn:n≤16) (hv:v<n):Calls Tryz.prog 134 #[.int .i64 n,.int .i64 v] w (EE w n (tab n (fun x=>x.testBit v))):=by
 have HF:=Lib.hid (fun A C w' (h:BL w' A (2 ^ n) (vals (2 ^ n) (fun x=>x.testBit v)))=>vV n C A (fun x=>x.testBit v) w' hn h);obtain⟨W,hW⟩:∃ W,W=tab n (fun x=>x.testBit v):=⟨_,rfl⟩;rw[← hW] at HF ⊢;clear hW;have hp:(2:Nat) ^ n≤2 ^ 16:=Nat.pow_le_pow_right (by omega) hn;have h2:(2:Int) ^ n=((2 ^ n:Nat):Int):=by rw[Int.natCast_pow];rfl
 obtain⟨M,hM⟩:∃ M,M=2 ^ n:=⟨_,rfl⟩;rw[← hM] at HF hp h2;have xO:min n 64=n:=by omega
 have XO:min v 64=v:=by omega
 have hv0:(0:Int)≤v:=by omega
 have hw:IntKind.i64.wrap ((2:Int) ^ n)=(M:Int):=by rw[h2];exact IntWalk.i64_in _ (by omega)
 have hw2:wrap64 ((2:Int) ^ n)=(M:Int):=by rw[← hw];simp[IntKind.wrap_i64,wrap64]
 have hmk:=fun w=>eZ (P:=Tryz.prog) Tryz.underlying56 kL .i64 .i64 M (show 1*M≤281474976710656 by omega) (show M≤9223372036854775807 by omega) w
 clear hM h2;go_enter Tryz.func134,Tryz.ntmps134;go_upto_region 2 with fail
 refine ai fun w1 hw1=>?_
 have hs1:Same w w1:=by rw[hw1];exact((ah.refl _ _).alloc _).alloc _
 have fV:ax w1 w.heap.size 108 #[.int .i64 0,.slice none 0 0]:=by
  rw[hw1];exact(ax.new w 108 #[.int .i64 0,.slice none 0 0]).alloc _
 have hO:Go.Tk.Own w1 4 1 Kg (some ⟨w.heap.size+1,0,none⟩) M M (Gy v M 0):=by
  have h:=Own.mh (m:=1) (w.alloc (.cells #[.int .i64 0,.slice none 0 0] 108)) 4 Kg (fun _=>rfl) (by decide) false M (show M≤9223372036854775807 by omega) rfl;rw[hw1];simpa [Kg,Mh] using h
 obtain⟨R,hR⟩:∃ z,z=w.heap.size:=⟨_,rfl⟩;obtain⟨G,hG⟩:∃ z,z=w.heap.size+1:=⟨_,rfl⟩;have o6:w.heap.size≤R:=Nat.le_of_eq hR.symm;have Va:w.heap.size≤G:=by omega
 have Vb:G≠R:=by omega
 have hgg:(w.alloc (.cells #[.int .i64 0,.slice none 0 0] 108)).heap.size=G:=by simp[hG]
 have Mg:R+1=G:=by omega
 simp only[← hR,Mg] at hO fV;simp only[← hR,Mg];have HS:=Lib.hid hs1;have bP:=Lib.hid fV;have HO:=Lib.hid hO;clear hw1 hs1 fV hO hG hR hgg Mg hmk hw hw2 xO;go_wp2;go_loopw [6] (fun i wi=>∃ k:Nat,k≤M∧i=.int .i64 k∧Same w wi∧ax wi R 108 #[.int .i64 0,.slice none 0 0]∧Go.Tk.Own wi 4 1 Kg (some ⟨G,0,none⟩) M M (Gy v M k)) (fun i _=>M-(intOf i).toNat)
 case atStart=>exact⟨0,by omega,rfl,HS.out,bP.out,HO.out⟩
 case round =>
  clear HS bP HO;obtain⟨k,hk,rfl,hs,hbr,ho⟩:=hrel;by_cases hlt:k<M
  ·have hlk:k<(Gy v M k).length:=by rw[← ho.len];exact hlt
   obtain⟨x,hx⟩:∃ x,(Gy v M k)[k]?=some x:=⟨_,List.getElem?_eq_getElem hlk⟩;obtain⟨s0,h0,hgl,c0⟩:=Own.dQ (c:=fun x:Bool=>.bool x) ho hx;injection h0 with h0
   injection h0 with h0
   subst h0;have fz:=Own.free ho k;have HP:=Lib.hid (Own.l5 (c:=fun x:Bool=>.bool x) ho hlk (k.testBit v));rw[Py v hlt] at HP;obtain⟨b,hb⟩:∃ z,z=k.testBit v:=⟨_,rfl⟩;rw[← hb] at HP;have aaV:(((k:Int) / 2 ^ v).tmod 2 == 1)=b:=by rw[hb];exact Gz k v
   have Tj:=Lib.hid (hs.aj k (.bool b) Va);have HBP:=Lib.hid (hbr.far (p:=⟨G,k,none⟩) (Ne.symm Vb) (.bool b));have hk0:(0:Int)≤k:=by omega
   have hk1:(k:Int)<M:=by omega
   clear hlk hx hs hbr ho hb;go_wp2;go_roundw
   case rel=>exact⟨k+1,by omega,by go_num,Tj.out,HBP.out,HP.out⟩
   case measure=>simp[intOf] <;> omega
  ·obtain rfl:k=M:=by omega
   have HB:=Lib.hid (show BL wr (some ⟨G,0,none⟩) k (vals k (fun x=>x.testBit v)) by rw[← Px];exact ho.sl (fun _=>rfl));have HS:=Lib.hid hs;have bP:=Lib.hid hbr;clear hs hbr ho;go_wp2_with (fail)
   refine(HF.out (some ⟨G,0,none⟩) k wr HB.out).mono ?_;rintro e w2 ⟨A,C,rfl,dX⟩;have fV:=bP.out.ag dX.2.2 id;have ZX:w2.cell? ⟨R,0,none⟩=some (.int .i64 0):=fV.cell 0;have ZY:w2.cell? ⟨R,1,none⟩=some (.slice none 0 0):=fV.cell 1;have lR:=fV.lt;have ZZ:=fV.free 0;have Z0:=fV.free 1;have HB2:=Lib.hid fV;have XN:=Lib.hid dX.1;have OT:=Lib.hid (show bQ w.heap.size A from fun x hx=>Nat.le_trans HS.out.size (dX.2.1 x hx));have Rc:=Lib.hid (show ∀ a,A=some a→a.block≠R from fun a ha h=>by have:=dX.2.1 a.block ⟨a,ha,rfl⟩;have:=bP.out.lt;omega);have HS2:=Lib.hid (HS.out.trans dX.2.2 (fun _ _ h=>h));clear dX fV;go_wp2;refine bE fun w3 hw3=>?_
   have dx:ax w3 R 108 #[.int .i64 n,.slice A W.length C]:=by
    rw[hw3]
    have:=(HB2.out.set 0 (.int .i64 n)).set 1 (.slice A W.length C)
    simpa using this
   have jl:Same w w3:=by rw[hw3];exact(HS2.out.aj 0 _ o6).aj 1 _ o6
   have xP:dN w3 A W.length C W:=by
    rw[hw3];exact(Own.far (p:=⟨R,0,none⟩) XN.out Rc.out _).far (p:=⟨R,1,none⟩) Rc.out _
   have hr0:w3.cell? ⟨R,0,none⟩=some (.int .i64 n):=dx.cell 0;have hr1:w3.cell? ⟨R,1,none⟩=some (.slice A W.length C):=dx.cell 1;have Re:=OT.out;clear hw3 dx;refine bodyPost_ret (v:=.agg #[.int .i64 n,.slice A W.length C]) (by simp[results,Tryz.results134,go_sem,hr0,hr1]) rfl ?_;exact⟨A,C,rfl,xP,Re,jl⟩
theorem Ma.cell {w:World} {sb N C M i:Nat} {F:Nat→Bool} (h:Ma w (some ⟨sb,0,none⟩) N C (vals M F)) (hi:i<M):sb<w.heap.size∧w.cell? ⟨sb,i,none⟩=some (.bool (F i)):=by
 obtain⟨sb',h1,h2,h3⟩:=Own.dQ (c:=fun b:Bool=>.bool b) h (BX hi);injection h1 with h1
 injection h1 with h1
 subst h1;exact⟨h2,h3⟩
end Go.Proofs.YtiomgckodmecbaaGreat
namespace Go.Tk
open Go.RowKit Go.Sort
theorem cu {P:Program} {ops:Array Oper} {C:World→Prop} {o:Oper} {a:Act} {w:World} {K:Act→World→Prop} (hg:Region.wanted o (yielded ops a.tmps)=true)
  (h:∀ K':Act→World→Prop,(∀ a w,C w→K a w→K' a w)→o.wp P a w K' (fun _ _ _=>False)):cB P ops C o a w K:=by
 have h1:=h (fun a w=>C w∧K a w) (fun a w hc hw=>⟨hc,hw⟩);unfold cB;rw[if_pos hg];exact h1
end Go.Tk
namespace Go.Proofs.YtiomgckodmecbaaGreat
open Go.RowKit Go.Tk
end Go.Proofs.YtiomgckodmecbaaGreat
namespace Go.Tk
open Go.RowKit
end Go.Tk
namespace Go.Proofs.YtiomgckodmecbaaGreat
open Go.RowKit Go.Tk
def Tb.cells (t:Tb):List Value:=[.int .i64 t.N,.slice t.A t.ws.length t.C]
theorem Jb (a:Int) (A:Option Addr) (n C:Nat) (w:World):(Instr.field 108 (.agg #[.int .i64 a,.slice A n C]) 1).run Tryz.prog w=.ok (.slice A n C) w:=rfl
def rQ (n:Nat) (ws:List Nat) (v:Nat):Bool:=!decide (tab n (kU v false ws)=tab n (kU v true ws))
theorem Pz (v:Nat):tab 6 (fun x=>x.testBit v)=[kg (fun j=>j.testBit v) 64]:=by
 have h:nw 6=1:=rfl;unfold tab;rw[h];simp[word];exact kW fun j hj=>by simp[hj]
theorem Jc {x O p z:Nat} (hx:x<18446744073709551616) (hO:O<18446744073709551616) (hz:z=(x&&& O)||| (x&&& O) / 2 ^ p):∃ y:Nat,bits .and .u64 (x:Int) (O:Int)=(y:Int)∧bits .or .u64 (y:Int) ((y:Int) / 2 ^ p)=(z:Int):=by
 have h1:x&&& O<18446744073709551616:=Nat.lt_of_le_of_lt Nat.and_le_left hx;refine⟨x&&& O,u64_and_nat x O hx hO,?_⟩;rw[hz,← u64_or_nat _ _ h1 (Nat.lt_of_le_of_lt (Nat.div_le_self _ _) h1),Int.natCast_ediv,Int.natCast_pow];rfl
theorem EI {x O p z:Nat} (hx:x<18446744073709551616) (hO:O<18446744073709551616) (hz:z=(x&&& (18446744073709551615-O))||| ((x&&& (18446744073709551615-O))*2 ^ p)%18446744073709551616):∃ y:Nat,bits .andNot .u64 (x:Int) (O:Int)=(y:Int)∧bits .or .u64 (y:Int) (IntKind.u64.wrap ((y:Int)*2 ^ p))=(z:Int):=by
 have h1:x&&& (18446744073709551615-O)<18446744073709551616:=Nat.lt_of_le_of_lt Nat.and_le_left hx;refine⟨x&&& (18446744073709551615-O),u64_andNot_nat x O hx hO,?_⟩;rw[hz,← u64_or_nat _ _ h1 (Nat.mod_lt _ (by decide))];congr 1
theorem vW (n v:Nat) (b:Bool) (Aa:Option Addr) (Ca:Nat) (l7:List Nat) (w:World) (h:I5 w ⟨n,Aa,Ca,l7⟩) (hf:lU n l7) (hv:v<n) :
  Calls Tryz.prog 127 #[.agg #[.int .i64 n,.slice Aa l7.length Ca],.int .i64 v,.bool b] w (EE w n (tab n (kU v b l7))):=by
 have hn:=hf.n16;have hnl:=iD hn;have hnp:=DN n;have hct:=Pq (b:=b) hf h.small hv;have hlen:=hf.len;obtain⟨G,hG⟩:∃ z,z=ou v b l7:=⟨_,rfl⟩;rw[← hG] at hct;have hGs:∀ i,G i<18446744073709551616:=fun i=>by rw[hG];exact BV h.small
 have hmk:=fun w=>eZ (P:=Tryz.prog) Tryz.underlying74 BR .i64 .i64 (nw n) (show 8*nw n≤281474976710656 by omega) (show nw n≤9223372036854775807 by omega) w
 obtain⟨L,hL⟩:∃ z,z=nw n:=⟨_,rfl⟩;have hLn:=hL;rw[← hL] at hct hnl hnp hlen hmk;rw[hct,hlen];have H:=Lib.hid (show WL w Aa L l7 by rw[← hlen];exact h.wl);have zQ:=Lib.hid h.small;have HGS:=Lib.hid hGs;have Q0:=Lib.hid hG;have Av:=Lib.hid hLn;have HLEN:=Lib.hid hlen;clear h hf hct hlen hG hGs hL hLn;go_enter Tryz.func127,Tryz.ntmps127;go_upto_region 1 with fail
 refine ai fun w1 hw1=>?_
 have hs1:Same w w1:=by rw[hw1];exact((ah.refl _ _).alloc _).alloc _
 have o7:ax w1 (w.heap.size) 108 #[.int .i64 n,.slice Aa L Ca]:=by
  rw[hw1]
  have:=((ax.new w 108 #[.int .i64 n,.slice Aa L Ca]).alloc (.cells #[.int .i64 0,.slice none 0 0] 108))
  simpa using this
 have fV:ax w1 (w.heap.size+1) 108 #[.int .i64 0,.slice none 0 0]:=by
  rw[hw1]
  have:=(ax.new (w.alloc (.cells #[.int .i64 n,.slice Aa L Ca] 108)) 108 #[.int .i64 0,.slice none 0 0])
  simpa using this
 clear hw1;obtain⟨R,hR⟩:∃ b,w.heap.size+1=b:=⟨_,rfl⟩;rw[hR] at fV ⊢;have Z4:w.heap.size≤R:=by omega
 have abZ:w.heap.size≠R:=by omega
 clear hR;have XP:w1.cell? ⟨w.heap.size,0,none⟩=some (.int .i64 n):=o7.cell 0;have XQ:w1.cell? ⟨w.heap.size,1,none⟩=some (.slice Aa L Ca):=o7.cell 1;have lXT:=o7.lt;have XR:=o7.free 0;have XT:=o7.free 1;have Tm:=Lib.hid o7;have ZX:w1.cell? ⟨R,0,none⟩=some (.int .i64 0):=fV.cell 0;have ZY:w1.cell? ⟨R,1,none⟩=some (.slice none 0 0):=fV.cell 1;have lR:=fV.lt;have ZZ:=fV.free 0;have Z0:=fV.free 1;have bP:=Lib.hid fV;have aX:=Lib.hid hs1;clear hs1 o7 fV;go_cut [7] (fun s7 wx=>∃ X G:Nat,s7=.pointer (some ⟨X,0,none⟩)∧X≠G∧w1.heap.size≤X∧w1.heap.size≤G∧ax wx X 108 #[.int .i64 n,.slice (some ⟨G,0,none⟩) L L]∧dN wx (some ⟨G,0,none⟩) L L (List.replicate L 0)∧Same w1 wx)
 case first =>
  refine AP (fun _=>False) (.q [0,1,2,3,4] (.fork 5 (.q [6] (.step 7 (.last 8))) 7 (.step 5 (.q [6] (.last 8))))) (by kernel_rfl) (by kernel_rfl) ?_;simp only[Dk,pick,List.map_cons,List.map_nil,List.getD_cons_zero,List.getD_cons_succ];repeat (any_goals (first | go_big_quiet_step (fail) | quiet_step (fail)))
  refine wpQuiet_nil ?_;have Z5:Same w1 w1.drew:=(ah.refl _ _).drew;refine⟨?_,?_⟩
  ·refine aa rfl fun K hK=>?_
   go_simp;refine hK _ _ (aZ.bu (ah.alloc Z5 _)) ?_;clear hK K;repeat (any_goals (first | go_big_quiet_step (fail) | quiet_step (fail)))
   refine wpQuiet_nil ?_;refine aa rfl fun K hK=>?_
   go_simp;refine hK _ _ (aZ.bu (ah.alloc (ah.alloc Z5 _) _)) ?_;clear hK K;go_wp2_with fail
   go_meet
   obtain⟨g1,g2,g3⟩:=Mf w1 n L (by simp[maxLen] <;> omega);exact⟨w1.heap.size+1,w1.heap.size,rfl,by omega,by omega,Nat.le_refl _,g1.drew,Own.ag g2 ((ah.refl (fun _=>False) _).drew) (fun _ _=>id),g3.drew⟩
  ·refine aa rfl fun K hK=>?_
   go_simp;refine hK _ _ (aZ.bu (ah.alloc Z5 _)) ?_;clear hK K;refine aa rfl fun K hK=>?_
   go_simp;refine hK _ _ (aZ.bu (ah.alloc (ah.alloc Z5 _) _)) ?_;clear hK K;repeat (any_goals (first | go_big_quiet_step (fail) | quiet_step (fail)))
   refine wpQuiet_nil ?_;go_wp2_with fail
   go_meet
   obtain⟨g1,g2,g3⟩:=I9 w1 n L (by simp[maxLen] <;> omega);exact⟨w1.heap.size,w1.heap.size+1,rfl,by omega,Nat.le_refl _,by omega,g1.drew,Own.ag g2 ((ah.refl (fun _=>False) _).drew) (fun _ _=>id),g3.drew⟩
 case rest =>
  obtain⟨X,D,rfl,Z6,hX0,hD0,hBX,BZ,hsc⟩:=hcut;have hwX:w.heap.size≤X:=by have:=aX.out.size;omega
  have Pm:w.heap.size≤D:=by have:=aX.out.size;omega
  have hXR:X≠R:=by omega
  have Rf:D≠R:=by omega
  have hTX:w.heap.size≠X:=by omega
  have Z7:w.heap.size≠D:=by omega
  have Du:=Lib.hid (Tm.out.ag hsc id);have og:=Lib.hid (bP.out.ag hsc id);have HS:=Lib.hid (aX.out.trans hsc (fun _ _ h=>h));have xG:=Lib.hid hBX;have zN:=Lib.hid BZ;clear hBX BZ hsc Tm bP aX XP XQ lXT XR XT ZX ZY lR ZZ Z0 hmk hX0 hD0;by_cases h6:6≤v
  ·obtain⟨s,hs⟩:∃ s,s=v-6:=⟨_,rfl⟩;have hv6:(v:Int)-6=s:=by omega
   have h6':(v:Int)≥6:=by omega
   have PD:s≤10:=by omega
   have aaW:2 ^ s≤2 ^ 10:=Nat.pow_le_pow_right (by omega) PD;have h2:(2:Int) ^ s=((2 ^ s:Nat):Int):=uq s;have hpar:=fun i=>Pt i s
   obtain⟨P,hP⟩:∃ z,z=2 ^ s:=⟨_,rfl⟩;have W9:0<P:=by rw[hP];exact Nat.pow_pos (by omega)
   rw[← hP] at aaW h2;have xO:min s 64=s:=by omega
   have hw:IntKind.i64.wrap ((2:Int) ^ s)=(P:Int):=by rw[h2];exact IntWalk.i64_in _ (by omega)
   have hw2:wrap64 ((2:Int) ^ (v-6))=(P:Int):=by rw[← hs,← hw];simp[IntKind.wrap_i64,wrap64]
   have HP:=Lib.hid hP;have aaX:=Lib.hid hpar;clear hP hpar h2;have hsn:s<n-6:=by omega
   have Tn:=Lib.hid hsn;have HS0:=Lib.hid hs;clear hs hv6 hw hsn;go_wp2;go_loopw [9] (fun i wi=>∃ k:Nat,k≤L∧i=.int .i64 k∧Same w wi∧ax wi w.heap.size 108 #[.int .i64 n,.slice Aa L Ca]∧ax wi R 108 #[.int .i64 0,.slice none 0 0]∧ax wi X 108 #[.int .i64 n,.slice (some ⟨D,0,none⟩) L L]∧dN wi (some ⟨D,0,none⟩) L L (Cc G L k)) (fun i _=>L-(intOf i).toNat)
   case atStart=>exact⟨0,by omega,rfl,HS.out,Du.out,og.out,xG.out,by rw[Ce];exact zN.out⟩
   case round =>
    clear HS Du og xG zN;obtain⟨k,hk,rfl,hs,hbt,hbr,hbx,hod⟩:=hrel;have c0:wr.cell? ⟨w.heap.size,0,none⟩=some (.int .i64 n):=hbt.cell 0;have c1:wr.cell? ⟨w.heap.size,1,none⟩=some (.slice Aa L Ca):=hbt.cell 1;have lT:=hbt.lt;by_cases hlt:k<L
    ·have hk0:(0:Int)≤k:=by omega
     have hk1:(k:Int)<L:=by omega
     obtain⟨Q,E,M,J,f1,f2,f3,f4,hJ,hQk,hE1,hMk,hJk,hp2⟩:=aaX.out k;rw[← HP.out] at f1 f3 hp2;have F1:=Lib.hid f1;have F2:=Lib.hid f2;have F3:=Lib.hid f3;have F4:=Lib.hid f4;clear f1 f2 f3 f4 hw2;have acF:¬ P=0:=Nat.pos_iff_ne_zero.1 W9;obtain⟨I,hI⟩:∃ z,z=tT k s b:=⟨_,rfl⟩;have hIL:I<L:=by
      rw[hI,Av.out,show nw n=2 ^ (n-6) by unfold nw;rw[if_neg (by omega)]];refine uO ?_ Tn.out;rw[Av.out,show nw n=2 ^ (n-6) by unfold nw;rw[if_neg (by omega)]] at hlt;exact hlt
     obtain⟨x,hx⟩:∃ x,l7[I]?=some x:=⟨_,List.getElem?_eq_getElem (by rw[HLEN.out];exact hIL)⟩;have Vd:G k=x:=by
      rw[Q0.out];unfold ou;rw[if_pos h6,← HS0.out,← hI,List.getD_eq_getElem?_getD,hx];rfl
     obtain⟨ba,oa,hA,hba,hca⟩:=WL.dQ (Sl.same H.out hs) hx;subst hA;have hI0:(0:Int)≤I:=by omega
     have hI1:(I:Int)<L:=by omega
     obtain⟨sb,hsb,hDl,Ke⟩:=hod.dQ (c:=fun x:Nat=>.int .u64 (x:Int)) (Gw (g:=G) hlt);injection hsb with hsb
     injection hsb with hsb
     subst hsb;have hst:=fun (w':World) (hs':Same wr w')=>Own.l5 (c:=fun x:Nat=>.int .u64 (x:Int)) (Own.ag hod hs' (fun _ _=>id)) (i:=k) (by rw[nN];exact hlt) x
     rw[show(Cc G L k).set k x=Cc G L (k+1) by rw[← Vd];exact Gx hlt] at hst;have XU:wr.cell? ⟨X,1,none⟩=some (.slice (some ⟨D,0,none⟩) L L):=hbx.cell 1;have Tp:=hbx.lt;have hfree:=fun (w':World) (hs':Same wr w')=>Own.free (Own.ag hod hs' (fun _ _=>id)) k
     have HST:=Lib.hid hst;have Cg:=Lib.hid hfree;have HS:=Lib.hid hs;have Du:=Lib.hid hbt;have og:=Lib.hid hbr;have xG:=Lib.hid hbx;have Z8:(if b then J+P else J)=I:=by
      rw[hI];cases b
      ·exact hJ
      ·rw[hp2];rfl
     have hk3:k≤1024:=by omega
     clear hp2 hJ hI hx Vd hst hfree hs hbt hbr hbx hod;cases b with
     | false =>
      have hJI:J=I:=Z8;clear Z8;subst hJI;go_upto_region 7 with fail
      refine wp_region_lit ?_;refine jW 3 ?_;simp only[List.take_succ_cons,List.take_zero,List.drop_succ_cons,List.drop_zero];repeat (any_goals (first | go_big_quiet_step (fail) | quiet_step (fail)))
      refine wpQuiet_nil ?_;refine wpList_plain rfl fun K hK=>?_
      go_simp;rw[F1.out,show IntKind.i64.wrap (Q:Int)=Q from IntWalk.i64_in _ (by omega)];go_simp;refine hK _ _ ?_;clear hK K;have f2:=F2.out;refine wpList_plain rfl fun K hK=>?_
      go_simp;refine hK _ _ ?_;clear hK K;clear f2;refine wpList_plain rfl fun K hK=>?_
      go_simp;refine hK _ _ ?_;clear hK K;have f3:=F3.out;refine wpList_plain rfl fun K hK=>?_
      go_simp;clear f3;rw[show IntKind.i64.wrap (M:Int)=M from IntWalk.i64_in _ (by omega)];refine hK _ _ ?_;clear hK K;refine wpList_plain rfl fun K hK=>?_
      go_simp;rw[F4.out,show IntKind.i64.wrap (J:Int)=J from IntWalk.i64_in _ (by omega)];refine hK _ _ ?_;clear hK K;go_upto_region 10 with fail
      refine dZ 9 (by kernel_rfl) (by kernel_rfl) ?_;simp only[List.take_succ_cons,List.take_zero,List.drop_succ_cons,List.drop_zero];repeat (any_goals (first | go_big_quiet_step (fail) | quiet_step (fail)))
      refine wpQuiet_nil ?_;rintro wz ⟨q,hq⟩;have hsz:Same wr wz:=by rw[hq];exact az _ q
      have hfz:=Cg.out wz hsz;have hcz:=(hsz.cell (p:=⟨D,k,none⟩) hDl id).trans Ke;have tJ:=Lib.hid ((HS.out.trans hsz (fun _ _ h=>h)).aj (g:=D) k (.int .u64 (x:Int)) Pm);have zP:=Lib.hid ((Du.out.ag hsz id).far (p:=⟨D,k,none⟩) Z7 (.int .u64 (x:Int)));have zO:=Lib.hid ((og.out.ag hsz id).far (p:=⟨D,k,none⟩) (Ne.symm Rf) (.int .u64 (x:Int)));have EJ:=Lib.hid ((xG.out.ag hsz id).far (p:=⟨D,k,none⟩) Z6 (.int .u64 (x:Int)));have Pn:=Lib.hid (HST.out wz hsz);have ZT:D<wz.heap.size:=by have:=hsz.size;omega
      clear hq hsz Ke hDl XU Tp hca hba c0 c1 lT;go_wp2;go_roundw
      case rel=>exact⟨k+1,by omega,by go_num,tJ.out,zP.out,zO.out,EJ.out,Pn.out⟩
      case measure=>simp[intOf] <;> omega
     | true =>
      have f5:(J:Int)+(P:Int)=(I:Int):=by rw[← Z8];simp
      clear Z8;go_upto_region 7 with fail
      refine wp_region_lit ?_;refine jW 3 ?_;simp only[List.take_succ_cons,List.take_zero,List.drop_succ_cons,List.drop_zero];repeat (any_goals (first | go_big_quiet_step (fail) | quiet_step (fail)))
      refine wpQuiet_nil ?_;refine wpList_plain rfl fun K hK=>?_
      go_simp;rw[F1.out,show IntKind.i64.wrap (Q:Int)=Q from IntWalk.i64_in _ (by omega)];go_simp;refine hK _ _ ?_;clear hK K;have f2:=F2.out;refine wpList_plain rfl fun K hK=>?_
      go_simp;refine hK _ _ ?_;clear hK K;clear f2;refine wpList_plain rfl fun K hK=>?_
      go_simp;refine hK _ _ ?_;clear hK K;have f3:=F3.out;refine wpList_plain rfl fun K hK=>?_
      go_simp;clear f3;rw[show IntKind.i64.wrap (M:Int)=M from IntWalk.i64_in _ (by omega)];refine hK _ _ ?_;clear hK K;refine wpList_plain rfl fun K hK=>?_
      go_simp;rw[F4.out,show IntKind.i64.wrap (J:Int)=J from IntWalk.i64_in _ (by omega)];refine hK _ _ ?_;clear hK K;go_upto_region 10 with fail
      refine dZ 9 (by kernel_rfl) (by kernel_rfl) ?_;simp only[List.take_succ_cons,List.take_zero,List.drop_succ_cons,List.drop_zero];repeat (any_goals (first | go_big_quiet_step (fail) | quiet_step (fail)))
      refine wpQuiet_nil ?_;rintro wz ⟨q,hq⟩;have hsz:Same wr wz:=by rw[hq];exact az _ q
      have hfz:=Cg.out wz hsz;have hcz:=(hsz.cell (p:=⟨D,k,none⟩) hDl id).trans Ke;have tJ:=Lib.hid ((HS.out.trans hsz (fun _ _ h=>h)).aj (g:=D) k (.int .u64 (x:Int)) Pm);have zP:=Lib.hid ((Du.out.ag hsz id).far (p:=⟨D,k,none⟩) Z7 (.int .u64 (x:Int)));have zO:=Lib.hid ((og.out.ag hsz id).far (p:=⟨D,k,none⟩) (Ne.symm Rf) (.int .u64 (x:Int)));have EJ:=Lib.hid ((xG.out.ag hsz id).far (p:=⟨D,k,none⟩) Z6 (.int .u64 (x:Int)));have Pn:=Lib.hid (HST.out wz hsz);have ZT:D<wz.heap.size:=by have:=hsz.size;omega
      clear hq hsz Ke hDl XU Tp hca hba c0 c1 lT;go_wp2;go_roundw
      case rel=>exact⟨k+1,by omega,by go_num,tJ.out,zP.out,zO.out,EJ.out,Pn.out⟩
      case measure=>simp[intOf] <;> omega
    ·obtain rfl:k=L:=by omega
     rw[Gv] at hod;have HS:=Lib.hid hs;have og:=Lib.hid hbr;have zN:=Lib.hid hod;have aaY:wr.cell? ⟨X,0,none⟩=some (.int .i64 n):=hbx.cell 0;have aaZ:wr.cell? ⟨X,1,none⟩=some (.slice (some ⟨D,0,none⟩) k k):=hbx.cell 1;have Tp:=hbx.lt;have hRl:=hbr.lt;have XA:=hbr.free 0;have XB:=hbr.free 1;have XC:wr.cell? ⟨R,0,none⟩=some (.int .i64 0):=hbr.cell 0;have XD:wr.cell? ⟨R,1,none⟩=some (.slice none 0 0):=hbr.cell 1;clear hs hbt hbr hbx hod HGS;have Dt:=Lib.hid (show(List.map G (List.range k)).length=k by simp);clear Q0 zQ;go_wp2;refine bE fun we bY=>?_
     have dx:ax we R 108 #[.int .i64 n,.slice (some ⟨D,0,none⟩) k k]:=by
      rw[bY]
      have:=(og.out.set 0 (.int .i64 n)).set 1 (.slice (some ⟨D,0,none⟩) k k)
      simpa using this
     have jl:Same w we:=by rw[bY];exact(HS.out.aj 0 _ Z4).aj 1 _ Z4
     have xP:dN we (some ⟨D,0,none⟩) k k (List.map G (List.range k)):=by
      rw[bY];exact(Own.far (p:=⟨R,0,none⟩) zN.out (fun a ha h=>by injection ha with ha;subst ha;exact Rf h) _).far (p:=⟨R,1,none⟩) (fun a ha h=>by injection ha with ha;subst ha;exact Rf h) _
     have hr0:we.cell? ⟨R,0,none⟩=some (.int .i64 n):=dx.cell 0;have hr1:we.cell? ⟨R,1,none⟩=some (.slice (some ⟨D,0,none⟩) k k):=dx.cell 1;clear bY dx;refine bodyPost_ret (v:=.agg #[.int .i64 n,.slice (some ⟨D,0,none⟩) k k]) (by simp[results,Tryz.results127,go_sem,hr0,hr1]) rfl ?_;refine⟨some ⟨D,0,none⟩,k,by rw[Dt.out],?_,bR Pm,jl⟩;rw[Dt.out];exact xP
  ·have h6':¬ (v:Int)≥6:=by omega
   go_wp2_with (fail)
   refine(Mi 6 v wc (by omega) (by omega)).mono ?_;rintro e w3 ⟨A3,C3,rfl,dX⟩;have ho3:=dX.wl;have hs3:=dX.2.2;obtain⟨O,hO⟩:∃ z,z=kg (fun j=>j.testBit v) 64:=⟨_,rfl⟩;have XV:O<18446744073709551616:=by rw[hO];exact kV _ 64
   rw[Pz v,← hO] at ho3 ⊢;have h3l:[O].length=1:=rfl;rw[h3l] at ho3 ⊢;obtain⟨b3,o3,hA3,hb3,hc3⟩:=WL.dQ ho3 (i:=0) (x:=O) rfl;subst hA3;have aa0:w3.cell? ⟨b3,o3,none⟩=some (.int .u64 O):=by simpa using hc3
   replace Du:=Lib.hid (Du.out.ag hs3 id);replace og:=Lib.hid (og.out.ag hs3 id);replace xG:=Lib.hid (xG.out.ag hs3 id);replace zN:=Lib.hid (Own.ag zN.out hs3 (fun _ _=>id));replace HS:=Lib.hid (HS.out.trans hs3 (fun _ _ h=>h));have HOV:=Lib.hid hO;have hrw:=Jb;clear dX ho3 hs3 h3l hc3 hO;have HV6:=Lib.hid (show v<6 by omega);have hvp:2 ^ v≤2 ^ 5:=Nat.pow_le_pow_right (by omega) (by omega);have hvi:(2:Int) ^ v=((2 ^ v:Nat):Int):=uq v;have XO:min v 64=v:=by omega
   have hv0:(0:Int)≤v:=by omega
   obtain⟨p,hp⟩:∃ z,z=2 ^ v:=⟨_,rfl⟩;rw[← hp] at hvp hvi;have hpw:IntKind.u64.wrap ((2:Int) ^ v)=(p:Int):=by rw[hvi];exact IntWalk.u64_in _ (by omega)
   have hpm:min p 64=p:=by omega
   have Tq:=Lib.hid hp;clear hp hvi;go_wp2;go_loopw [12] (fun i wi=>∃ k:Nat,k≤L∧i=.int .i64 k∧Same w wi∧ax wi w.heap.size 108 #[.int .i64 n,.slice Aa L Ca]∧ax wi R 108 #[.int .i64 0,.slice none 0 0]∧ax wi X 108 #[.int .i64 n,.slice (some ⟨D,0,none⟩) L L]∧dN wi (some ⟨D,0,none⟩) L L (Cc G L k)) (fun i _=>L-(intOf i).toNat)
   case atStart=>exact⟨0,by omega,rfl,HS.out,Du.out,og.out,xG.out,by rw[Ce];exact zN.out⟩
   case round =>
    clear HS Du og xG zN aa0 hb3;obtain⟨k,hk,rfl,hs,hbt,hbr,hbx,hod⟩:=hrel;have c0:wr.cell? ⟨w.heap.size,0,none⟩=some (.int .i64 n):=hbt.cell 0;have c1:wr.cell? ⟨w.heap.size,1,none⟩=some (.slice Aa L Ca):=hbt.cell 1;have lT:=hbt.lt;by_cases hlt:k<L
    ·have hk0:(0:Int)≤k:=by omega
     have hk1:(k:Int)<L:=by omega
     obtain⟨x,hx⟩:∃ x,l7[k]?=some x:=⟨_,List.getElem?_eq_getElem (by rw[HLEN.out];exact hlt)⟩;have hxl:=zQ.out.dQ hx;have Vd:G k=oo v b x:=by
      rw[Q0.out];unfold ou;rw[if_neg (by have:=HV6.out;omega),List.getD_eq_getElem?_getD,hx];rfl
     obtain⟨ba,oa,hA,hba,hca⟩:=WL.dQ (Sl.same H.out hs) hx;subst hA;obtain⟨sb,hsb,hDl,Ke⟩:=hod.dQ (c:=fun x:Nat=>.int .u64 (x:Int)) (Gw (g:=G) hlt);injection hsb with hsb
     injection hsb with hsb
     subst hsb;obtain⟨z,hz⟩:∃ z,z=oo v b x:=⟨_,rfl⟩;rw[← hz] at Vd;have hst:=fun (w':World) (hs':Same wr w')=>Own.l5 (c:=fun x:Nat=>.int .u64 (x:Int)) (Own.ag hod hs' (fun _ _=>id)) (i:=k) (by rw[nN];exact hlt) z
     rw[show(Cc G L k).set k z=Cc G L (k+1) by rw[← Vd];exact Gx hlt] at hst;have XU:wr.cell? ⟨X,1,none⟩=some (.slice (some ⟨D,0,none⟩) L L):=hbx.cell 1;have Tp:=hbx.lt;have hfree:=fun (w':World) (hs':Same wr w')=>Own.free (Own.ag hod hs' (fun _ _=>id)) k
     have HST:=Lib.hid hst;have Cg:=Lib.hid hfree;have HS:=Lib.hid hs;have Du:=Lib.hid hbt;have og:=Lib.hid hbr;have xG:=Lib.hid hbx;clear hx hst hfree hs hbt hbr hbx hod Vd;cases b with
     | false =>
      have hhf:=EI (p:=p) (z:=z) hxl XV (by rw[hz,Tq.out,HOV.out];exact(if_neg (by decide):oo v false x=_));obtain⟨y,fa,fc⟩:=hhf;clear hz;go_upto_region 20 with fail
      refine dZ 10 (by kernel_rfl) (by kernel_rfl) ?_;simp only[List.take_succ_cons,List.take_zero,List.drop_succ_cons,List.drop_zero];repeat (any_goals (first | go_big_quiet_step (fail) | quiet_step (fail)))
      refine wpQuiet_nil ?_;rintro wz ⟨q,hq⟩;have hsz:Same wr wz:=by rw[hq];exact az _ q
      have hfz:=Cg.out wz hsz;have hcz:=(hsz.cell (p:=⟨D,k,none⟩) hDl id).trans Ke;have tJ:=Lib.hid ((HS.out.trans hsz (fun _ _ h=>h)).aj (g:=D) k (.int .u64 (z:Int)) Pm);have zP:=Lib.hid ((Du.out.ag hsz id).far (p:=⟨D,k,none⟩) Z7 (.int .u64 (z:Int)));have zO:=Lib.hid ((og.out.ag hsz id).far (p:=⟨D,k,none⟩) (Ne.symm Rf) (.int .u64 (z:Int)));have EJ:=Lib.hid ((xG.out.ag hsz id).far (p:=⟨D,k,none⟩) Z6 (.int .u64 (z:Int)));have Pn:=Lib.hid (HST.out wz hsz);have ZT:D<wz.heap.size:=by have:=hsz.size;omega
      clear hq hsz Ke hDl XU Tp hca hba c0 c1 lT fa;go_wp2;go_roundw
      case rel=>exact⟨k+1,by omega,by go_num,tJ.out,zP.out,zO.out,EJ.out,Pn.out⟩
      case measure=>simp[intOf] <;> omega
     | true =>
      have hhf:=Jc (p:=p) (z:=z) hxl XV (by rw[hz,Tq.out,HOV.out];exact(if_pos rfl:oo v true x=_));obtain⟨y,fa,fc⟩:=hhf;clear hz;go_upto_region 18 with fail
      refine dZ 10 (by kernel_rfl) (by kernel_rfl) ?_;simp only[List.take_succ_cons,List.take_zero,List.drop_succ_cons,List.drop_zero];repeat (any_goals (first | go_big_quiet_step (fail) | quiet_step (fail)))
      refine wpQuiet_nil ?_;rintro wz ⟨q,hq⟩;have hsz:Same wr wz:=by rw[hq];exact az _ q
      have hfz:=Cg.out wz hsz;have hcz:=(hsz.cell (p:=⟨D,k,none⟩) hDl id).trans Ke;have tJ:=Lib.hid ((HS.out.trans hsz (fun _ _ h=>h)).aj (g:=D) k (.int .u64 (z:Int)) Pm);have zP:=Lib.hid ((Du.out.ag hsz id).far (p:=⟨D,k,none⟩) Z7 (.int .u64 (z:Int)));have zO:=Lib.hid ((og.out.ag hsz id).far (p:=⟨D,k,none⟩) (Ne.symm Rf) (.int .u64 (z:Int)));have EJ:=Lib.hid ((xG.out.ag hsz id).far (p:=⟨D,k,none⟩) Z6 (.int .u64 (z:Int)));have Pn:=Lib.hid (HST.out wz hsz);have ZT:D<wz.heap.size:=by have:=hsz.size;omega
      clear hq hsz Ke hDl XU Tp hca hba c0 c1 lT fa;go_wp2;go_roundw
      case rel=>exact⟨k+1,by omega,by go_num,tJ.out,zP.out,zO.out,EJ.out,Pn.out⟩
      case measure=>simp[intOf] <;> omega
    ·obtain rfl:k=L:=by omega
     rw[Gv] at hod;have HS:=Lib.hid hs;have og:=Lib.hid hbr;have zN:=Lib.hid hod;have aaY:wr.cell? ⟨X,0,none⟩=some (.int .i64 n):=hbx.cell 0;have aaZ:wr.cell? ⟨X,1,none⟩=some (.slice (some ⟨D,0,none⟩) k k):=hbx.cell 1;have Tp:=hbx.lt;have hRl:=hbr.lt;have XA:=hbr.free 0;have XB:=hbr.free 1;have XC:wr.cell? ⟨R,0,none⟩=some (.int .i64 0):=hbr.cell 0;have XD:wr.cell? ⟨R,1,none⟩=some (.slice none 0 0):=hbr.cell 1;clear hs hbt hbr hbx hod HGS;have Dt:=Lib.hid (show(List.map G (List.range k)).length=k by simp);clear Q0 zQ;go_wp2;refine bE fun we bY=>?_
     have dx:ax we R 108 #[.int .i64 n,.slice (some ⟨D,0,none⟩) k k]:=by
      rw[bY]
      have:=(og.out.set 0 (.int .i64 n)).set 1 (.slice (some ⟨D,0,none⟩) k k)
      simpa using this
     have jl:Same w we:=by rw[bY];exact(HS.out.aj 0 _ Z4).aj 1 _ Z4
     have xP:dN we (some ⟨D,0,none⟩) k k (List.map G (List.range k)):=by
      rw[bY];exact(Own.far (p:=⟨R,0,none⟩) zN.out (fun a ha h=>by injection ha with ha;subst ha;exact Rf h) _).far (p:=⟨R,1,none⟩) (fun a ha h=>by injection ha with ha;subst ha;exact Rf h) _
     have hr0:we.cell? ⟨R,0,none⟩=some (.int .i64 n):=dx.cell 0;have hr1:we.cell? ⟨R,1,none⟩=some (.slice (some ⟨D,0,none⟩) k k):=dx.cell 1;clear bY dx;refine bodyPost_ret (v:=.agg #[.int .i64 n,.slice (some ⟨D,0,none⟩) k k]) (by simp[results,Tryz.results127,go_sem,hr0,hr1]) rfl ?_;refine⟨some ⟨D,0,none⟩,k,by rw[Dt.out],?_,bR Pm,jl⟩;rw[Dt.out];exact xP
theorem qo (n v:Nat) (Aa:Option Addr) (Ca:Nat) (l7:List Nat) (w:World) (h:I5 w ⟨n,Aa,Ca,l7⟩) (hf:lU n l7) (hv:v<n) :
  Calls Tryz.prog 128 #[.agg #[.int .i64 n,.slice Aa l7.length Ca],.int .i64 v] w fun e w'=>e=.returned (.bool (rQ n l7 v))∧Same w w':=by
 have hn:=hf.n16;have H:=Lib.hid h;have HF:=Lib.hid hf;have HV:=Lib.hid hv;obtain⟨d,hd⟩:∃ z,z=rQ n l7 v:=⟨_,rfl⟩;rw[← hd];have HD:=Lib.hid (show(!decide (tab n (kU v false l7)=tab n (kU v true l7)))=d from hd.symm);clear h hf hd;go_enter Tryz.func128,Tryz.ntmps128;go_upto_region 1 with fail
 refine ai fun w1 hw1=>?_
 have hs1:Same w w1:=by rw[hw1];exact(ah.refl _ _).alloc _
 have o7:ax w1 (w.heap.size) 108 #[.int .i64 n,.slice Aa l7.length Ca]:=by
  rw[hw1]
  have:=(ax.new w 108 #[.int .i64 n,.slice Aa l7.length Ca])
  simpa using this
 clear hw1;have XP:w1.cell? ⟨w.heap.size,0,none⟩=some (.int .i64 n):=o7.cell 0;have XQ:w1.cell? ⟨w.heap.size,1,none⟩=some (.slice Aa l7.length Ca):=o7.cell 1;have lXT:=o7.lt;have XR:=o7.free 0;have XT:=o7.free 1;have Tm:=Lib.hid o7;have aX:=Lib.hid hs1;clear hs1 o7;refine aJ (fun _=>False) [([0,1,3,4],2),([],5),([],6),([7],8)] (by kernel_rfl) (by kernel_rfl) ?_;simp only[cK,pick,List.map_cons,List.map_nil,List.getD_cons_zero,List.getD_cons_succ];have hs:Same w1 w1.drew:=(ah.refl _ _).drew;repeat (any_goals (first | go_big_quiet_step (fail) | quiet_step (fail)))
 refine wpQuiet_nil ?_;refine aa rfl fun K hK=>?_
 go_simp;refine(vW n v false Aa Ca l7 _ (H.out.same (aX.out.trans hs (fun _ _ h=>h))) HF.out HV.out).mono ?_;rintro e u ⟨A0,C0,rfl,dX⟩;have hs:=hs.trans dX.2.2 (fun _ _ h=>h);have ho0:=dX.1;refine hK _ _ (aZ.bu (ah.mono hs (fun _ _ h=>h.elim))) ?_;clear hK K dX;refine wpQuiet_nil ?_;refine aa rfl fun K hK=>?_
 go_simp;refine(vW n v true Aa Ca l7 _ (H.out.same (aX.out.trans hs (fun _ _ h=>h))) HF.out HV.out).mono ?_;rintro e u ⟨A1,C1,rfl,dX⟩;have hs:=hs.trans dX.2.2 (fun _ _ h=>h);have ho0:=Own.ag ho0 dX.2.2 (fun _ _=>id);have ho1:=dX.1;refine hK _ _ (aZ.bu (ah.mono hs (fun _ _ h=>h.elim))) ?_;clear hK K dX;refine wpQuiet_nil ?_;refine aa rfl fun K hK=>?_
 go_simp;refine(fJ n A0 _ C0 _ n A1 _ C1 _ _ (ho0.sl jB) (ho1.sl jB) (by rw[ze];have:=iD hn;omega)).mono ?_;rintro e u ⟨rfl,hsz⟩;have hs:=hs.trans hsz (fun _ _ h=>h);refine hK _ _ (aZ.bu (ah.mono hs (fun _ _ h=>h.elim))) ?_;have hdd:=HD.out;rw[show sm (n:Int) n (tab n (kU v false l7)) (tab n (kU v true l7))=decide (tab n (kU v false l7)=tab n (kU v true l7)) by unfold sm;simp];generalize decide (tab n (kU v false l7)=tab n (kU v true l7))=dd at *
 subst hdd;have Tn:=Lib.hid (aX.out.trans hs (fun _ _ h=>h));clear hK K hsz ho0 ho1 hs HD;repeat (any_goals (first | go_big_quiet_step (fail) | quiet_step (fail)))
 refine wpQuiet_nil ?_;go_wp2;go_ret;exact⟨rfl,Tn.out⟩
theorem fq:(Tryz.prog.info? 108).map (fun i=>(i.zero,i.size,i.bytes))=some (some (.agg #[.int .i64 0,.slice none 0 0]),2,32):=by kernel_rfl
structure TW (w:World) (n:Nat) (t:Tb):Prop where
 N:t.N=(n:Int)
 own:dN w t.A t.ws.length t.C t.ws
 fm:lU n t.ws
 sm:Small t.ws
structure TL (w:World) (n:Nat) (A:Option Addr) (ts:List Tb):Prop where
 sl:Sl w 2 Tb.cells A ts.length ts
 tw:∀ t∈ts,TW w n t
structure TN (lo:Nat) (w:World) (n:Nat) (A:Option Addr) (C:Nat) (ts:List Tb):Prop where
 own:Go.Tk.Own w 108 2 Tb.cells A ts.length C ts
 tw:∀ t∈ts,TW w n t
 fresh:bQ lo A
theorem Tb.ak (t:Tb):t.cells.length=2:=rfl
section
variable {w w':World} {n:Nat} {A:Option Addr} {C:Nat} {ts:List Tb} {t:Tb} {lo:Nat}
theorem TW.same (h:TW w n t) (hs:Same w w'):TW w' n t:=⟨h.N,h.own.ag hs (fun _ _=>id),h.fm,h.sm⟩
theorem TW.ok (h:TW w n t):I5 w t:=⟨h.own.sl jB,h.sm⟩
theorem TL.same (h:TL w n A ts) (hs:Same w w'):TL w' n A ts:=⟨Sl.same h.sl hs,fun t ht=>(h.tw t ht).same hs⟩
theorem TN.tl (h:TN lo w n A C ts):TL w n A ts:=⟨h.own.sl Tb.ak,h.tw⟩
theorem TN.same (h:TN lo w n A C ts) (hs:Same w w'):TN lo w' n A C ts:=⟨h.own.ag hs (fun _ _=>id),fun t ht=>(h.tw t ht).same hs,h.fresh⟩
theorem TN.nil (lo:Nat) (w:World) (n:Nat):TN lo w n none 0 []:=⟨Own.nil _ _ _ _,fun _ h=>(by cases h),aS _⟩
theorem TL.at (h:TL w n A ts) {i:Nat} (hi:ts[i]?=some t):∃ b off,A=some ⟨b,off,none⟩∧b<w.heap.size∧w.cell? ⟨b,off+i*2,none⟩=some (.int .i64 t.N)∧w.cell? ⟨b,off+i*2+1,none⟩=some (.slice t.A t.ws.length t.C):=by
 obtain⟨b,off,h1,h2,h3⟩:=h.sl.get i t hi;exact⟨b,off,h1,h2,h3 0 (by omega),h3 1 (by omega)⟩
theorem nO (hL:TL w n A ts) (ht:TW w n t) (hl:ts.length≤1000000000000000000) :
  Calls Tryz.prog 103 #[.slice A ts.length C,t.val] w fun e w'=>e=.returned (.bool (decide (t.ws∈ts.map Tb.ws)))∧Same w w':=by
 have htl:t.ws.length≤1000000000000000000:=by rw[ht.fm.len];have:=iD ht.fm.n16;omega
 have hsm:=fun (u:Tb) w' (h1:TW w' n t) (h2:TW w' n u)=>fJ t.N t.A t.ws.length t.C t.ws u.N u.A u.ws.length u.C u.ws w' h1.ok.wl h2.ok.wl htl
 have zQ:=Lib.hid hsm;have HL:=Lib.hid hL;have HT:=Lib.hid ht;clear hL ht hsm htl;unfold Tb.val;go_enter Tryz.func103,Tryz.ntmps103;go_wp2_with (fail)
 refine ai fun w1 hw1=>?_
 have hX:=ax.new w 108 #[.int .i64 t.N,.slice t.A t.ws.length t.C];have hs1:Same w w1:=by rw[hw1];exact(ah.refl _ _).alloc _
 rw[← hw1] at hX;clear hw1;have HX:=Lib.hid hX;have aX:=Lib.hid hs1;clear hX hs1;go_loopw [9] (fun i wr=>∃ k:Nat,k≤ts.length∧i=.int .i64 k∧Same w1 wr∧∀ u∈ts.take k,u.ws≠t.ws) (fun i _=>ts.length-(intOf i).toNat)
 case atStart=>exact⟨0,by omega,rfl,ah.refl _ _,fun u hu=>by simp at hu⟩
 case round =>
  obtain⟨k,hk,rfl,hS,hno⟩:=hrel;have HS:=Lib.hid hS;have nY:=Lib.hid hno;have hX:=HX.out.ag hS id;have x0:=hX.cell 0;have x1:=hX.cell 1;have hxl:=hX.lt;simp at x0 x1;clear hS hno hX;by_cases hlt:k<ts.length
  ·obtain⟨u,hu⟩:∃ u,ts[k]?=some u:=⟨_,List.getElem?_eq_getElem hlt⟩;have hL:=HL.out.same (aX.out.trans HS.out (fun _ _ h=>h));obtain⟨b,off,rfl,hb,c0,c1⟩:=hL.at hu;have hI:(k:Int)<(ts.length:Int):=by omega
   have hsm:=zQ.out u;have hse:sm t.N u.N t.ws u.ws=decide (u.ws=t.ws):=by
    unfold sm;rw[HT.out.N,(HL.out.tw u (List.mem_of_getElem? hu)).N];by_cases h:t.ws=u.ws
    ·simp[h]
    ·have h':¬ u.ws=t.ws:=fun e=>h e.symm
     simp[h,h']
   have tK:=Lib.hid (show ∀ w',Same w1 w'→Calls Tryz.prog 71 #[.agg #[.int .i64 t.N,.slice t.A t.ws.length t.C],.agg #[.int .i64 u.N,.slice u.A u.ws.length u.C]] w' fun e w''=>e=.returned (.bool (decide (u.ws=t.ws)))∧Same w' w'' from fun w' hw=>by
    have:=hsm w' (HT.out.same (aX.out.trans hw (fun _ _ h=>h))) ((HL.out.tw u (List.mem_of_getElem? hu)).same (aX.out.trans hw (fun _ _ h=>h)))
    rwa [hse] at this)
   have HU:=Lib.hid hu;clear hu hL hsm hse;obtain⟨bb,hbb⟩:∃ bb,decide (u.ws=t.ws)=bb:=⟨_,rfl⟩;rw[hbb] at tK;have tF:=Lib.hid hbb;clear hbb;cases bb with
   | true =>
    go_wp2_with (fail)
    refine(tK.out _ (HS.out.alloc _)).mono ?_;rintro e w3 ⟨rfl,hs3⟩;have dY:=Lib.hid hs3;clear hs3;go_wp2;go_ret;refine⟨?_,(aX.out.trans (HS.out.alloc _) (fun _ _ h=>h)).trans dY.out (fun _ _ h=>h)⟩
    have:t.ws∈ts.map Tb.ws:=List.mem_map.2 ⟨u,List.mem_of_getElem? HU.out,of_decide_eq_true tF.out⟩
    exact gD (by simpa using this)
   | false =>
    go_wp2_with (fail)
    refine(tK.out _ (HS.out.alloc _)).mono ?_;rintro e w3 ⟨rfl,hs3⟩;have dY:=Lib.hid ((HS.out.alloc (.cells #[.int .i64 u.N,.slice u.A u.ws.length u.C] 108)).trans hs3 (fun _ _ h=>h));clear hs3;go_wp2;go_roundw
    case rel =>
     refine⟨k+1,by omega,by go_num,dY.out,fun v hv=>?_⟩;rw[List.take_add_one,HU.out] at hv;rcases List.mem_append.1 hv with hv | hv
     ·exact nY.out v hv
     ·simp at hv;rw[hv];exact of_decide_eq_false tF.out
    case measure=>simp[intOf] <;> omega
  ·obtain rfl:k=ts.length:=by omega
   have hI:¬ ((ts.length:Nat):Int)<(ts.length:Int):=by omega
   go_wp2;go_ret;refine⟨gD ?_,aX.out.trans HS.out (fun _ _ h=>h)⟩
   have:t.ws∉ts.map Tb.ws:=fun hm=>by
    obtain⟨u,hu,he⟩:=List.mem_map.1 hm;exact nY.out u (by rw[List.take_length];exact hu) he
   symm;apply decide_eq_false;simpa using this
def addN (l:List (List Nat)) (z:List Nat):List (List Nat):=if z∈l then l else l++[z]
def dP (zs:List (List Nat)):List (List Nat):=zs.foldl addN []
def iT (n:Nat) (zs:List (List Nat)) (v:Nat):List (List Nat):=zs.filter fun z=>rQ n z v
theorem vX (l:List (List Nat)) (z:List Nat):(addN l z).length≤l.length+1:=by unfold addN;split <;> simp
theorem TN.push (h:TN lo w n A C ts) (ht:TW w n t) {wb:World} {g cap:Nat} (hO:Go.Tk.Own wb 108 2 Tb.cells (some ⟨g,0,none⟩) (ts.length+1) cap (ts++[t])) (hg:w.grownBy wb (Value.slice A ts.length C).ownBlock)
  (hat:(Value.slice A ts.length C).ownBlock=some g∨g=w.heap.size) (hlo:lo≤w.heap.size):TN lo wb n (some ⟨g,0,none⟩) cap (ts++[t])∧∀ (w0:World),Same w0 w→w0.heap.size=lo→Same w0 wb:=by
 have kp:∀ u,TW w n u→TW wb n u:=fun u hu=>⟨hu.N,hu.own.gH hg (fun b hb hA=>h.own.aL hu.own (by decide) b (af.1 hb) hA),hu.fm,hu.sm⟩
 refine⟨⟨by rw[List.length_append];exact hO,fun u hu=>?_,bR ?_⟩,fun w0 hs hz=>hs.grown hg (fun g' hg'=>.inr ?_)⟩
 ·rcases List.mem_append.1 hu with hu | hu
  ·exact kp u (h.tw u hu)
  ·simp at hu;subst hu;exact kp _ ht
 ·rcases hat with h1 | h1
  ·exact h.fresh g (af.1 h1)
  ·omega
 ·rw[hz];exact h.fresh g' (af.1 hg')
theorem sP (hL:TL w n A ts) (hl:ts.length≤4300000000000) :
  Calls Tryz.prog 126 #[.slice A ts.length C] w fun e w'=>∃ A' C' us,e=.returned (.slice A' us.length C')∧TN w.heap.size w' n A' C' us∧us.map Tb.ws=dP (ts.map Tb.ws)∧us.length≤ts.length∧Same w w':=by
 have HL:=Lib.hid hL;clear hL;go_enter Tryz.func126,Tryz.ntmps126;go_wp2_with (fail)
 go_loopw [8,3] (fun i v wr=>∃ (k:Nat) (A':Option Addr) (C':Nat) (us:List Tb),k≤ts.length∧i=.int .i64 k∧v=.slice A' us.length C'∧TN w.heap.size wr n A' C' us∧us.map Tb.ws=dP ((ts.take k).map Tb.ws)∧us.length≤k∧Same w wr) (fun i _ _=>ts.length-(intOf i).toNat)
 case atStart=>exact⟨0,none,0,[],by omega,rfl,rfl,TN.nil _ _ _,rfl,Nat.le_refl _,ah.refl _ _⟩
 case round =>
  obtain⟨k,A',C',us,hk,rfl,rfl,hN,l6,qY,hS⟩:=hrel;by_cases hlt:k<ts.length
  ·obtain⟨t,ht⟩:∃ t,ts[k]?=some t:=⟨_,List.getElem?_eq_getElem hlt⟩;have hL:=HL.out.same hS;have sQ:=hL.tw t (List.mem_of_getElem? ht);obtain⟨b,off,rfl,hb,c0,c1⟩:=hL.at ht;have hI:(k:Int)<(ts.length:Int):=by omega
   have hin:=fun w' (hw:Same wr w')=>nO (w:=w') (t:=t) (C:=C') (hN.tl.same hw) (sQ.same hw) (by omega)
   have hstep:dP ((ts.take (k+1)).map Tb.ws)=addN (dP ((ts.take k).map Tb.ws)) t.ws:=by
    rw[List.take_add_one,ht];unfold dP;simp
   unfold Tb.val at hin;obtain⟨bb,hbb⟩:∃ bb,decide (t.ws∈us.map Tb.ws)=bb:=⟨_,rfl⟩;rw[hbb] at hin;have zR:=Lib.hid hin;have HST:=Lib.hid hstep;have HN:=Lib.hid hN;have HU:=Lib.hid l6;have HS:=Lib.hid hS;have Aw:=Lib.hid sQ;have tF:=Lib.hid hbb;clear hL sQ hin hstep hN l6 hS ht hbb;go_upto_region 5 with fail
   refine ai fun w1 hw1=>?_
   have hX:=ax.new wr 108 #[.int .i64 t.N,.slice t.A t.ws.length t.C];have hs1:Same wr w1:=by rw[hw1];exact(ah.refl _ _).alloc _
   rw[← hw1] at hX;clear hw1;have x0:=hX.cell 0;have x1:=hX.cell 1;have hxl:=hX.lt;simp at x0 x1;have HX:=Lib.hid hX;have aX:=Lib.hid hs1;clear hX hs1;go_wp2_with (fail)
   refine(zR.out _ aX.out).mono ?_;rintro e w2 ⟨rfl,hs2⟩;have hX2:=HX.out.ag hs2 id;have HS2:=Lib.hid (aX.out.trans hs2 (fun _ _ h=>h));have x0:=hX2.cell 0;have x1:=hX2.cell 1;have Wm:=hX2.lt;simp at x0 x1;clear hX2 hs2 HX aX;cases bb with
   | true =>
    go_wp2;go_roundw
    case rel =>
     have e1:dP ((ts.take (k+1)).map Tb.ws)=us.map Tb.ws:=by
      rw[HST.out,← HU.out];unfold addN;rw[if_pos (of_decide_eq_true tF.out)]
     exact⟨k+1,A',C',us,by omega,by go_num,rfl,HN.out.same HS2.out,e1.symm,by omega,HS.out.trans HS2.out (fun _ _ h=>h)⟩
    case measure=>simp[intOf] <;> omega
   | false =>
    go_upto_region 6 with fail
    refine aV 2 ?_;simp only[List.take_succ_cons,List.take_zero,List.drop_succ_cons,List.drop_zero];repeat (any_goals (first | go_big_quiet_step (fail) | quiet_step (fail)))
    refine wpQuiet_nil ?_;refine wpList_plain rfl fun K hK=>?_
    go_simp;refine hK _ _ ?_;clear hK K;refine aQ fun wa dR=>?_
    have hM:=ax.new w2 108 #[.int .i64 t.N,.slice t.A t.ws.length t.C];have hsa:Same wr wa:=by rw[dR];exact HS2.out.alloc _
    rw[← dR] at hM;clear dR;have Mj:=HN.out.same hsa;refine Own.aR rfl (.tmp 16) (.tmp 18) _ rfl Tryz.underlying55 fq rfl (by omega) rfl Mj.own Tb.ak t w2.heap.size 1 rfl hM (by simp[Value.oneCell',Tb.cells]) (by unfold maxLen;omega) (by omega) ?_;intro gg cap wb hOb hgb hat;have hza:w.heap.size≤wa.heap.size:=(HS.out.trans hsa (fun _ _ h=>h)).size;have hp:=Mj.push (Aw.out.same hsa) hOb hgb hat hza;have HP:=Lib.hid hp.1;have kS:=Lib.hid (hp.2 w (HS.out.trans hsa (fun _ _ h=>h)) rfl);clear hp hOb hgb hat Mj hsa hM;go_wp2;go_roundw
    case rel =>
     have e1:dP ((ts.take (k+1)).map Tb.ws)=(us++[t]).map Tb.ws:=by
      rw[HST.out,← HU.out];unfold addN;rw[if_neg (of_decide_eq_false tF.out)];simp
     exact⟨k+1,some ⟨gg,0,none⟩,cap,us++[t],by omega,by go_num,by rw[List.length_append];rfl,HP.out,e1.symm,by simp <;> omega,kS.out⟩
    case measure=>simp[intOf] <;> omega
  ·obtain rfl:k=ts.length:=by omega
   have hI:¬ ((ts.length:Nat):Int)<(ts.length:Int):=by omega
   have HN:=Lib.hid hN;have HU:=Lib.hid l6;have HS:=Lib.hid hS;clear hN l6 hS;go_wp2;go_ret;exact⟨A',C',us,rfl,HN.out,by have:=HU.out;rwa [List.take_length] at this,qY,HS.out⟩
theorem EK (hL:TL w n A ts) (v:Nat) (hv:v<n) (hl:ts.length≤1000000000000) :
  Calls Tryz.prog 129 #[.slice A ts.length C,.int .i64 v] w fun e w'=>∃ A' C' us,e=.returned (.slice A' us.length C')∧TN w.heap.size w' n A' C' us∧us.map Tb.ws=iT n (ts.map Tb.ws) v∧us.length≤ts.length∧Same w w':=by
 have HL:=Lib.hid hL;clear hL;go_enter Tryz.func129,Tryz.ntmps129;go_wp2_with (fail)
 go_loopw [10,5] (fun i v' wr=>∃ (k:Nat) (A':Option Addr) (C':Nat) (us:List Tb),k≤ts.length∧i=.int .i64 k∧v'=.slice A' us.length C'∧TN w.heap.size wr n A' C' us∧us.map Tb.ws=iT n ((ts.take k).map Tb.ws) v∧us.length≤k∧Same w wr) (fun i _ _=>ts.length-(intOf i).toNat)
 case atStart=>exact⟨0,none,0,[],by omega,rfl,rfl,TN.nil _ _ _,rfl,Nat.le_refl _,ah.refl _ _⟩
 case round =>
  obtain⟨k,A',C',us,hk,rfl,rfl,hN,l6,qY,hS⟩:=hrel;by_cases hlt:k<ts.length
  ·obtain⟨t,ht⟩:∃ t,ts[k]?=some t:=⟨_,List.getElem?_eq_getElem hlt⟩;have hL:=HL.out.same hS;have sQ:=hL.tw t (List.mem_of_getElem? ht);obtain⟨b,off,rfl,hb,c0,c1⟩:=hL.at ht;have hI:(k:Int)<(ts.length:Int):=by omega
   have hin:=fun w' (hw:Same wr w')=>qo n v t.A t.C t.ws w' (by have:=(sQ.same hw).ok;rw[show t=⟨t.N,t.A,t.C,t.ws⟩ from rfl,sQ.N] at this;exact this) sQ.fm hv
   have Lp:=sQ.N;have hstep:iT n ((ts.take (k+1)).map Tb.ws) v=if rQ n t.ws v then iT n ((ts.take k).map Tb.ws) v++[t.ws] else iT n ((ts.take k).map Tb.ws) v:=by
    rw[List.take_add_one,ht];unfold iT;rw[Option.toList_some,List.map_append,List.filter_append,List.map_singleton,List.filter_cons];split <;> simp
   obtain⟨bb,hbb⟩:∃ bb,rQ n t.ws v=bb:=⟨_,rfl⟩;rw[hbb] at hin hstep;rw[Lp] at c0;have zR:=Lib.hid hin;have HST:=Lib.hid hstep;have HN:=Lib.hid hN;have HU:=Lib.hid l6;have HS:=Lib.hid hS;have Aw:=Lib.hid sQ;have K4:=Lib.hid Lp;clear hL sQ hin hstep hN l6 hS ht hbb Lp;go_upto_region 5 with fail
   refine ai fun w1 hw1=>?_
   have hX:=ax.new wr 108 #[.int .i64 n,.slice t.A t.ws.length t.C];have hs1:Same wr w1:=by rw[hw1];exact(ah.refl _ _).alloc _
   rw[← hw1] at hX;clear hw1;have x0:=hX.cell 0;have x1:=hX.cell 1;have hxl:=hX.lt;simp at x0 x1;have HX:=Lib.hid hX;have aX:=Lib.hid hs1;clear hX hs1;go_wp2_with (fail)
   refine(zR.out _ aX.out).mono ?_;rintro e w2 ⟨rfl,hs2⟩;have hX2:=HX.out.ag hs2 id;have HS2:=Lib.hid (aX.out.trans hs2 (fun _ _ h=>h));have x0:=hX2.cell 0;have x1:=hX2.cell 1;have Wm:=hX2.lt;simp at x0 x1;clear hX2 hs2 HX aX;cases bb with
   | false =>
    go_wp2;go_roundw
    case rel =>
     have e1:iT n ((ts.take (k+1)).map Tb.ws) v=us.map Tb.ws:=by rw[HST.out,if_neg (by simp),← HU.out]
     exact⟨k+1,A',C',us,by omega,by go_num,rfl,HN.out.same HS2.out,e1.symm,by omega,HS.out.trans HS2.out (fun _ _ h=>h)⟩
    case measure=>simp[intOf] <;> omega
   | true =>
    go_upto_region 6 with fail
    refine aV 2 ?_;simp only[List.take_succ_cons,List.take_zero,List.drop_succ_cons,List.drop_zero];repeat (any_goals (first | go_big_quiet_step (fail) | quiet_step (fail)))
    refine wpQuiet_nil ?_;refine wpList_plain rfl fun K hK=>?_
    go_simp;refine hK _ _ ?_;clear hK K;refine aQ fun wa dR=>?_
    have hM:=ax.new w2 108 #[.int .i64 n,.slice t.A t.ws.length t.C];have hsa:Same wr wa:=by rw[dR];exact HS2.out.alloc _
    rw[← dR] at hM;clear dR;have Mj:=HN.out.same hsa;refine Own.aR rfl (.tmp 17) (.tmp 19) _ rfl Tryz.underlying55 fq rfl (by omega) rfl Mj.own Tb.ak t w2.heap.size 1 rfl (by unfold Tb.cells;rw[K4.out];exact hM) (by simp[Value.oneCell',Tb.cells]) (by unfold maxLen;omega) (by omega) ?_;intro gg cap wb hOb hgb hat;have hza:w.heap.size≤wa.heap.size:=(HS.out.trans hsa (fun _ _ h=>h)).size;have hp:=Mj.push (Aw.out.same hsa) hOb hgb hat hza;have HP:=Lib.hid hp.1;have kS:=Lib.hid (hp.2 w (HS.out.trans hsa (fun _ _ h=>h)) rfl);clear hp hOb hgb hat Mj hsa hM;go_wp2;go_roundw
    case rel =>
     have e1:iT n ((ts.take (k+1)).map Tb.ws) v=(us++[t]).map Tb.ws:=by
      rw[HST.out,if_pos trivial,← HU.out];simp
     exact⟨k+1,some ⟨gg,0,none⟩,cap,us++[t],by omega,by go_num,by rw[List.length_append];rfl,HP.out,e1.symm,by simp <;> omega,kS.out⟩
    case measure=>simp[intOf] <;> omega
  ·obtain rfl:k=ts.length:=by omega
   have hI:¬ ((ts.length:Nat):Int)<(ts.length:Int):=by omega
   have HN:=Lib.hid hN;have HU:=Lib.hid l6;have HS:=Lib.hid hS;clear hN l6 hS;go_wp2;go_ret;exact⟨A',C',us,rfl,HN.out,by have:=HU.out;rwa [List.take_length] at this,qY,HS.out⟩
end
end Go.Proofs.YtiomgckodmecbaaGreat
