/- Contracts and plain laws, put together in one file. No condition. -/
import Derived.Test.YtiomgckodmecbaaGreatJKernelSound8

set_option maxRecDepth 100000
set_option maxHeartbeats 32000000
namespace Go.Proofs.YtiomgckodmecbaaGreat
open Go.RowKit Go.Tk
section
variable {k0 k:KS} {l x y:Nat} {ext:List Int} {X:List Ent} {n:Nd}
theorem swap_lev (h:XY k0 l x y) (K:KI k0) (k3:KS) (hl:k3.lev=k0.lev) (v:Int) (v0:0≤v) :
  levK (swapK k3 l x y) v=if v=y then (l:Int) else if v=x then (l:Int)+1 else levK k0 v:=by
 obtain ⟨xn,yn,lx,ly,xy,ix,iy⟩:=h.facts K
 obtain ⟨m,rfl⟩:=Int.eq_ofNat_of_zero_le v0
 have hxl:x < k3.lev.length:=by rw [hl,K.lv.ll];exact xn
 have hyl:y < (k3.lev.set x ((l:Int)+1)).length:=by rw [List.length_set,hl,K.lv.ll];exact yn
 show ((k3.lev.set ((x:Int).toNat) ((l:Int)+1)).set ((y:Int).toNat) (l:Int)).getD ((m:Int).toNat) 0=_
 rw [Int.toNat_natCast,Int.toNat_natCast,Int.toNat_natCast,getD_set hyl,getD_set hxl,hl]
 unfold levK
 rw [Int.toNat_natCast]
 by_cases h1:y=m
 ·rw [if_pos h1,if_pos (show (m:Int)=(y:Int) by omega)]
 ·rw [if_neg h1,if_neg (show ¬ (m:Int)=(y:Int) by omega)]
  by_cases h2:x=m
  ·rw [if_pos h2,if_pos (show (m:Int)=(x:Int) by omega)]
  ·rw [if_neg h2,if_neg (show ¬ (m:Int)=(x:Int) by omega)]
theorem swap_lv (h:XY k0 l x y) (K:KI k0) (k3:KS) (hs:kst k3=kst k0):Lv (swapK k3 l x y):=by
 obtain ⟨xn,yn,lx,ly,xy,ix,iy⟩:=h.facts K
 have hn:k3.n=k0.n:=congrArg (fun t=>t.1) hs
 have ho:k3.ord=k0.ord:=congrArg (fun t=>t.2.2.1) hs
 have hl:k3.lev=k0.lev:=congrArg (fun t=>t.2.2.2.1) hs
 have hol:=lt_of_get h.hy
 have hlx:k0.lev[x]?=some (l:Int):=by
  obtain ⟨m,h1,_,h3⟩:=K.lv.o2 l _ h.hx
  obtain rfl:x=m:=by omega
  exact h3
 have hly:k0.lev[y]?=some ((l+1:Nat):Int):=by
  obtain ⟨m,h1,_,h3⟩:=K.lv.o2 (l+1) _ h.hy
  obtain rfl:y=m:=by omega
  exact h3
 have hO:(swapK k3 l x y).ord=(k0.ord.set l (y:Int)).set (l+1) (x:Int):=by show (k3.ord.set l (y:Int)).set (l+1) (x:Int)=_;rw [ho]
 have hL:(swapK k3 l x y).lev=(k0.lev.set x ((l:Int)+1)).set y (l:Int):=by show (k3.lev.set _ _).set _ _=_;rw [hl,Int.toNat_natCast,Int.toNat_natCast]
 have hN:(swapK k3 l x y).n=k0.n:=hn
 have xl:x < k0.lev.length:=by rw [K.lv.ll];exact xn
 have yl:y < k0.lev.length:=by rw [K.lv.ll];exact yn
 have gO:∀ i:Nat,(swapK k3 l x y).ord[i]?=if i=l+1 then some (x:Int) else if i=l then some (y:Int) else k0.ord[i]?:=by
  intro i
  rw [hO,List.getElem?_set,List.length_set,List.getElem?_set]
  by_cases h1:l+1=i
  ·rw [if_pos h1,if_pos (by omega),if_pos h1.symm]
  ·rw [if_neg h1,if_neg (show ¬ i=l+1 by omega)]
   by_cases h2:l=i
   ·rw [if_pos h2,if_pos (by omega),if_pos h2.symm]
   ·rw [if_neg h2,if_neg (show ¬ i=l by omega)]
 have gL:∀ i:Nat,(swapK k3 l x y).lev[i]?=if i=y then some (l:Int) else if i=x then some ((l:Int)+1) else k0.lev[i]?:=by
  intro i
  rw [hL,List.getElem?_set,List.length_set,List.getElem?_set]
  by_cases h1:y=i
  ·rw [if_pos h1,if_pos (by omega),if_pos h1.symm]
  ·rw [if_neg h1,if_neg (show ¬ i=y by omega)]
   by_cases h2:x=i
   ·rw [if_pos h2,if_pos (by omega),if_pos h2.symm]
   ·rw [if_neg h2,if_neg (show ¬ i=x by omega)]
 refine ⟨by rw [hO,hN,List.length_set,List.length_set];exact K.lv.ol,by rw [hL,hN,List.length_set,List.length_set];exact K.lv.ll,?_,?_⟩
 ·intro i v hv
  rw [gO] at hv
  rw [hN]
  split at hv
  ·rename_i h1
   injection hv with hv
   exact ⟨x,hv.symm,xn,by rw [gL,if_neg (by omega),if_pos rfl,h1];rfl⟩
  ·rename_i h1
   split at hv
   ·rename_i h2
    injection hv with hv
    exact ⟨y,hv.symm,yn,by rw [gL,if_pos rfl,h2]⟩
   ·rename_i h2
    obtain ⟨m,e1,e2,e3⟩:=K.lv.o2 i v hv
    refine ⟨m,e1,e2,?_⟩
    rw [gL,if_neg (fun he=>?_),if_neg (fun he=>?_)]
    ·exact e3
    ·rw [he,hlx] at e3;injection e3 with e3;omega
    ·rw [he,hly] at e3;injection e3 with e3;omega
 ·intro m i hi
  rw [gL] at hi
  rw [hN]
  split at hi
  ·rename_i h1
   injection hi with hi
   exact ⟨l,hi.symm,by rw [← K.lv.ol];omega,by rw [gO,if_neg (by omega),if_pos rfl,h1]⟩
  ·rename_i h1
   split at hi
   ·rename_i h2
    injection hi with hi
    exact ⟨l+1,by omega,by rw [← K.lv.ol];omega,by rw [gO,if_pos rfl,h2]⟩
   ·rename_i h2
    obtain ⟨j,e1,e2,e3⟩:=K.lv.l2 m i hi
    refine ⟨j,e1,e2,?_⟩
    rw [gO,if_neg (fun he=>?_),if_neg (fun he=>?_)]
    ·exact e3
    ·rw [he,h.hx] at e3;injection e3 with e3;omega
    ·rw [he,h.hy] at e3;injection e3 with e3;omega
theorem t2_ord (h:XY k0 l x y) (K:KI k0) (t:T2 k0 x y (crsT k0 x y) [] k) {k3:KS} (hs:kst k3=kst k0) (hsub:∀ p∈k3.L,p∈k.L):Ord (swapK k3 l x y):=by
 obtain ⟨xn,yn,lx,ly,xy,ix,iy⟩:=h.facts K
 have hl:k3.lev=k0.lev:=congrArg (fun t=>t.2.2.2.1) hs
 have happ:crsT k0 x y ++ []=crsT k0 x y:=List.append_nil _
 have hcs:=fun c (hc:c∈crsT k0 x y)=>crsT_mem h K hc
 have hbase:=t.base
 rw [happ] at hbase
 have hb:=t.bk
 -- what stands at a ref that stood there before
 have old:∀ {m m':Nd} {q:Int},(m,q)∈k0.L→(m',q)∈k.L→(m'=m∧∀ c∈crsT k0 x y,q≠c.r)∨(m.v=x∧m'.v=y):=by
  intro m m' q hm hm'
  by_cases hc:∃ c∈crsT k0 x y,q=c.r
  ·obtain ⟨c,hc1,rfl⟩:=hc
   have hC:=hcs c hc1
   have e:=K.uniq hm hC.mem
   obtain ⟨n',a1,a2,_,_⟩:=t.dn c hc1
   have e2:=hb.uniq (List.mem_append_left _ hm') (List.mem_append_left _ a1)
   exact .inr ⟨by rw [e];exact hC.v,by rw [e2];exact a2⟩
  ·have:=hbase (m,q) hm (fun c hc1 he=>hc ⟨c,hc1,he⟩)
   have e2:=hb.uniq (List.mem_append_left _ hm') (List.mem_append_left _ this)
   exact .inl ⟨e2,fun c hc1 he=>hc ⟨c,hc1,he⟩⟩
 have key:∀ n r m q,(n,r)∈k.L→(m,q)∈k.L→(q=n.lo∨q=n.hi)→levK (swapK k3 l x y) n.v < levK (swapK k3 l x y) m.v:=by
  intro n r m q hn hm hq
  have hm0:0≤m.v:=(hb.chl m q hm).1
  have hn0:0≤n.v:=(hb.chl n r hn).1
  rw [swap_lev h K k3 hl _ hn0,swap_lev h K k3 hl _ hm0]
  have lowcase:Low k0 l q→(l:Int)+1 < (if m.v=y then (l:Int) else if m.v=x then (l:Int)+1 else levK k0 m.v):=by
   intro hlow
   obtain ⟨_,_,h3⟩:=low_node h K hcs hb hbase hlow
   obtain ⟨h4,h5,h6⟩:=h3 m hm
   rw [if_neg h6,if_neg h5]
   exact hlow.2.2 m h4
  rcases t.ent _ hn with ⟨h1,h2⟩ | ⟨c,hc,h1,h2⟩ | ⟨c,hc,h1,h2,h3,h4⟩
  ·rw [happ] at h2
   simp only at h1 h2
   by_cases hx:n.v=x
   ·rw [if_neg (by omega),if_pos hx]
    exact lowcase (crsT_all h K h1 hx (fun c hc he=>h2 c hc he.symm) hq)
   ·by_cases hy:n.v=y
    ·rw [if_pos hy]
     have hlow:Low k0 l q:=by
      obtain ⟨_,_,a,b,c',d,_⟩:=K.bk.chl n r h1
      refine ⟨by rcases hq with rfl | rfl <;> assumption,by rcases hq with rfl | rfl <;> assumption,fun m' hm'=>?_⟩
      have hlt:levK k0 n.v < levK k0 m'.v:=by
       rcases hq with rfl | rfl
       ·exact K.ord.lo n r m' h1 hm'
       ·exact K.ord.hi n r m' h1 hm'
      rw [hy,ly] at hlt
      exact hlt
     have:=lowcase hlow
     omega
    ·rw [if_neg hy,if_neg hx]
     -- another variable
     obtain ⟨nv0,nv1,a,b,c',d,_⟩:=K.bk.chl n r h1
     have q0:0≤q:=by rcases hq with rfl | rfl <;> assumption
     have qt:tk k0.ls q=true:=by rcases hq with rfl | rfl <;> assumption
     obtain ⟨m',hm'⟩:∃ m',(m',q)∈k0.L:=by
      rcases (K.live q0).1 qt with e | e | e
      ·have:=(hb.memL (List.mem_append_left _ hm)).1;omega
      ·have:=(hb.memL (List.mem_append_left _ hm)).1;omega
      ·exact e
     have hlt:levK k0 n.v < levK k0 m'.v:=by
      rcases hq with rfl | rfl
      ·exact K.ord.lo n r m' h1 hm'
      ·exact K.ord.hi n r m' h1 hm'
     have hnl:levK k0 n.v≠l:=fun e=>hx (ix n.v nv0 nv1 e)
     rcases old hm' hm with ⟨e,_⟩ | ⟨e1,e2⟩
     ·rw [e]
      split
      ·rename_i e3
       rw [e3,ly] at hlt
       omega
      ·split
       ·rename_i e3
        rw [e3,lx] at hlt
        omega
       ·exact hlt
     ·rw [if_pos e2]
      rw [e1,lx] at hlt
      exact hlt
  ·simp only at h1 h2
   have hv:n.v=x:=by rcases h1 with rfl | rfl <;> rfl
   rw [if_neg (by omega),if_pos hv]
   have hC:=hcs c hc
   refine lowcase ?_
   rcases h1 with rfl | rfl
   ·rcases hq with rfl | rfl
    ·exact hC.l00
    ·exact hC.l10
   ·rcases hq with rfl | rfl
    ·exact hC.l01
    ·exact hC.l11
  ·simp only at h1 h2 h3 h4
   rw [if_pos h2]
   have hC:=hcs c hc
   have g:∀ a b,Low k0 l a→Got k.L ⟨x,a,b⟩ q→(l:Int) < (if m.v=y then (l:Int) else if m.v=x then (l:Int)+1 else levK k0 m.v):=by
    intro a b ha hg
    unfold Got at hg
    split at hg
    ·simp only at hg
     have:=lowcase (by rw [hg];exact ha)
     omega
    ·have e:=hb.uniq (List.mem_append_left _ hm) (List.mem_append_left _ hg)
     rw [e]
     show (l:Int) < (if (x:Int)=y then (l:Int) else if (x:Int)=x then (l:Int)+1 else levK k0 x)
     rw [if_neg (by omega),if_pos rfl]
     omega
   rcases hq with rfl | rfl
   ·exact g _ _ hC.l00 h3
   ·exact g _ _ hC.l01 h4
 exact ⟨fun n r m hn hm=>key n r m _ (hsub _ hn) (hsub _ hm) (.inl rfl),fun n r m hn hm=>key n r m _ (hsub _ hn) (hsub _ hm) (.inr rfl)⟩
theorem Bk.swap (h:Bk k ext X) (l:Nat) (x y:Int):Bk (swapK k l x y) ext X:=⟨h.n1,h.n64,h.c2,h.cM,h.l0,h.l1,h.mem,h.conv,h.kn,h.rn,h.fre,h.fn,h.cnt,h.cntl,h.lim,h.ul,h.ulm,h.chl,h.use,h.hol,h.exl,h.bd⟩
theorem ki_turnT (h:XY k0 l x y) (K:KI k0) (hR:turnR k0 x y=true):KI (turnT k0 l x y):=by
 have t:=t2_end h K hR
 have hp:=t2_pos h K t
 have hb:=t.bk
 rw [List.append_nil] at hb
 have hb':Bk (turn2 (turn1 k0 (crsT k0 x y)) x y (crsT k0 x y)) (kids (crsT k0 x y) ++ []) []:=by rw [List.append_nil];exact hb
 obtain ⟨a1,a2,a3,a4⟩:=turn3_bk _ _ _ hb' hp
 have hs:kst (turn3 (turn2 (turn1 k0 (crsT k0 x y)) x y (crsT k0 x y)) (crsT k0 x y))=kst k0:=(turn3_kst _ _).trans t.same
 exact ⟨a1.swap _ _ _,swap_lv h K _ hs,a2,t2_ord h K t hs a3⟩
theorem xy_of (K:KI k) (h1:l+1 < k.n):∃ x y,XY k l x y:=by
 obtain ⟨x,a1,_,_⟩:=K.lv.o2 l _ (List.getElem?_eq_getElem (by rw [K.lv.ol];omega))
 obtain ⟨y,b1,_,_⟩:=K.lv.o2 (l+1) _ (List.getElem?_eq_getElem (by rw [K.lv.ol];omega))
 exact ⟨x,y,by rw [List.getElem?_eq_getElem (by rw [K.lv.ol];omega),a1],by rw [List.getElem?_eq_getElem (by rw [K.lv.ol];omega),b1]⟩
theorem ki_turn (K:KI k) (h1:l+1 < k.n):KI (turnK k l).2:=by
 obtain ⟨x,y,h⟩:=xy_of K h1
 unfold turnK
 have e1:k.ord.getD l 0=x:=by rw [List.getD_eq_getElem?_getD,h.hx];rfl
 have e2:k.ord.getD (l+1) 0=y:=by rw [List.getD_eq_getElem?_getD,h.hy];rfl
 rw [e1,e2]
 split
 ·rename_i hR
  exact ki_turnT h K hR
 ·exact K
theorem KI.tr (K:KI k) (t:List Int):KI { k with tr:=t }:=⟨K.bk.tr t,⟨K.lv.ol,K.lv.ll,K.lv.o2,K.lv.l2⟩,K.pos,⟨K.ord.lo,K.ord.hi⟩⟩
theorem ki_exch (K:KI k) (l:Int):KI (exchK k l).2:=by
 unfold exchK
 split
 ·exact K
 ·rename_i h
  have K':=ki_turn (l:=l.toNat) K (by omega)
  split
  ·exact K'.tr _
  ·exact K'
theorem ki_new {n c:Nat} (h1:1≤n) (h2:n≤64) (h3:2≤c) (h4:c≤1048576):KI (newK n c):=by
 have hr:∀ i:Nat,(rng n)[i]?=if i < n then some (i:Int) else none:=by
  intro i
  unfold rng
  rw [List.getElem?_map]
  by_cases h:i < n
  ·rw [if_pos h,List.getElem?_range h];rfl
  ·rw [if_neg h,List.getElem?_eq_none (by simp <;> omega)];rfl
 have nope:∀ p,p∈(newK n c).L ++ []→False:=fun p hp=>by simp [newK] at hp
 refine ⟨⟨h1,h2,h3,h4,rfl,rfl,(fun _ _ hm=>(nope _ hm).elim),?_,List.nodup_nil,List.nodup_nil,(fun _ hm=>absurd hm (List.not_mem_nil)),List.nodup_nil,rfl,rfl,?_,rfl,Nat.zero_le _,(fun _ _ hm=>absurd hm (List.not_mem_nil)),(fun _ _ hm=>(nope _ hm).elim),?_,(fun _ hm=>absurd hm (List.not_mem_nil)),Nat.zero_le _⟩,⟨rng_len n,rng_len n,?_,?_⟩,(fun _ _ hm=>absurd hm (List.not_mem_nil)),⟨(fun _ _ _ hm=>absurd hm (List.not_mem_nil)),(fun _ _ _ hm=>absurd hm (List.not_mem_nil))⟩⟩
 ·intro m p h2 hp _
  have:m < 2:=lt_of_get hp
  omega
 ·show 2≤c;exact h3
 ·intro m v hv
  replace hv:([]:List Int)[m]?=some v:=hv
  simp at hv
 ·intro l v hv
  replace hv:(rng n)[l]?=some v:=hv
  rw [hr] at hv
  split at hv
  ·rename_i h
   injection hv with hv
   exact ⟨l,hv.symm,h,by show (rng n)[l]?=_;rw [hr,if_pos h]⟩
  ·cases hv
 ·intro l v hv
  replace hv:(rng n)[l]?=some v:=hv
  rw [hr] at hv
  split at hv
  ·rename_i h
   injection hv with hv
   exact ⟨l,hv.symm,h,by show (rng n)[l]?=_;rw [hr,if_pos h]⟩
  ·cases hv
end
section
variable {k:KS} {ext:List Int} {X:List Ent} {n:Nd}
theorem Lv.of_eq {k k':KS} (h:Lv k) (h1:k'.n=k.n) (h2:k'.ord=k.ord) (h3:k'.lev=k.lev):Lv k':=⟨by rw [h1,h2];exact h.ol,by rw [h1,h3];exact h.ll,by rw [h1,h2,h3];exact h.o2,by rw [h1,h2,h3];exact h.l2⟩
theorem Lv.of_kst {k k':KS} (h:Lv k) (hs:kst k'=kst k):Lv k':=h.of_eq (congrArg (fun t=>t.1) hs) (congrArg (fun t=>t.2.2.1) hs) (congrArg (fun t=>t.2.2.2.1) hs)
theorem levK_eq {k k':KS} (h:k'.lev=k.lev) (v:Int):levK k' v=levK k v:=by unfold levK;rw [h]
theorem Ord.sub {k k':KS} (h:Ord k) (hl:k'.lev=k.lev) (hs:∀ p∈k'.L,p∈k.L):Ord k' :=
 ⟨fun n r m a b=>by rw [levK_eq hl,levK_eq hl];exact h.lo n r m (hs _ a) (hs _ b),fun n r m a b=>by rw [levK_eq hl,levK_eq hl];exact h.hi n r m (hs _ a) (hs _ b)⟩
def PosBut (k:KS) (r:Int):Prop:=∀ n q,(n,q)∈k.L→q≠r→0 < k.us.getD q.toNat 0
theorem Pos.but (h:Pos k) (r:Int):PosBut k r:=fun n q hq _=>h n q hq
theorem useK_getD (k:KS) (r:Int) (m:Nat):k.us.getD m 0≤(useK k r).us.getD m 0:=by
 rw [List.getD_eq_getElem?_getD,List.getD_eq_getElem?_getD,useK_us]
 cases k.us[m]? with
 | none=>simp
 | some u =>
  simp only [Option.map_some,Option.getD_some]
  split <;> omega
theorem ki_hold {r:Int} (hb:Bk k [] []) (hl:Lv k) (ho:Ord k) (hp:PosBut k r) (hn:∃ n,(n,r)∈k.L) (h0:k.hs.getD r.toNat 0=0):KI (holdK k r):=by
 obtain ⟨n,hn⟩:=hn
 have hm:=hb.memL (List.mem_append_left [] hn)
 have hr0:0≤r:=by omega
 have hcnt:=hb.cnt
 have hcl:=hb.cntl
 have hli:=hb.lim
 have hcM:=hb.cM
 simp only [List.append_nil] at hcnt
 have h1:=bk_use hb hr0 hm.2.2 (by simp only [List.length_nil];omega)
 have hL:=useK_L k r
 have hH:=useK_hs' k r
 have h2:=bk_hold h1 (n:=n) (by rw [hL];exact List.mem_append_left _ hn) (by rw [hH];exact h0)
 have e:holdK k r={ useK k r with hs:=(useK k r).hs.set r.toNat 1 }:=by
  unfold holdK
  rw [if_pos h0,h0,hH]
  rfl
 rw [e]
 have hk:kst { useK k r with hs:=(useK k r).hs.set r.toNat 1 }=kst k:=useK_kst k r
 refine ⟨h2,hl.of_kst hk,?_,ho.sub (congrArg (fun t=>t.2.2.2.1) hk) (fun p hp=>by have:p∈(useK k r).L:=hp;rwa [hL] at this)⟩
 intro m q hq
 replace hq:(m,q)∈k.L:=by have:(m,q)∈(useK k r).L:=hq;rwa [hL] at this
 show 0 < (useK k r).us.getD q.toNat 0
 by_cases hqr:q=r
 ·subst hqr
  obtain ⟨u,hu,_⟩:=hb.use_lt (List.mem_append_left [] hn)
  rw [List.getD_eq_getElem?_getD,useK_us,hu]
  simp only [Option.map_some,Option.getD_some]
  rw [if_pos ⟨by omega,by omega⟩]
  omega
 ·have:=hp m q hq hqr
  have:=useK_getD k r q.toNat
  omega
theorem ki_hs {h' r:Int} (K:KI k) (hb:Bk { k with hs:=k.hs.set r.toNat h' } [] []):KI { k with hs:=k.hs.set r.toNat h' } :=
 ⟨hb,K.lv.of_eq rfl rfl rfl,K.pos,K.ord.sub rfl (fun _ h=>h)⟩
theorem ki_keep (K:KI k) {r:Int} (h0:0≤r):KI (keepK k r).2:=by
 unfold keepK
 split
 ·exact K
 ·rename_i ht
  split
  ·rename_i h1
   obtain ⟨n,hn⟩:∃ n,(n,r)∈k.L:=by
    rcases (K.live h0).1 (by simpa using ht) with h | h | h
    ·omega
    ·omega
    ·exact h
   split
   ·exact K
   ·rename_i h5
    refine KI.tr ?_ _
    by_cases hh:k.hs.getD r.toNat 0=0
    ·exact ki_hold K.bk K.lv K.ord (K.pos.but r) ⟨n,hn⟩ hh
    ·have e:holdK k r={ k with hs:=k.hs.set r.toNat (k.hs.getD r.toNat 0+1) }:=by unfold holdK;rw [if_neg hh]
     rw [e]
     have hv:0≤k.hs.getD r.toNat 0∧k.hs.getD r.toNat 0≤65535:=by
      rw [List.getD_eq_getElem?_getD]
      cases hx:k.hs[r.toNat]? with
      | none=>simp
      | some x=>exact ⟨(K.bk.hol _ x hx).1,(K.bk.hol _ x hx).2.1⟩
     exact ki_hs K (bk_more K.bk (List.mem_append_left [] hn) hh (by omega) (by omega))
  ·exact K.tr _
theorem ki_drop (K:KI k) {r:Int} (h0:0≤r):KI (dropK k r).2:=by
 unfold dropK
 split
 ·rename_i h1
  split
  ·exact K
  ·rename_i hh
   refine KI.tr ?_ _
   obtain ⟨n,hn⟩:=held_mem K.bk h0 hh
   have hv:0≤k.hs.getD r.toNat 0∧k.hs.getD r.toNat 0≤65535:=by
    rw [List.getD_eq_getElem?_getD]
    cases hx:k.hs[r.toNat]? with
    | none=>simp
    | some x=>exact ⟨(K.bk.hol _ x hx).1,(K.bk.hol _ x hx).2.1⟩
   unfold unholdK
   split
   ·rename_i h1
    have hcnt:=K.bk.cnt
    have hcl:=K.bk.cntl
    have hli:=K.bk.lim
    have hcM:=K.bk.cM
    simp only [List.append_nil] at hcnt
    have hb:=bk_unhold K.bk hn hh (by simp only [List.length_nil];omega)
    obtain ⟨a1,a2,a3,a4⟩:=relK_bk hb K.pos
    have hk:kst (relK { k with hs:=k.hs.set r.toNat 0 } r)=kst k:=relF_kst _ _ _
    exact ⟨a1,K.lv.of_kst hk,a2,K.ord.sub (congrArg (fun t=>t.2.2.2.1) hk) a3⟩
   ·exact ki_hs K (bk_more K.bk hn hh (by omega) (by omega))
 ·exact K.tr _
theorem fits_ord (h:fitsK k n=0) (hne:n.lo≠n.hi):levK k n.v < depthK k n.lo∧levK k n.v < depthK k n.hi:=by
 unfold fitsK at h
 split at h
 ·cases h
 ·split at h
  ·cases h
  ·split at h
   ·cases h
   ·rename_i h3
    have:¬ min (depthK k n.lo) (depthK k n.hi)≤levK k n.v:=fun hc=>h3 ⟨hne,hc⟩
    omega
theorem depth_node (K:KI k) {m:Nd} {q:Int} (hm:(m,q)∈k.L):depthK k q=levK k m.v:=by
 unfold depthK levK
 rw [(K.mem' hm).2.1,if_pos (K.bk.chl m q hm).1]
theorem ki_taken (K:KI k) (hn:NdOk k n) (hf:fitsK k n=0) (hs:seekK k n=none) (hc:k.ac+1≤k.c):KI (holdK (takeK k n) (takeR k)):=by
 obtain ⟨hne,hnew⟩:=seek_none hs
 have hb:=bk_taken K.bk hn hs hc
 have hL:=takeK_L (k:=k) ⟨hn.v0,hn.v1⟩ hnew
 have hk:=takeK_kst k n
 obtain ⟨r2,rf,_⟩:=bk_takeR K.bk
 have hdead:∀ m,(m,(takeR k:Int))∈k.L→False:=fun m hm=>by
  have:=(K.mem' hm).2.2
  rw [rf] at this
  cases this
 have hin:(n,(takeR k:Int))∈(takeK k n).L:=by rw [hL];simp
 refine ki_hold hb (K.lv.of_kst hk) ?_ ?_ ⟨n,hin⟩ ?_
 ·have hlv:=congrArg (fun t=>t.2.2.2.1) hk
  have hl:(takeK k n).lev=k.lev:=hlv
  obtain ⟨f1,f2⟩:=fits_ord hf hne
  have key:∀ n' r m q,(n',r)∈(takeK k n).L→(m,q)∈(takeK k n).L→(q=n'.lo∨q=n'.hi)→levK k n'.v < levK k m.v:=by
   intro n' r m q h1 h2 hq
   rw [hL] at h1 h2
   have hq':tk k.ls q=true→(m,q)∈k.L:=by
    intro ht
    rcases List.mem_append.1 h2 with h2 | h2
    ·exact h2
    ·simp at h2
     rw [h2.2,rf] at ht
     cases ht
   rcases List.mem_append.1 h1 with h1 | h1
   ·obtain ⟨_,_,a,b,c,d,_⟩:=K.bk.chl n' r h1
    rcases hq with rfl | rfl
    ·exact K.ord.lo n' r m h1 (hq' c)
    ·exact K.ord.hi n' r m h1 (hq' d)
   ·simp at h1
    rw [h1.1] at hq ⊢
    rcases hq with rfl | rfl
    ·rw [← depth_node K (hq' hn.l1)];exact f1
    ·rw [← depth_node K (hq' hn.h1)];exact f2
  exact ⟨fun n' r m h1 h2=>by rw [levK_eq hl,levK_eq hl];exact key n' r m _ h1 h2 (.inl rfl),fun n' r m h1 h2=>by rw [levK_eq hl,levK_eq hl];exact key n' r m _ h1 h2 (.inr rfl)⟩
 ·intro m q hq hqr
  rw [hL] at hq
  have hq':(m,q)∈k.L:=by
   rcases List.mem_append.1 hq with h | h
   ·exact h
   ·simp at h;exact absurd h.2 hqr
  have hpos:=K.pos m q hq'
  obtain ⟨i,e1,_,e3,_⟩:=K.bk.mem m q (List.mem_append_left [] hq')
  subst e1
  rw [Int.toNat_natCast] at hpos ⊢
  have hne':takeR k≠i:=by omega
  rw [List.getD_eq_getElem?_getD,takeK_us,List.getElem?_set,if_neg hne',upto_get,if_pos e3,List.getElem?_eq_getElem e3]
  rw [List.getD_eq_getElem?_getD,List.getElem?_eq_getElem e3] at hpos
  simp only [Option.map_some,Option.getD_some] at hpos ⊢
  split <;> split <;> omega
 ·rw [Int.toNat_natCast,takeK_hs K.bk n]
  rw [List.getD_eq_getElem?_getD]
  cases hx:k.hs[takeR k]? with
  | none=>rfl
  | some x =>
   by_cases h0:x=0
   ·subst h0;rfl
   ·obtain ⟨m,hm⟩:=(K.bk.hol _ x hx).2.2 h0
    exact (hdead m (by simpa using hm)).elim
theorem keep_taken (K:KI k) (hn:NdOk k n) (hs:seekK k n=none) (hc:k.ac+1≤k.c):keepK (takeK k n) (takeR k)=(0,{ holdK (takeK k n) (takeR k) with tr:=[] }):=by
 have hb:=bk_taken K.bk hn hs hc
 obtain ⟨_,hnew⟩:=seek_none hs
 have hL:=takeK_L (k:=k) ⟨hn.v0,hn.v1⟩ hnew
 obtain ⟨r2,rf,_⟩:=bk_takeR K.bk
 have hin:(n,(takeR k:Int))∈(takeK k n).L:=by rw [hL];simp
 have ht:=(hb.memL (List.mem_append_left [] hin)).2.2
 have h0:(takeK k n).hs.getD (takeR k:Int).toNat 0=0:=by
  rw [Int.toNat_natCast,takeK_hs K.bk n,List.getD_eq_getElem?_getD]
  cases hx:k.hs[takeR k]? with
  | none=>rfl
  | some x =>
   by_cases h0:x=0
   ·subst h0;rfl
   ·obtain ⟨m,hm⟩:=(K.bk.hol _ x hx).2.2 h0
    have:=(K.mem' (r:=takeR k) (by simpa using hm)).2.2
    rw [rf] at this
    cases this
 unfold keepK
 rw [if_neg (by rw [ht];simp),if_pos (by omega),if_neg (by rw [h0];omega)]
theorem ki_make (K:KI k) (l0:0≤n.lo) (h0:0≤n.hi):KI (makeK k n).2.2:=by
 unfold makeK
 split
 ·rename_i hf
  have hn:=fits_nd hf l0 h0
  cases hs:seekK k n with
  | some r =>
   have:=seek_live K.bk hn hs
   have hk:=ki_keep K this.1
   show KI (keptK k r).2.2
   unfold keptK
   split
   ·exact hk
   ·exact hk
  | none =>
   show KI (if k.ac+1≤k.c then keptK (takeK k n) (takeR k) else (0,9,k)).2.2
   split
   ·rename_i hc
    unfold keptK
    rw [keep_taken K hn hs hc]
    rw [if_pos rfl]
    exact (ki_taken K hn hf hs hc).tr _
   ·exact K
 ·exact K
theorem ki_undo (K:KI k) (h:∀ l,k.tr.getLast?=some l→0≤l∧l+1 < k.n):KI (undoK k).2.2:=by
 unfold undoK
 cases hl:k.tr.getLast? with
 | none=>exact K
 | some l =>
  have:=h l hl
  exact (ki_turn (l:=l.toNat) K (by omega)).tr _
end
def mkNd (p:PS) (x y z:Int):Nd:=⟨x,p.refs.getD y.toNat 0,p.refs.getD z.toNat 0⟩
def mkMd (p:PS) (x y z:Int):MS × List Nat × Int:=makeM p.m x (p.ts.getD y.toNat []) (p.ts.getD z.toNat [])
def makeP (p:PS) (x y z:Int):PS :=
 if (mkMd p x y z).2.2=0 then { p with k:=(makeK p.k (mkNd p x y z)).2.2,m:=(mkMd p x y z).1,refs:=p.refs ++ [(makeK p.k (mkNd p x y z)).1],ts:=p.ts ++ [(mkMd p x y z).2.1],dead:=p.dead ++ [false] }
 else { p with k:=(makeK p.k (mkNd p x y z)).2.2,m:=(mkMd p x y z).1 }
section
variable {w w':World} {B:Nat→Prop} {pp:Nat} {p:PS} {q:PA} {n:Nat} {t:Tb} {kp:Nat} {k:KS} {a:KA}
theorem lives_range {p:PS} {i:Int} (h:livesB p i=true):∃ m:Nat,i=m∧m < p.ts.length:=by
 unfold livesB at h
 simp only [Bool.and_eq_true,decide_eq_true_eq] at h
 exact ⟨i.toNat,by omega,by omega⟩
theorem makeM_form {M:MS} {v:Int} {lo hi:List Nat} (hn:M.n≤16) (h:(makeM M v lo hi).2.2=0):FormN M.n (makeM M v lo hi).2.1∧Small (makeM M v lo hi).2.1:=by
 unfold makeM at h ⊢
 split at h
 ·simp at h
 ·rename_i h1
  rw [if_neg h1]
  split at h
  ·simp at h
  ·rename_i h2
   rw [if_neg h2]
   split at h
   ·simp at h
   ·rename_i h3
    rw [if_neg h3]
    simp only at h ⊢
    unfold ansL
    rw [if_pos h]
    exact ⟨tab_form hn,fun x hx=>tab_lt x hx⟩
theorem make_law (hP:PW B w pp p q) (hB:∀ b,B b→b < w.heap.size) (K:KI p.k) (ho:OrdOk p.m) (hc:HcOk p.m) (hh:p.m.held.length < 1500000) (hd:p.dead.length=p.ts.length) (hr:p.refs.length=p.ts.length) (hll:p.live.length≤2097152000000)
  (hrg:∀ x∈p.refs,0≤x∧x < 4294967296) (htl:p.ts.length≤4000000000000) (kd x y z:Int) (hL:livesB p y=true) (hC:livesB p z=true)
  (hag:(makeK p.k (mkNd p x y z)).2.1=(mkMd p x y z).2.2) (hz:(mkMd p x y z).2.2≠0→(makeK p.k (mkNd p x y z)).1=0) (hkn:(makeK p.k (mkNd p x y z)).2.2.n=p.k.n) (hmn:(mkMd p x y z).1.n=p.m.n) :
  Calls Tryz.prog 73 #[.pointer (some ⟨pp,0,none⟩),.agg #[.int .i64 kd,.int .i64 x,.int .i64 y,.int .i64 z]] w fun e w'=>e=.returned (.bool true)∧(∃ q',PW B w' pp (makeP p x y z) q')∧Up B w w':=by
 have hlb:=fun w' (hs:Same w w')=>lives_law (hP.same hs) hd hll y
 have hlc:=fun w' (hs:Same w w')=>lives_law (hP.same hs) hd hll z
 rw [hL] at hlb
 rw [hC] at hlc
 obtain ⟨my,rfl,hmy⟩:=lives_range hL
 obtain ⟨mz,rfl,hmz⟩:=lives_range hC
 obtain ⟨ry,hry⟩:∃ r,p.refs[my]?=some r:=⟨_,List.getElem?_eq_getElem (by omega)⟩
 obtain ⟨rz,hrz⟩:∃ r,p.refs[mz]?=some r:=⟨_,List.getElem?_eq_getElem (by omega)⟩
 obtain ⟨ty,hty⟩:∃ t,q.tt[my]?=some t:=⟨_,List.getElem?_eq_getElem (by rw [hP.tl];exact hmy)⟩
 obtain ⟨tz,htz⟩:∃ t,q.tt[mz]?=some t:=⟨_,List.getElem?_eq_getElem (by rw [hP.tl];exact hmz)⟩
 have htey:p.ts.getD my []=ty.ws:=by rw [List.getD_eq_getElem?_getD,← hP.te,List.getElem?_map,hty];rfl
 have htez:p.ts.getD mz []=tz.ws:=by rw [List.getD_eq_getElem?_getD,← hP.te,List.getElem?_map,htz];rfl
 have hnd:mkNd p x my mz=⟨x,ry,rz⟩:=by unfold mkNd;rw [Int.toNat_natCast,Int.toNat_natCast,List.getD_eq_getElem?_getD,List.getD_eq_getElem?_getD,hry,hrz];rfl
 have hmd:mkMd p x my mz=makeM p.m x ty.ws tz.ws:=by unfold mkMd;rw [Int.toNat_natCast,Int.toNat_natCast,htey,htez]
 unfold makeP
 rw [hnd] at hag hz hkn ⊢
 rw [hmd] at hag hz hmn ⊢
 have gy:=hrg ry (List.mem_of_getElem? hry)
 have gz:=hrg rz (List.mem_of_getElem? hrz)
 have hmk:=fun w' (hs:Same w w')=>kmake_any (hP.same hs).k K.bk K.lv ⟨x,ry,rz⟩ gy.1 gy.2 gz.1 gz.2
 have hdm:=fun w' (b:MA) (hM:MW w' q.mp p.m b) (h1:TW w' p.m.n ty) (h2:TW w' p.m.n tz)=>docMake9_any hM ho x h1 h2 hc hh
 obtain ⟨⟨r,E,k'⟩,hkk⟩:∃ z,makeK p.k ⟨x,ry,rz⟩=z:=⟨_,rfl⟩
 obtain ⟨⟨m',zz,F⟩,hmm⟩:∃ z,makeM p.m x ty.ws tz.ws=z:=⟨_,rfl⟩
 have hfm:=makeM_form (M:=p.m) (v:=x) (lo:=ty.ws) (hi:=tz.ws) hP.m.n16
 rw [hmm] at hfm
 simp only at hfm
 rw [hkk] at hag hz hkn hmk ⊢
 rw [hmm] at hag hz hmn hdm ⊢
 simp only at hag hz hkn hmn hmk ⊢
 subst hag
 obtain ⟨PP,hPP⟩:∃ z:PS,(if E=0 then { p with k:=k',m:=m',refs:=p.refs ++ [r],ts:=p.ts ++ [zz],dead:=p.dead ++ [false] } else { p with k:=k',m:=m' })=z:=⟨_,rfl⟩
 rw [hPP]
 have HPP:=Lib.hid hPP
 have HFM:=Lib.hid hfm
 clear hPP hfm
 have HP:=Lib.hid hP
 have HLB:=Lib.hid hlb
 have HLC:=Lib.hid hlc
 have HMK:=Lib.hid hmk
 have HDM:=Lib.hid hdm
 have HTY:=Lib.hid hty
 have HTZ:=Lib.hid htz
 have HRY:=Lib.hid hry
 have HRZ:=Lib.hid hrz
 have HZ:=Lib.hid hz
 have HKN:=Lib.hid hkn
 have HMN:=Lib.hid hmn
 have HRL:=Lib.hid hr
 have HTL:=Lib.hid hP.tl
 have HDL:=Lib.hid hd
 have HTTL:=Lib.hid htl
 clear hlb hlc hmk hdm hL hC hty htz hry hrz hz hkn hmn hkk hmm hnd hmd htey htez hrg gy gz K ho hc hh hll
 have hpl:=hP.blk.lt
 clear hP hr hd htl
 go_enter Tryz.func73,Tryz.ntmps73
 go_upto_region 1 with fail
 refine wp_world fun w1 hw1=>?_
 have hO:=Blk.new w 60 #[.int .i64 kd,.int .i64 x,.int .i64 my,.int .i64 mz]
 have hs1:Same w w1:=by rw [hw1];exact (Frm.refl _ _).alloc _
 rw [← hw1] at hO
 clear hw1
 have o0:=hO.cell 0
 have o1:=hO.cell 1
 have o2:=hO.cell 2
 have o3:=hO.cell 3
 have ol:=hO.lt
 simp at o0 o1 o2 o3
 have HO:=Lib.hid hO
 have HS:=Lib.hid hs1
 clear hO hs1
 go_wp2_with (fail)
 refine (HLB.out _ HS.out).mono ?_
 rintro e w2 ⟨rfl,hs2⟩
 replace HO:=Lib.hid (HO.out.frm hs2 id)
 replace HS:=Lib.hid (HS.out.trans hs2 (fun _ _ h=>h))
 clear hs2 o0 o1 o2 o3 ol
 have o1:=HO.out.cell 1
 have o2:=HO.out.cell 2
 have o3:=HO.out.cell 3
 have ol:=HO.out.lt
 simp at o1 o2 o3
 go_wp2_with (fail)
 refine (HLC.out _ HS.out).mono ?_
 rintro e w3 ⟨rfl,hs3⟩
 replace HO:=Lib.hid (HO.out.frm hs3 id)
 replace HS:=Lib.hid (HS.out.trans hs3 (fun _ _ h=>h))
 clear hs3 o1 o2 o3 ol
 have o1:=HO.out.cell 1
 have o2:=HO.out.cell 2
 have o3:=HO.out.cell 3
 have ol:=HO.out.lt
 simp at o1 o2 o3
 go_upto_region 3 with fail
 have hP3:=HP.out.same HS.out
 have c0:=hP3.c0
 have c2:=hP3.c2
 obtain ⟨rb,hrb,hrbl,dy⟩:=hP3.refs.at1 (c:=rc) HRY.out
 obtain ⟨rb',hrb',_,dz⟩:=hP3.refs.at1 (c:=rc) HRZ.out
 rw [hrb] at hrb' c2
 injection hrb' with hrb'
 injection hrb' with hrb'
 subst hrb'
 rw [HRL.out] at c2
 unfold rc at dy dz
 have kpp:¬ KFp p.k.n q.kp q.a pp:=hP3.kl pp (.inl rfl)
 have krb:¬ KFp p.k.n q.kp q.a rb:=hP3.kl rb (.inr (.inl ⟨_,hrb,rfl⟩))
 have kob:¬ KFp p.k.n q.kp q.a w.heap.size:=fun h=>by have:=HP.out.k.lt h;omega
 clear hpl
 have hpl:=hP3.blk.lt
 have iy:(my:Int) < p.ts.length:=by omega
 have iz:(mz:Int) < p.ts.length:=by omega
 have HP3:=Lib.hid hP3
 clear hP3 hrb
 refine wp_phS (fun b=>KFp p.k.n q.kp q.a b) [([0,1,2,3,4,5,6,7,8,9,10,11,12,13,14,15,16,17,18,19,20,21],22),([23,24,25,26],27)] (by kernel_rfl) (by kernel_rfl) ?_
 have hs:Same w3 w3.drew:=(Frm.refl _ _).drew
 rw [wpPh_go_eq]
 simp only [pick,List.map_cons,List.map_nil,List.getD_cons_zero,List.getD_cons_succ]
 repeat go_big_quiet_step (fail)
 refine wpQuiet_nil ?_
 refine effStep_plain rfl fun K hK=>?_
 go_simp
 refine (HMK.out _ (HS.out.trans hs (fun _ _ h=>h))).mono ?_
 rintro e w4 ⟨rfl,a4,hk4,hg4⟩
 have hfr4:Frm (fun b=>KFp p.k.n q.kp q.a b) w3 w4:=(hs.mono (fun _ _ h=>h.elim)).trans hg4.frm (fun _ _ h=>h)
 refine hK _ _ (Lat.mk_ hfr4) ?_
 clear hK K
 have hB3:∀ b,B b→b < w3.heap.size:=fun b hb=>by have:=hB b hb;have:=HS.out.size;omega
 have hP4:=(HP3.out.same hs).kernel hk4 hg4 HKN.out hB3
 have HU4:=Lib.hid (Up.trans (Up.ofSame (HS.out.trans hs (fun _ _ h=>h))) hP4.2)
 have HP4:=Lib.hid hP4.1
 have hB4:∀ b,B b→b < w4.heap.size:=fun b hb=>by have:=hB3 b hb;have:=hfr4.size;omega
 replace HO:=Lib.hid (HO.out.frm hfr4 kob)
 have hO4:w.heap.size < w4.heap.size:=HO.out.lt
 clear hP4 hk4 hg4 hfr4 hs c0 c2 dy dz hrbl kpp krb hpl o1 o2 o3 ol
 rw [wpPh_end_eq]
 simp only [pick,List.map_cons,List.map_nil,List.getD_cons_zero,List.getD_cons_succ]
 repeat go_big_quiet_step (fail)
 refine wpQuiet_nil ?_
 go_upto_region 4 with fail
 have c1:=HP4.out.c1
 have c3:=HP4.out.c3
 simp only at c1 c3
 obtain ⟨tb,htb,htbl,y0,y1⟩:=HP4.out.tat HTY.out
 obtain ⟨tb',htb',_,z0,z1⟩:=HP4.out.tat HTZ.out
 simp only at htb htb' y0 z0
 rw [htb] at htb' c3
 injection htb' with htb'
 injection htb' with htb'
 subst htb'
 rw [HTL.out] at c3
 have mpp:¬ MFp q.mp q.b pp:=by
  rintro (hb | hb | hb | hb)
  ·have:=HP4.out.blk
   rw [hb] at this
   exact absurd (Blk.inj this HP4.out.m.blk).1 (by decide)
  ·obtain ⟨x,hx,hm⟩:=hb
   exact HP4.out.m.ord.ne_blk HP4.out.blk (by decide) x hx hm
  ·obtain ⟨x,hx,hm⟩:=hb
   exact HP4.out.m.hs.ne_blk HP4.out.blk (by decide) x hx hm
  ·obtain ⟨x,hx,hm⟩:=hb
   exact HP4.out.m.tr.ne_blk HP4.out.blk (by decide) x hx hm
 have mtb:¬ MFp q.mp q.b tb:=HP4.out.m.ne_own HP4.out.ts (by decide) (by decide) (by decide) tb ⟨_,htb,rfl⟩
 have mob:¬ MFp q.mp q.b w.heap.size:=fun h=>by have:=HP.out.m.lt h;omega
 have o1:=HO.out.cell 1
 have o2:=HO.out.cell 2
 have o3:=HO.out.cell 3
 have ol:=HO.out.lt
 have hpl:=HP4.out.blk.lt
 simp at o1 o2 o3
 clear htb
 have HM4:=Lib.hid HP4.out.m
 have hty4:=HP4.out.tt ty (List.mem_of_getElem? HTY.out)
 have htz4:=HP4.out.tt tz (List.mem_of_getElem? HTZ.out)
 have hdm:=fun w' (hs:Same w4 w')=>HDM.out w' q.b (HM4.out.same hs) (hty4.same hs) (htz4.same hs)
 unfold Tb.val at hdm
 rw [hty4.N,htz4.N] at hdm
 have HDM4:=Lib.hid hdm
 clear hty4 htz4 hdm
 go_cut [7,8] (fun s7 s8 wx=>∃ (T:Nat) (A:Option Addr) (C:Nat),s7=.pointer (some ⟨T,0,none⟩)∧s8=.int .i64 E∧Blk wx T 108 #[.int .i64 (ansN p.m.n E),.slice A zz.length C]∧OwnW wx A zz.length C zz∧w4.heap.size≤T∧∃ b',MW wx q.mp m' b'∧MGo q.mp w4 q.b wx b')
 case first =>
  refine wp_tS (fun b=>MFp q.mp q.b b) (.q [0,1,2,3,4,5,6,7,8,9,10,11,12,13,14,15,16,17,18,19,20,21] (.fork 22 (.q [23,24,25] (.step 26 (.step 27 (.last 28)))) 26 (.step 22 (.q [23,24,25] (.step 27 (.last 28)))))) (by kernel_rfl) (by kernel_rfl) ?_
  simp only [wpT,pick,List.map_cons,List.map_nil,List.getD_cons_zero,List.getD_cons_succ]
  have hs:Same w4 w4.drew:=(Frm.refl _ _).drew
  repeat go_big_quiet_step (fail)
  refine wpQuiet_nil ?_
  refine ⟨?_,?_⟩
  ·refine effStep_plain rfl fun K hK=>?_
   go_simp
   refine (HDM4.out _ hs).mono ?_
   rintro e w5 ⟨A5,C5,rfl,hO5,hF5,b5,hM5,hg5⟩
   have hgo:=(MGo.same hs).trans hg5
   refine hK _ _ (Lat.mk_ hgo.frm) ?_
   clear hK K
   have HGO:=Lib.hid hgo
   have HM5:=Lib.hid hM5
   have HO5:=Lib.hid hO5
   clear hgo hM5 hO5 hg5 hF5 hs
   repeat go_big_quiet_step (fail)
   refine wpQuiet_nil ?_
   refine effStep_plain rfl fun K hK=>?_
   go_simp
   have hT:=Blk.new w5 108 #[.int .i64 0,.slice none 0 0]
   have hfa:Frm (fun b=>MFp q.mp q.b b) w4 (w5.alloc (.cells #[.int .i64 0,.slice none 0 0] 108)):=HGO.out.frm.alloc _
   refine hK _ _ (Lat.mk_ hfa) ?_
   clear hK K hT
   refine effStep_plain rfl fun K hK=>?_
   go_simp
   refine hK _ _ (Lat.mk_ (HGO.out.frm.alloc _)) ?_
   clear hK K
   go_wp2_with fail
   go_meet
   refine ⟨w5.heap.size,A5,C5,rfl,rfl,Blk.new w5 _ _,HO5.out.frm (S:=fun _=>False) ((Frm.refl _ _).alloc _) (fun _ _=>id),HGO.out.frm.size,b5,HM5.out.same ((Frm.refl _ _).alloc _),HGO.out.trans (MGo.same ((Frm.refl _ _).alloc _))⟩
  ·refine effStep_plain rfl fun K hK=>?_
   go_simp
   have hT:=(Blk.new w4 108 #[.int .i64 0,.slice none 0 0]).drew
   have hsa:Same w4 (w4.alloc (.cells #[.int .i64 0,.slice none 0 0] 108)).drew:=((Frm.refl _ _).alloc _).drew
   refine hK _ _ (Lat.mk_ (Frm.mono hsa (fun _ _ h=>h.elim))) ?_
   clear hK K
   generalize (w4.alloc (.cells #[.int .i64 0,.slice none 0 0] 108)).drew=wa at hT hsa ⊢
   refine effStep_plain rfl fun K hK=>?_
   go_simp
   refine (HDM4.out _ hsa).mono ?_
   rintro e w5 ⟨A5,C5,rfl,hO5,hF5,b5,hM5,hg5⟩
   have hgo:=(MGo.same hsa).trans hg5
   refine hK _ _ (Lat.mk_ hgo.frm) ?_
   clear hK K
   have hT5:=hT.frm hg5.frm (fun h=>by have:=HM4.out.lt h;omega)
   have hnA:∀ x,A5=some x→x.block≠w4.heap.size:=fun x hx h=>hO5.ne_blk hT5 (by decide) x hx h
   have t0:=hT5.cell 0
   have t1:=hT5.cell 1
   have tl:=hT5.lt
   have u0:=hT5.free 0
   have u1:=hT5.free 1
   simp at t0 t1
   have HGO:=Lib.hid hgo
   have HM5:=Lib.hid hM5
   have HO5:=Lib.hid hO5
   have HT5:=Lib.hid hT5
   have HNA:=Lib.hid hnA
   clear hgo hM5 hO5 hg5 hF5 hT hT5 hsa hs hnA
   repeat go_big_quiet_step (fail)
   refine wpQuiet_nil ?_
   refine effStep_plain rfl fun K hK=>?_
   go_simp
   refine hK _ _ (Lat.mk_ ((HGO.out.frm.setNew 0 _ (Nat.le_refl _)).setNew 1 _ (Nat.le_refl _))) ?_
   clear hK K
   go_wp2_with fail
   go_meet
   refine ⟨w4.heap.size,A5,C5,rfl,rfl,?_,(Own.far (p:=⟨w4.heap.size,0,none⟩) HO5.out HNA.out _).far (p:=⟨w4.heap.size,1,none⟩) HNA.out _,Nat.le_refl _,b5,HM5.out.apartSet HT5.out,⟨(HGO.out.frm.setNew 0 _ (Nat.le_refl _)).setNew 1 _ (Nat.le_refl _),HGO.out.fp⟩⟩
   have:=(HT5.out.set 0 (.int .i64 (ansN p.m.n E))).set 1 (.slice A5 zz.length C5)
   simpa using this
 case rest =>
  obtain ⟨T,A5,C5,rfl,rfl,hT,hO5,hwT,b5,hM5,hg5⟩:=hcut
  have hP5:=HP4.out.model hM5 hg5 HMN.out hB4
  have HU5:=Lib.hid (Up.trans HU4.out hP5.2)
  have hB5:∀ b,B b→b < wc.heap.size:=fun b hb=>by have:=hB4 b hb;have:=hg5.frm.size;omega
  have hTpp:T≠pp:=fun h=>by
   have h1:=HP4.out.blk.lt
   omega
  have HP5:=Lib.hid hP5.1
  have HT:=Lib.hid hT
  have HO5:=Lib.hid hO5
  clear hP5 hT hO5 hM5 hg5 c1 c3 htbl y0 y1 z0 z1 mpp mtb mob o1 o2 o3 ol hpl HDM4 HM4 HP4
  by_cases hE:E=0
  ·subst hE
   have hPP:=HPP.out
   rw [if_pos rfl] at hPP
   replace HPP:=Lib.hid hPP
   clear hPP
   have hpl:=HP5.out.blk.lt
   have c2:=HP5.out.c2
   simp only at c2
   rw [HRL.out] at c2
   go_upto_region 7 with fail
   refine wp_read 6 ?_
   simp only [List.take_succ_cons,List.take_zero,List.drop_succ_cons,List.drop_zero]
   repeat (any_goals (first | go_big_quiet_step (fail) | quiet_step (fail)))
   refine wpQuiet_nil ?_
   refine wpList_plain rfl fun K hK=>?_
   go_simp
   refine hK _ _ ?_
   clear hK K
   refine list_world fun wa hwa=>?_
   have hL:=Blk.new wc 28 #[.int .u32 r]
   have hsa:Same wc wa:=by rw [hwa];exact (Frm.refl _ _).alloc _
   rw [← hwa] at hL
   clear hwa
   have hPa:=HP5.out.same hsa
   have hrow:Row1 wa 28 rc q.rA p.ts.length q.rC p.refs:=by rw [← HRL.out];exact hPa.refs
   refine Own.append_list (f:=fun x=>[rc x]) rfl (.tmp 91) (.tmp 93) _ rfl Tryz.underlying40 info_ref rfl (by omega) rfl hrow (fun _=>rfl) r wc.heap.size 1 rfl (by simpa [rc] using hL) (by simp [Value.oneCell',rc]) (by rw [HRL.out];unfold maxLen;have:=HTTL.out;omega) (by rw [HRL.out];have:=HTTL.out;omega) ?_
   intro gg cap wb hOb hgb hat
   have hrA:∀ {ty:TypeId} {cs:Array Value} {g:Nat},Blk wa g ty cs→28≠ty→some g≠(Value.slice q.rA p.ts.length q.rC).ownBlock:=fun hb hne hx=>by
    obtain ⟨x,hx,hxb⟩:=ownBlock_row.1 hx.symm
    exact hrow.ne_blk hb hne x hx hxb
   have hbb:=hPa.blk.grown hgb (hrA hPa.blk (by decide))
   have htb:=(HT.out.frm hsa id).grown hgb (hrA (HT.out.frm hsa id) (by decide))
   have hob5:=(HO5.out.frm hsa (fun _ _=>id)).keptBy hgb (fun b hb hA=>hrow.ne_own (HO5.out.frm hsa (fun _ _=>id)) (by decide) b (ownBlock_row.1 hb) hA)
   have f2:=hbb.free 2
   have d2:=hbb.cell 2
   have hpb:=hbb.lt
   simp [pcells] at d2
   rw [HRL.out] at d2
   have hfr:Frm (fun b=>b=pp∨rowOf q.rA b) wc wb:=(Frm.mono hsa (fun _ _ h=>h.elim)).grown hgb (fun g hg=>.inl (.inr (ownBlock_row.1 hg)))
   have hto:=HP5.out.refs_to (w':=wb.setCell ⟨pp,2,none⟩ (.slice (some ⟨gg,0,none⟩) (p.ts.length+1) cap)) (rs:=p.refs ++ [r]) (A2:=some ⟨gg,0,none⟩) (C2:=cap) (hfr.set 2 _ (.inl rfl)) (by
     have:=hbb.set 2 (.slice (some ⟨gg,0,none⟩) (p.ts.length+1) cap)
     simpa [pcells,HRL.out] using this)
    (by
     have:=Own.far (p:=⟨pp,2,none⟩) hOb (fun x hx h=>Own.ne_blk hOb hbb (by decide) x hx h) (.slice (some ⟨gg,0,none⟩) (p.ts.length+1) cap)
     rw [List.length_append,HRL.out]
     exact this)
    (fun b hb=>by
     obtain ⟨x,hx,rfl⟩:=hb
     injection hx with hx
     subst hx
     rcases hat with h | h
     ·exact .inl (ownBlock_row.1 h)
     ·have:=hsa.size
      exact .inr (by simp only;omega)) hB5
   have HTO:=Lib.hid hto
   have HT8:=Lib.hid (htb.far (p:=⟨pp,2,none⟩) hTpp (.slice (some ⟨gg,0,none⟩) (p.ts.length+1) cap))
   have HO8:=Lib.hid (hob5.far (p:=⟨pp,2,none⟩) (fun x hx h=>hob5.ne_blk hbb (by decide) x hx h) (.slice (some ⟨gg,0,none⟩) (p.ts.length+1) cap))
   have hB8:∀ b,B b→b < (wb.setCell ⟨pp,2,none⟩ (.slice (some ⟨gg,0,none⟩) (p.ts.length+1) cap)).heap.size:=fun b hb=>by rw [size_setCell];have:=hB5 b hb;have:=hfr.size;omega
   clear hrA hbb htb hob5 hfr hto hOb hgb hat hrow hPa hL hsa c2 HT HO5
   go_upto_region 8 with fail
   generalize wb.setCell ⟨pp,2,none⟩ (.slice (some ⟨gg,0,none⟩) (p.ts.length+1) cap)=w8 at HTO HT8 HO8 hB8 ⊢
   clear f2 d2 hpb hpl
   have e0:ansN (p.m.n:Int) 0=(p.m.n:Int):=rfl
   rw [e0] at HT8
   clear e0
   obtain ⟨hf1,hf2⟩:=HFM.out rfl
   have htw:TW w8 m'.n ⟨p.m.n,A5,C5,zz⟩:=⟨by rw [HMN.out],HO8.out,by rw [HMN.out];exact hf1,hf2⟩
   have HTW:=Lib.hid htw
   have c3:=HTO.out.1.c3
   simp only at c3
   rw [HTL.out] at c3
   have hpl:=HTO.out.1.blk.lt
   have t0:=HT8.out.cell 0
   have t1:=HT8.out.cell 1
   have tl:=HT8.out.lt
   simp at t0 t1
   have npp:¬ rowOf q.tA pp:=fun ⟨x,hx,h⟩=>HTO.out.1.ts.ne_blk HTO.out.1.blk (by decide) x hx h
   have nT:¬ rowOf q.tA T:=fun h=>by
    have:=row_lt HP.out.ts h
    omega
   clear hf1 hf2 htw
   refine wp_phS (fun b=>rowOf q.tA b) [([0,1,2,3,4,5],6),([],7),([8,9],10)] (by kernel_rfl) (by kernel_rfl) ?_
   simp only [wpPh,pick,List.map_cons,List.map_nil,List.getD_cons_zero,List.getD_cons_succ]
   have hs:Same w8 w8.drew:=(Frm.refl _ _).drew
   repeat (any_goals (first | go_big_quiet_step (fail) | quiet_step (fail)))
   refine wpQuiet_nil ?_
   refine effStep_plain rfl fun K hK=>?_
   go_simp
   refine hK _ _ (Lat.mk_ (Frm.mono (hs.alloc _) (fun _ _ h=>h.elim))) ?_
   clear hK K
   refine wpQuiet_nil ?_
   refine effStep_plain rfl fun K hK=>?_
   have hL:Blk (w8.alloc (.cells #[.int .i64 p.m.n,.slice A5 zz.length C5] 108)).drew w8.heap.size 108 #[.int .i64 p.m.n,.slice A5 zz.length C5]:=(Blk.new w8 _ _).drew
   have hsl:Same w8 (w8.alloc (.cells #[.int .i64 p.m.n,.slice A5 zz.length C5] 108)).drew:=((Frm.refl _ _).alloc _).drew
   generalize (w8.alloc (.cells #[.int .i64 p.m.n,.slice A5 zz.length C5] 108)).drew=wl at hL hsl ⊢
   have hPl:=HTO.out.1.same hsl
   have hrow:Go.Tk.Own wl 108 2 Tb.cells q.tA p.ts.length q.tC q.tt:=by rw [← HTL.out];exact hPl.ts
   refine Own.append (.tmp 101) (.tmp 103) _ rfl Tryz.underlying55 info_tbl rfl (by omega) rfl hrow Tb.cells_len ⟨p.m.n,A5,C5,zz⟩ w8.heap.size 1 rfl (by unfold Tb.cells;exact hL) (by simp [Value.oneCell',Tb.cells]) (by rw [HTL.out];unfold maxLen;have:=HTTL.out;omega) (by rw [HTL.out];have:=HTTL.out;omega) ?_
   intro gg2 cap2 wb2 hOb hgb hat
   refine hK _ _ (Lat.mk_ ?_) ?_
   ·exact (Frm.mono hsl (fun _ _ h=>h.elim)).grown hgb (fun g hg=>.inl (ownBlock_row.1 hg))
   clear hK K
   have hbb:=hPl.blk.grown hgb (fun hx=>by
    obtain ⟨x,hx,hxb⟩:=ownBlock_row.1 hx.symm
    exact npp ⟨x,hx,hxb⟩)
   have f3:=hbb.free 3
   have d3:=hbb.cell 3
   have hpb:=hbb.lt
   simp [pcells] at d3
   rw [HTL.out] at d3
   have hfr:Frm (fun b=>b=pp∨rowOf q.tA b) w8 wb2:=(Frm.mono hsl (fun _ _ h=>h.elim)).grown hgb (fun g hg=>.inl (.inr (ownBlock_row.1 hg)))
   have hto:=HTO.out.1.ts_to (w':=wb2.setCell ⟨pp,3,none⟩ (.slice (some ⟨gg2,0,none⟩) (p.ts.length+1) cap2)) (us:=q.tt ++ [⟨p.m.n,A5,C5,zz⟩]) (A2:=some ⟨gg2,0,none⟩) (C2:=cap2) (hfr.set 3 _ (.inl rfl)) (by
     have:=hbb.set 3 (.slice (some ⟨gg2,0,none⟩) (p.ts.length+1) cap2)
     simpa [pcells,HTL.out] using this)
    (by
     have:=Own.far (p:=⟨pp,3,none⟩) hOb (fun x hx h=>Own.ne_blk hOb hbb (by decide) x hx h) (.slice (some ⟨gg2,0,none⟩) (p.ts.length+1) cap2)
     rw [List.length_append,HTL.out]
     exact this)
    (fun t ht=>by
     rcases List.mem_append.1 ht with ht | ht
     ·exact HTO.out.1.tt t ht
     ·simp at ht
      subst ht
      exact HTW.out)
    (fun b hb=>by
     obtain ⟨x,hx,rfl⟩:=hb
     injection hx with hx
     subst hx
     rcases hat with h | h
     ·exact .inl (ownBlock_row.1 h)
     ·have:=hsl.size
      exact .inr (by simp only;omega)) hB8
   have hte:(q.tt ++ [(⟨p.m.n,A5,C5,zz⟩:Tb)]).map Tb.ws=p.ts ++ [zz]:=by rw [List.map_append,HP.out.te];rfl
   rw [hte] at hto
   have HTS:=Lib.hid hto
   have hB9:∀ b,B b→b < (wb2.setCell ⟨pp,3,none⟩ (.slice (some ⟨gg2,0,none⟩) (p.ts.length+1) cap2)).heap.size:=fun b hb=>by rw [size_setCell];have:=hB8 b hb;have:=hfr.size;omega
   clear hbb hfr hto hte hOb hgb hat hrow hPl hL hsl hs c3 t0 t1 tl npp nT hpl
   repeat (any_goals (first | go_big_quiet_step (fail) | quiet_step (fail)))
   refine wpQuiet_nil ?_
   go_upto_region 9 with fail
   generalize wb2.setCell ⟨pp,3,none⟩ (.slice (some ⟨gg2,0,none⟩) (p.ts.length+1) cap2)=w9 at HTS hB9 ⊢
   clear f3 d3 hpb
   have c5:=HTS.out.1.c5
   simp only at c5
   rw [HDL.out] at c5
   have hpl:=HTS.out.1.blk.lt
   refine wp_read 5 ?_
   simp only [List.take_succ_cons,List.take_zero,List.drop_succ_cons,List.drop_zero]
   repeat (any_goals (first | go_big_quiet_step (fail) | quiet_step (fail)))
   refine wpQuiet_nil ?_
   refine wpList_plain rfl fun K hK=>?_
   go_simp
   refine hK _ _ ?_
   clear hK K
   refine list_world fun wa hwa=>?_
   have hL:=Blk.new w9 4 #[.bool false]
   have hsa:Same w9 wa:=by rw [hwa];exact (Frm.refl _ _).alloc _
   rw [← hwa] at hL
   clear hwa
   have hPa:=HTS.out.1.same hsa
   have hrow:OwnB wa q.dA p.ts.length q.dC p.dead:=by rw [← HDL.out];exact hPa.ds
   refine Own.append_list (f:=fun b:Bool=>[.bool b]) rfl (.tmp 111) (.tmp 112) _ rfl Tryz.underlying56 info_bool rfl (by omega) rfl hrow (fun _=>rfl) false w9.heap.size 1 rfl hL (by simp [Value.oneCell']) (by rw [HDL.out];unfold maxLen;have:=HTTL.out;omega) (by rw [HDL.out];have:=HTTL.out;omega) ?_
   intro gg3 cap3 wb3 hOb hgb hat
   have hbb:=hPa.blk.grown hgb (fun hx=>by
    obtain ⟨x,hx,hxb⟩:=ownBlock_row.1 hx.symm
    exact hrow.ne_blk hPa.blk (by decide) x hx hxb)
   have f5:=hbb.free 5
   have d5:=hbb.cell 5
   have hpb:=hbb.lt
   simp [pcells] at d5
   rw [HDL.out] at d5
   have hfr:Frm (fun b=>b=pp∨rowOf q.dA b) w9 wb3:=(Frm.mono hsa (fun _ _ h=>h.elim)).grown hgb (fun g hg=>.inl (.inr (ownBlock_row.1 hg)))
   have hto:=HTS.out.1.ds_to (w':=wb3.setCell ⟨pp,5,none⟩ (.slice (some ⟨gg3,0,none⟩) (p.ts.length+1) cap3)) (ds:=p.dead ++ [false]) (A2:=some ⟨gg3,0,none⟩) (C2:=cap3) (hfr.set 5 _ (.inl rfl)) (by
     have:=hbb.set 5 (.slice (some ⟨gg3,0,none⟩) (p.ts.length+1) cap3)
     simpa [pcells,HDL.out] using this)
    (by
     have:=Own.far (p:=⟨pp,5,none⟩) hOb (fun x hx h=>Own.ne_blk hOb hbb (by decide) x hx h) (.slice (some ⟨gg3,0,none⟩) (p.ts.length+1) cap3)
     rw [List.length_append,HDL.out]
     exact this)
    (fun b hb=>by
     obtain ⟨x,hx,rfl⟩:=hb
     injection hx with hx
     subst hx
     rcases hat with h | h
     ·exact .inl (ownBlock_row.1 h)
     ·have:=hsa.size
      exact .inr (by simp only;omega)) hB9
   have HDS:=Lib.hid hto
   clear hbb hfr hto hOb hgb hat hrow hPa hL hsa c5 hpl
   go_wp2
   go_ret
   have hPP:=HPP.out
   subst hPP
   exact ⟨rfl,⟨_,HDS.out.1⟩,((HU5.out.trans HTO.out.2).trans HTS.out.2).trans HDS.out.2⟩
  ·have hPP:=HPP.out
   rw [if_neg hE] at hPP
   subst hPP
   have hr0:=HZ.out hE
   subst hr0
   have hb:(E != 0)=true:=by simpa using hE
   go_wp2
   go_ret
   exact ⟨rfl,⟨_,HP5.out⟩,HU5.out⟩
end
section
variable {w w':World} {B:Nat→Prop} {pp:Nat} {p:PS} {q:PA}
theorem does_make (pp:Nat) (x y z:Int) (R:World→Ending→World→Prop) (hM:∀ w',Same w w'→Calls Tryz.prog 73 #[.pointer (some ⟨pp,0,none⟩),.agg #[.int .i64 1,.int .i64 x,.int .i64 y,.int .i64 z]] w' fun e w''=>e=.returned (.bool true)∧R w' e w'') :
  Calls Tryz.prog 31 #[.pointer (some ⟨pp,0,none⟩),.agg #[.int .i64 1,.int .i64 x,.int .i64 y,.int .i64 z]] w fun e w''=>e=.returned (.bool true)∧∃ w',Same w w'∧R w' e w'':=by
 have HM:=Lib.hid hM
 clear hM
 go_enter Tryz.func31,Tryz.ntmps31
 go_wp2_with (fail)
 refine (HM.out _ ((Frm.refl _ _).alloc _)).mono ?_
 rintro e w2 ⟨rfl,hR⟩
 have HR:=Lib.hid hR
 clear hR
 go_wp2
 go_ret
 exact ⟨rfl,_,(Frm.refl _ _).alloc _,HR.out⟩
def exchP (p:PS) (l:Int):PS:={ p with k:=(exchK p.k l).2,m:=(exchM p.m l).1 }
theorem does_exch (hP:PW B w pp p q) (hB:∀ b,B b→b < w.heap.size) (l y z:Int) (hn:p.k.n≤64) (hT:0≤l→l≤(p.k.n:Int) - 2→∃ x y,TurnOk p.k l.toNat x y) (htk:(p.k.tr.length+1) * 8≤140737488355328) (ho:OrdOk p.m) (hon:p.m.ord.length=p.m.n) (htm:p.m.tr.length < 10000000000000)
  (hag:(exchK p.k l).1=(exchM p.m l).2) (hkn:(exchK p.k l).2.n=p.k.n) (hmn:(exchM p.m l).1.n=p.m.n) :
  Calls Tryz.prog 31 #[.pointer (some ⟨pp,0,none⟩),.agg #[.int .i64 4,.int .i64 l,.int .i64 y,.int .i64 z]] w fun e w'=>e=.returned (.bool true)∧(∃ q',PW B w' pp (exchP p l) q')∧Up B w w':=by
 have hke:=fun w' (hs:Same w w')=>kexch_any (hP.same hs).k hn l hT htk
 have hme:=fun w' (b:MA) (hM:MW w' q.mp p.m b)=>exch9_any hM ho hon htm l
 unfold exchP
 obtain ⟨⟨E,k'⟩,hkk⟩:∃ z,exchK p.k l=z:=⟨_,rfl⟩
 obtain ⟨⟨m',F⟩,hmm⟩:∃ z,exchM p.m l=z:=⟨_,rfl⟩
 rw [hkk] at hke hag hkn ⊢
 rw [hmm] at hme hag hmn ⊢
 simp only at hag hkn hmn hke hme ⊢
 subst hag
 have HP:=Lib.hid hP
 have HKE:=Lib.hid hke
 have HME:=Lib.hid hme
 have HKN:=Lib.hid hkn
 have HMN:=Lib.hid hmn
 have hpl0:=hP.blk.lt
 clear hP hke hme hkn hmn hkk hmm hT htk ho hon htm hn
 go_enter Tryz.func31,Tryz.ntmps31
 go_upto_region 9 with fail
 refine wp_world fun w1 hw1=>?_
 have hO:=Blk.new w 60 #[.int .i64 4,.int .i64 l,.int .i64 y,.int .i64 z]
 have hs1:Same w w1:=by rw [hw1];exact (Frm.refl _ _).alloc _
 rw [← hw1] at hO
 clear hw1
 have o1:=hO.cell 1
 have ol:=hO.lt
 simp at o1
 have hP1:=HP.out.same hs1
 have c0:=hP1.c0
 have c1:=hP1.c1
 have hpl:=hP1.blk.lt
 have mpp:¬ MFp q.mp q.b pp:=by
  rintro (hb | ⟨x,hx,hm⟩ | ⟨x,hx,hm⟩ | ⟨x,hx,hm⟩)
  ·have:=hP1.blk
   rw [hb] at this
   exact absurd (Blk.inj this hP1.m.blk).1 (by decide)
  ·exact hP1.m.ord.ne_blk hP1.blk (by decide) x hx hm
  ·exact hP1.m.hs.ne_blk hP1.blk (by decide) x hx hm
  ·exact hP1.m.tr.ne_blk hP1.blk (by decide) x hx hm
 have spp:¬ (KFp p.k.n q.kp q.a pp∨MFp q.mp q.b pp):=fun h=>h.elim (fun h=>hP1.kl pp (.inl rfl) h) mpp
 have sob:¬ (KFp p.k.n q.kp q.a w.heap.size∨MFp q.mp q.b w.heap.size):=fun h=>h.elim (fun h=>by have:=HP.out.k.lt h;omega) (fun h=>by have:=HP.out.m.lt h;omega)
 have HS1:=Lib.hid hs1
 have HP1:=Lib.hid hP1
 have hB1:∀ b,B b→b < w1.heap.size:=fun b hb=>by have:=hB b hb;have:=hs1.size;omega
 clear hO hs1 hP1 mpp hpl0
 refine wp_phS (fun b=>KFp p.k.n q.kp q.a b∨MFp q.mp q.b b) [([0,1,2,3,4,5,7,8,9,10,11,12],6),([],13),([14],15)] (by kernel_rfl) (by kernel_rfl) ?_
 have hs:Same w1 w1.drew:=(Frm.refl _ _).drew
 rw [wpPh_go_eq]
 simp only [pick,List.map_cons,List.map_nil,List.getD_cons_zero,List.getD_cons_succ]
 repeat go_big_quiet_step (fail)
 refine wpQuiet_nil ?_
 refine effStep_plain rfl fun K hK=>?_
 go_simp
 refine (HKE.out _ (HS1.out.trans hs (fun _ _ h=>h))).mono ?_
 rintro e w2 ⟨rfl,a2,hk2,hg2⟩
 have hP2:=(HP1.out.same hs).kernel hk2 hg2 HKN.out hB1
 have hf2:Frm (fun b=>KFp p.k.n q.kp q.a b) w1 w2:=(hs.mono (fun _ _ h=>h.elim)).trans hg2.frm (fun _ _ h=>h)
 refine hK _ _ (Lat.mk_ (hf2.mono (fun _ _ h=>.inl h))) ?_
 clear hK K
 have HP2:=Lib.hid hP2.1
 have HU2:=Lib.hid (Up.trans (Up.ofSame (HS1.out.trans hs (fun _ _ h=>h))) hP2.2)
 have HF2:=Lib.hid hf2
 have hB2:∀ b,B b→b < w2.heap.size:=fun b hb=>by have:=hB1 b hb;have:=hf2.size;omega
 clear hP2 hk2 hg2 hf2 hs
 rw [wpPh_go_eq]
 simp only [pick,List.map_nil,List.getD_cons_zero,List.getD_cons_succ]
 refine wpQuiet_nil ?_
 refine effStep_plain rfl fun K hK=>?_
 go_simp
 refine (HME.out _ _ HP2.out.m).mono ?_
 rintro e w3 ⟨rfl,b3,hm3,hg3⟩
 have hP3:=HP2.out.model hm3 hg3 HMN.out hB2
 refine hK _ _ (Lat.mk_ ((HF2.out.mono (fun _ _ h=>.inl h)).trans hg3.frm (fun _ _ h=>.inr h))) ?_
 clear hK K
 have HP3:=Lib.hid hP3.1
 have HU3:=Lib.hid (HU2.out.trans hP3.2)
 clear hP3 hm3 hg3
 rw [wpPh_end_eq]
 simp only [pick,List.map_cons,List.map_nil,List.getD_cons_zero,List.getD_cons_succ]
 repeat go_big_quiet_step (fail)
 refine wpQuiet_nil ?_
 go_wp2
 go_ret
 exact ⟨by simp,⟨_,HP3.out⟩,HU3.out⟩
end
section
variable {w w':World} {B:Nat→Prop} {pp:Nat} {p:PS} {q:PA}
def dropP (p:PS) (i:Int):PS:={ p with k:=(dropK p.k (p.refs.getD i.toNat 0)).2,m:=(dropM p.m (p.ts.getD i.toNat [])).1 }
theorem does_drop (hP:PW B w pp p q) (hB:∀ b,B b→b < w.heap.size) (hb:Bk p.k [] []) (hc:HcOk p.m) (hd:p.dead.length=p.ts.length) (hr:p.refs.length=p.ts.length) (hll:p.live.length≤2097152000000) (hrg:∀ x∈p.refs,0≤x∧x < 4294967296) (i y z:Int) (hL:livesB p i=true)
  (hag:(dropK p.k (p.refs.getD i.toNat 0)).1=(dropM p.m (p.ts.getD i.toNat [])).2) (hkn:(dropK p.k (p.refs.getD i.toNat 0)).2.n=p.k.n) (hmn:(dropM p.m (p.ts.getD i.toNat [])).1.n=p.m.n) :
  Calls Tryz.prog 31 #[.pointer (some ⟨pp,0,none⟩),.agg #[.int .i64 3,.int .i64 i,.int .i64 y,.int .i64 z]] w fun e w'=>e=.returned (.bool true)∧(∃ q',PW B w' pp (dropP p i) q')∧Up B w w':=by
 have hlb:=fun w' (hs:Same w w')=>lives_law (hP.same hs) hd hll i
 rw [hL] at hlb
 obtain ⟨m,rfl,hm⟩:=lives_range hL
 obtain ⟨r,hrr⟩:∃ r,p.refs[m]?=some r:=⟨_,List.getElem?_eq_getElem (by omega)⟩
 obtain ⟨t,ht⟩:∃ t,q.tt[m]?=some t:=⟨_,List.getElem?_eq_getElem (by rw [hP.tl];exact hm)⟩
 have hte:p.ts.getD m []=t.ws:=by rw [List.getD_eq_getElem?_getD,← hP.te,List.getElem?_map,ht];rfl
 have hre:p.refs.getD m 0=r:=by rw [List.getD_eq_getElem?_getD,hrr];rfl
 unfold dropP
 rw [Int.toNat_natCast,hte,hre] at hag ⊢
 rw [Int.toNat_natCast,hre] at hkn
 rw [Int.toNat_natCast,hte] at hmn
 have gr:=hrg r (List.mem_of_getElem? hrr)
 have hke:=fun w' (hs:Same w w')=>kdrop_any (hP.same hs).k hb r gr.1 gr.2
 have hme:=fun w' (b:MA) (hM:MW w' q.mp p.m b) (h1:TW w' p.m.n t)=>docDrop9_any hM h1 hc
 obtain ⟨⟨E,k'⟩,hkk⟩:∃ z,dropK p.k r=z:=⟨_,rfl⟩
 obtain ⟨⟨m',F⟩,hmm⟩:∃ z,dropM p.m t.ws=z:=⟨_,rfl⟩
 rw [hkk] at hke hag hkn ⊢
 rw [hmm] at hme hag hmn ⊢
 simp only at hag hkn hmn hke hme ⊢
 subst hag
 have HP:=Lib.hid hP
 have HLB:=Lib.hid hlb
 have HKE:=Lib.hid hke
 have HME:=Lib.hid hme
 have HKN:=Lib.hid hkn
 have HMN:=Lib.hid hmn
 have HT:=Lib.hid ht
 have HR:=Lib.hid hrr
 have HRL:=Lib.hid hr
 have HTL:=Lib.hid hP.tl
 have hpl0:=hP.blk.lt
 clear hP hlb hke hme hkn hmn hkk hmm hb hc hd hr hll hrg hL ht hrr hte hre gr
 go_enter Tryz.func31,Tryz.ntmps31
 go_upto_region 7 with fail
 refine wp_world fun w1 hw1=>?_
 have hO:=Blk.new w 60 #[.int .i64 3,.int .i64 m,.int .i64 y,.int .i64 z]
 have hs1:Same w w1:=by rw [hw1];exact (Frm.refl _ _).alloc _
 rw [← hw1] at hO
 clear hw1
 have o1:=hO.cell 1
 have ol:=hO.lt
 simp at o1
 have hP1:=HP.out.same hs1
 have c0:=hP1.c0
 have c1:=hP1.c1
 have c2:=hP1.c2
 have c3:=hP1.c3
 have hpl:=hP1.blk.lt
 have mpp:¬ MFp q.mp q.b pp:=by
  rintro (hb | ⟨x,hx,hm⟩ | ⟨x,hx,hm⟩ | ⟨x,hx,hm⟩)
  ·have:=hP1.blk
   rw [hb] at this
   exact absurd (Blk.inj this hP1.m.blk).1 (by decide)
  ·exact hP1.m.ord.ne_blk hP1.blk (by decide) x hx hm
  ·exact hP1.m.hs.ne_blk hP1.blk (by decide) x hx hm
  ·exact hP1.m.tr.ne_blk hP1.blk (by decide) x hx hm
 obtain ⟨rb,hrb,hrbl,dr⟩:=hP1.refs.at1 (c:=rc) HR.out
 obtain ⟨tb,htb,htbl,t0,t1⟩:=hP1.tat HT.out
 have srb:¬ (KFp p.k.n q.kp q.a rb∨MFp q.mp q.b rb):=fun h=>h.elim (hP1.kl rb (.inr (.inl ⟨_,hrb,rfl⟩))) (hP1.m.ne_own hP1.refs (by decide) (by decide) (by decide) rb ⟨_,hrb,rfl⟩)
 have stb:¬ (KFp p.k.n q.kp q.a tb∨MFp q.mp q.b tb):=fun h=>h.elim (hP1.kl tb (.inr (.inr (.inl ⟨_,htb,rfl⟩)))) (hP1.m.ne_own hP1.ts (by decide) (by decide) (by decide) tb ⟨_,htb,rfl⟩)
 rw [hrb,HRL.out] at c2
 rw [htb,HTL.out] at c3
 unfold rc at dr
 have im:(m:Int) < p.ts.length:=by omega
 have spp:¬ (KFp p.k.n q.kp q.a pp∨MFp q.mp q.b pp):=fun h=>h.elim (fun h=>hP1.kl pp (.inl rfl) h) mpp
 have sob:¬ (KFp p.k.n q.kp q.a w.heap.size∨MFp q.mp q.b w.heap.size):=fun h=>h.elim (fun h=>by have:=HP.out.k.lt h;omega) (fun h=>by have:=HP.out.m.lt h;omega)
 have hty:=hP1.tt t (List.mem_of_getElem? HT.out)
 have HTY:=Lib.hid hty
 have HS1:=Lib.hid hs1
 have HP1:=Lib.hid hP1
 have hB1:∀ b,B b→b < w1.heap.size:=fun b hb=>by have:=hB b hb;have:=hs1.size;omega
 clear hO hs1 hP1 mpp hpl0 hrb htb hty
 refine wp_phS (fun b=>KFp p.k.n q.kp q.a b∨MFp q.mp q.b b) [([0,1,2],3),([4,5,6,7,8,9,10,11,12,13,14,15,16,17,19,20,21,22,23,24,25,26,27,28,29,30],18),([],31),([32,33],34)] (by kernel_rfl) (by kernel_rfl) ?_
 have hs:Same w1 w1.drew:=(Frm.refl _ _).drew
 rw [wpPh_go_eq]
 simp only [pick,List.map_cons,List.map_nil,List.getD_cons_zero,List.getD_cons_succ]
 repeat go_big_quiet_step (fail)
 refine wpQuiet_nil ?_
 refine effStep_plain rfl fun K hK=>?_
 go_simp
 refine (HLB.out _ (HS1.out.trans hs (fun _ _ h=>h))).mono ?_
 rintro e w1a ⟨rfl,hs1a⟩
 have hsa:=hs.trans hs1a (fun _ _ h=>h)
 refine hK _ _ (Lat.mk_ (hsa.mono (fun _ _ h=>h.elim))) ?_
 clear hK K hs hs1a
 rw [wpPh_go_eq]
 simp only [pick,List.map_cons,List.map_nil,List.getD_cons_zero,List.getD_cons_succ]
 repeat go_big_quiet_step (fail)
 refine wpQuiet_nil ?_
 refine effStep_on (by rfl) fun K hK=>?_
 go_simp
 refine (HKE.out _ (HS1.out.trans hsa (fun _ _ h=>h))).mono ?_
 rintro e w2 ⟨rfl,a2,hk2,hg2⟩
 have hP2:=(HP1.out.same hsa).kernel hk2 hg2 HKN.out (fun b hb=>by have:=hB1 b hb;have:=hsa.size;omega)
 have hf2:Frm (fun b=>KFp p.k.n q.kp q.a b) w1 w2:=(hsa.mono (fun _ _ h=>h.elim)).trans hg2.frm (fun _ _ h=>h)
 refine hK _ _ (Lat.mk_ (hf2.mono (fun _ _ h=>.inl h))) ?_
 clear hK K
 have HP2:=Lib.hid hP2.1
 have HU2:=Lib.hid (Up.trans (Up.ofSame (HS1.out.trans hsa (fun _ _ h=>h))) hP2.2)
 have HF2:=Lib.hid hf2
 have hB2:∀ b,B b→b < w2.heap.size:=fun b hb=>by have:=hB1 b hb;have:=hf2.size;omega
 clear hP2 hk2 hg2 hf2 hsa
 have htw2:=HP2.out.tt t (List.mem_of_getElem? HT.out)
 have hme:=HME.out _ _ HP2.out.m htw2
 unfold Tb.val at hme
 rw [htw2.N] at hme
 have HME2:=Lib.hid hme
 clear htw2 hme
 rw [wpPh_go_eq]
 simp only [pick,List.map_nil,List.getD_cons_zero,List.getD_cons_succ]
 refine wpQuiet_nil ?_
 refine effStep_on (by rfl) fun K hK=>?_
 go_simp
 refine HME2.out.mono ?_
 rintro e w3 ⟨rfl,b3,hm3,hg3⟩
 have hP3:=HP2.out.model hm3 hg3 HMN.out hB2
 refine hK _ _ (Lat.mk_ ((HF2.out.mono (fun _ _ h=>.inl h)).trans hg3.frm (fun _ _ h=>.inr h))) ?_
 clear hK K
 have HP3:=Lib.hid hP3.1
 have HU3:=Lib.hid (HU2.out.trans hP3.2)
 clear hP3 hm3 hg3
 rw [wpPh_end_eq]
 simp only [pick,List.map_cons,List.map_nil,List.getD_cons_zero,List.getD_cons_succ]
 repeat go_big_quiet_step (fail)
 refine wpQuiet_nil ?_
 go_wp2
 go_ret
 exact ⟨by simp,⟨_,HP3.out⟩,HU3.out⟩
end
def beginP (n c:Nat):PS:=⟨newK n c,newM n c,[0,1],[constT n false,constT n true],[],[false,false]⟩
def bgV (n c kp W:Nat):Nat→Value→World→Prop
 | 0,v,_=>v=.pointer (some ⟨kp,0,none⟩)
 | 1,v,_=>v=.int .i64 n
 | 2,v,_=>v=.int .i64 c
 | 3,v,w=>∃ mp b,v=.pointer (some ⟨mp,0,none⟩)∧MW w mp (newM n c) b∧∀ x,MFp mp b x→W≤x
 | 4,v,w=>∃ g,v=.slice (some ⟨g,0,none⟩) 2 2∧Blk w g 28 #[.int .u32 0,.int .u32 1]∧W≤g
 | 5,v,_=>v=.int .i64 n
 | 6,v,w=>∃ A C,v=.agg #[.int .i64 n,.slice A (constT n false).length C]∧OwnW w A (constT n false).length C (constT n false)
 | 7,v,_=>v=.int .i64 n
 | 8,v,w=>∃ A C,v=.agg #[.int .i64 n,.slice A (constT n true).length C]∧OwnW w A (constT n true).length C (constT n true)
 | 9,v,w=>∃ g A C A2 C2,v=.slice (some ⟨g,0,none⟩) 2 2∧Blk w g 108 #[.int .i64 n,.slice A (constT n false).length C,.int .i64 n,.slice A2 (constT n true).length C2]∧OwnW w A (constT n false).length C (constT n false)∧OwnW w A2 (constT n true).length C2 (constT n true)∧W≤g
 | 10,v,w=>∃ g,v=.slice (some ⟨g,0,none⟩) 2 2∧Blk w g 4 #[.bool false,.bool false]∧W≤g
 | 11,v,w=>∃ mp b g gt A C A2 C2 gd,v=.agg #[.pointer (some ⟨kp,0,none⟩),.pointer (some ⟨mp,0,none⟩),.slice (some ⟨g,0,none⟩) 2 2,.slice (some ⟨gt,0,none⟩) 2 2,.slice none 0 0,.slice (some ⟨gd,0,none⟩) 2 2] ∧
   MW w mp (newM n c) b∧(∀ x,MFp mp b x→W≤x)∧Blk w g 28 #[.int .u32 0,.int .u32 1]∧Blk w gt 108 #[.int .i64 n,.slice A (constT n false).length C,.int .i64 n,.slice A2 (constT n true).length C2]∧OwnW w A (constT n false).length C (constT n false)∧OwnW w A2 (constT n true).length C2 (constT n true)∧Blk w gd 4 #[.bool false,.bool false]∧W≤g∧W≤gt∧W≤gd
 | 12,v,w=>∃ pp,v=.pointer (some ⟨pp,0,none⟩)∧W≤pp∧∃ mp b g gt A C A2 C2 gd,Blk w pp 58 #[.pointer (some ⟨kp,0,none⟩),.pointer (some ⟨mp,0,none⟩),.slice (some ⟨g,0,none⟩) 2 2,.slice (some ⟨gt,0,none⟩) 2 2,.slice none 0 0,.slice (some ⟨gd,0,none⟩) 2 2] ∧
   MW w mp (newM n c) b∧(∀ x,MFp mp b x→W≤x)∧Blk w g 28 #[.int .u32 0,.int .u32 1]∧Blk w gt 108 #[.int .i64 n,.slice A (constT n false).length C,.int .i64 n,.slice A2 (constT n true).length C2]∧OwnW w A (constT n false).length C (constT n false)∧OwnW w A2 (constT n true).length C2 (constT n true)∧Blk w gd 4 #[.bool false,.bool false]∧W≤g∧W≤gt∧W≤gd
 | 13,v,w=>∃ pp,v=.pointer (some ⟨pp,0,none⟩)∧W≤pp∧∃ mp b g gt A C A2 C2 gd,Blk w pp 58 #[.pointer (some ⟨kp,0,none⟩),.pointer (some ⟨mp,0,none⟩),.slice (some ⟨g,0,none⟩) 2 2,.slice (some ⟨gt,0,none⟩) 2 2,.slice none 0 0,.slice (some ⟨gd,0,none⟩) 2 2] ∧
   MW w mp (newM n c) b∧(∀ x,MFp mp b x→W≤x)∧Blk w g 28 #[.int .u32 0,.int .u32 1]∧Blk w gt 108 #[.int .i64 n,.slice A (constT n false).length C,.int .i64 n,.slice A2 (constT n true).length C2]∧OwnW w A (constT n false).length C (constT n false)∧OwnW w A2 (constT n true).length C2 (constT n true)∧Blk w gd 4 #[.bool false,.bool false]∧W≤g∧W≤gt∧W≤gd
 | 14,v,_=>v=.bool true
 | _,_,_=>True
theorem bgV_same {n c kp W:Nat}:∀ i v w1 w2,bgV n c kp W i v w1→Same w1 w2→bgV n c kp W i v w2:=by
 intro i v w1 w2 h hs
 match i with
 | 0 | 1 | 2 | 5 | 7 | 14=>exact h
 | 3=>obtain ⟨mp,b,h1,h2,h3⟩:=h;exact ⟨mp,b,h1,h2.same hs,h3⟩
 | 4=>obtain ⟨g,h1,h2,h3⟩:=h;exact ⟨g,h1,h2.frm hs id,h3⟩
 | 6=>obtain ⟨A,C,h1,h2⟩:=h;exact ⟨A,C,h1,h2.frm hs (fun _ _=>id)⟩
 | 8=>obtain ⟨A,C,h1,h2⟩:=h;exact ⟨A,C,h1,h2.frm hs (fun _ _=>id)⟩
 | 9=>obtain ⟨g,A,C,A2,C2,h1,h2,h3,h4,h5⟩:=h;exact ⟨g,A,C,A2,C2,h1,h2.frm hs id,h3.frm hs (fun _ _=>id),h4.frm hs (fun _ _=>id),h5⟩
 | 10=>obtain ⟨g,h1,h2,h3⟩:=h;exact ⟨g,h1,h2.frm hs id,h3⟩
 | 11=>obtain ⟨mp,b,g,gt,A,C,A2,C2,gd,h0,h1,h2,h3,h4,h5,h6,h7,h8⟩:=h;exact ⟨mp,b,g,gt,A,C,A2,C2,gd,h0,h1.same hs,h2,h3.frm hs id,h4.frm hs id,h5.frm hs (fun _ _=>id),h6.frm hs (fun _ _=>id),h7.frm hs id,h8⟩
 | 12=>obtain ⟨pp,k1,k2,mp,b,g,gt,A,C,A2,C2,gd,h0,h1,h2,h3,h4,h5,h6,h7,h8⟩:=h;exact ⟨pp,k1,k2,mp,b,g,gt,A,C,A2,C2,gd,h0.frm hs id,h1.same hs,h2,h3.frm hs id,h4.frm hs id,h5.frm hs (fun _ _=>id),h6.frm hs (fun _ _=>id),h7.frm hs id,h8⟩
 | 13=>obtain ⟨pp,k1,k2,mp,b,g,gt,A,C,A2,C2,gd,h0,h1,h2,h3,h4,h5,h6,h7,h8⟩:=h;exact ⟨pp,k1,k2,mp,b,g,gt,A,C,A2,C2,gd,h0.frm hs id,h1.same hs,h2,h3.frm hs id,h4.frm hs id,h5.frm hs (fun _ _=>id),h6.frm hs (fun _ _=>id),h7.frm hs id,h8⟩
 | _+15=>trivial
theorem dep_of {o:Oper} {F:Nat→Prop} (h:∀ e∈o.after,Region.binds .any e=true→F e.on) (j:Nat) (hj:(o.after.any fun e=>Region.binds .any e && e.on == j)=true):F j:=by
 rw [Array.any_eq_true'] at hj
 obtain ⟨e,he,hb⟩:=hj
 simp only [Bool.and_eq_true,beq_iff_eq] at hb
 rw [← hb.2]
 exact h e he hb.1
theorem act_lit (a:Act) (n:Nat) (h:a.tmps.size=n):a=⟨((List.range n).map fun i=>a.tmps.getD i undef).toArray,a.defers⟩:=by
 obtain ⟨t,d⟩:=a
 congr 1
 apply Array.ext
 ·simp [← h]
 ·intro i h1 h2
  simp [Array.getD_eq_getD_getElem?,h1]
theorem Own.ofBlk {w:World} {e:TypeId} {m:Nat} {α:Type} {f:α→List Value} (hf:∀ x,(f x).length=m) {g:Nat} {cs:Array Value} (hb:Blk w g e cs) (xs:List α) (hmax:xs.length≤maxLen) (hcs:cs=(xs.flatMap f).toArray):Go.Tk.Own w e m f (some ⟨g,0,none⟩) xs.length xs.length xs:=by
 subst hcs
 refine ⟨rfl,flat_length f m hf xs,.inr ⟨g,xs.length,_,rfl,Nat.zero_le _,hb,Nat.le_refl _,hmax,?_,?_⟩⟩
 ·rw [List.size_toArray,flat_length f m hf]
 ·rw [List.toList_toArray]
  apply List.take_of_length_le
  rw [flat_length f m hf]
  exact Nat.le_refl _
section
variable {w w':World} {n:Nat}
theorem begin_law (n c:Nat) (h1:1≤n) (h2:n≤16) (h3:2≤c) (h4:c≤1048576) (w:World) :
  Calls Tryz.prog 27 #[.int .i64 n,.int .i64 c] w fun e w'=>∃ pp q,e=.returned (.tuple #[.pointer (some ⟨pp,0,none⟩),.bool true])∧PW (fun b=>b < w.heap.size) w' pp (beginP n c) q∧Same w w':=by
 have hnw:=knew_any (w:=w) n c h1 (by omega) h3 h4
 have hnm:=fun w'=>newModel_any n c w' h2
 have hct:∀ (b:Bool) w',Calls Tryz.prog 65 #[.int .i64 n,.bool b] w' (RetT w' n (constT n b)):=fun b w'=>const5_any n b w' h2
 have HNW:=Lib.hid hnw
 have HNM:=Lib.hid hnm
 have HCT:=Lib.hid hct
 have hn16:=Lib.hid h2
 clear hnw hnm hct h1 h2 h3 h4
 go_enter Tryz.func27,Tryz.ntmps27
 go_wp2_with (fail)
 refine HNW.out.mono ?_
 rintro e w1 ⟨kp,a,rfl,hk1,hs1,hf1⟩
 have HK1:=Lib.hid hk1
 have HS1:=Lib.hid hs1
 have HF1:=Lib.hid hf1
 clear hk1 hs1 hf1
 go_upto_region 4 with fail
 refine wp_facts (V:=bgV n c kp w1.heap.size) (by kernel_rfl) (by kernel_rfl) bgV_same ?_ ?_
 ·intro i o ho b w' hs hsz hde hold hdep
  have hi:i < 15:=(Array.getElem?_eq_some_iff.1 ho).1
  have hz:b.tmps.size=33:=hsz
  have e0:b.tmps.getD 0 undef=.int .i64 n:=hold 0 (by decide)
  have e1:b.tmps.getD 1 undef=.int .i64 c:=hold 1 (by decide)
  have e6:b.tmps.getD 6 undef=.pointer (some ⟨kp,0,none⟩):=hold 6 (by decide)
  match i with
  | 0 =>
   injection ho with ho
   subst ho
   go_simp
   exact ⟨_,rfl,Frm.refl _ _,rfl⟩
  | 1 =>
   injection ho with ho
   subst ho
   go_simp
   exact ⟨_,rfl,Frm.refl _ _,rfl⟩
  | 2 =>
   injection ho with ho
   subst ho
   go_simp
   exact ⟨_,rfl,Frm.refl _ _,rfl⟩
  | 3 =>
   injection ho with ho
   subst ho
   have d1:=dep_of (F:=fun j=>bgV n c kp w1.heap.size j (slotA b (dstOf _ j)) w') hdep 1 (by kernel_rfl)
   have d2:=dep_of (F:=fun j=>bgV n c kp w1.heap.size j (slotA b (dstOf _ j)) w') hdep 2 (by kernel_rfl)
   have f1:b.tmps.getD 21 undef=.int .i64 n:=d1
   have f2:b.tmps.getD 22 undef=.int .i64 c:=d2
   go_simp
   refine (HNM.out w').mono ?_
   rintro e w2 ⟨mp,b2,rfl,hm2,hs2,hf2⟩
   exact ⟨_,rfl,hs2,mp,b2,rfl,hm2,fun x hx=>Nat.le_trans hs.size (hf2 x hx)⟩
  | 4 =>
   injection ho with ho
   subst ho
   go_simp
   exact ⟨_,rfl,(Frm.refl _ _).alloc _,w'.heap.size,rfl,Blk.new w' _ _,hs.size⟩
  | 5 =>
   injection ho with ho
   subst ho
   go_simp
   exact ⟨_,rfl,Frm.refl _ _,rfl⟩
  | 6 =>
   injection ho with ho
   subst ho
   have d5:=dep_of (F:=fun j=>bgV n c kp w1.heap.size j (slotA b (dstOf _ j)) w') hdep 5 (by kernel_rfl)
   have f5:b.tmps.getD 25 undef=.int .i64 n:=d5
   go_simp
   refine (HCT.out false w').mono ?_
   rintro e w2 ⟨A,C,rfl,hN⟩
   exact ⟨_,rfl,hN.2.2,A,C,rfl,hN.1⟩
  | 7 =>
   injection ho with ho
   subst ho
   go_simp
   exact ⟨_,rfl,Frm.refl _ _,rfl⟩
  | 8 =>
   injection ho with ho
   subst ho
   have d7:=dep_of (F:=fun j=>bgV n c kp w1.heap.size j (slotA b (dstOf _ j)) w') hdep 7 (by kernel_rfl)
   have f7:b.tmps.getD 27 undef=.int .i64 n:=d7
   go_simp
   refine (HCT.out true w').mono ?_
   rintro e w2 ⟨A,C,rfl,hN⟩
   exact ⟨_,rfl,hN.2.2,A,C,rfl,hN.1⟩
  | 9 =>
   injection ho with ho
   subst ho
   have d6:=dep_of (F:=fun j=>bgV n c kp w1.heap.size j (slotA b (dstOf _ j)) w') hdep 6 (by kernel_rfl)
   have d8:=dep_of (F:=fun j=>bgV n c kp w1.heap.size j (slotA b (dstOf _ j)) w') hdep 8 (by kernel_rfl)
   obtain ⟨A6,C6,f6,hO6⟩:=d6
   obtain ⟨A8,C8,f8,hO8⟩:=d8
   replace f6:b.tmps.getD 26 undef=_:=f6
   replace f8:b.tmps.getD 28 undef=_:=f8
   have f6':=f6
   simp [hz] at f6'
   have f8':=f8
   simp [hz] at f8'
   go_simp
   have hsa:=(Frm.refl (fun _=>False) w').alloc (.cells #[.int .i64 n,.slice A6 (constT n false).length C6,.int .i64 n,.slice A8 (constT n true).length C8] 108)
   exact ⟨_,rfl,hsa,w'.heap.size,A6,C6,A8,C8,rfl,Blk.new w' _ _,hO6.frm hsa (fun _ _=>id),hO8.frm hsa (fun _ _=>id),hs.size⟩
  | 10 =>
   injection ho with ho
   subst ho
   have hmk:∀ w,(Instr.makeSlice 56 (.int .i64 2) (.int .i64 2)).run Tryz.prog w=.ok (.slice (some ⟨w.heap.size,0,none⟩) 2 2) (w.alloc (.cells #[.bool false,.bool false] 4)):=fun w=>by
    have h:=run_make_n (P:=Tryz.prog) Tryz.underlying56 info_bool .i64 .i64 2 (by decide) (by decide) w
    have hc:madeCells (Value.bool false).cells (2 * 1)=#[.bool false,.bool false]:=by kernel_rfl
    rw [hc] at h
    exact h
   go_simp
   exact ⟨_,rfl,(Frm.refl _ _).alloc _,w'.heap.size,rfl,Blk.new w' _ _,hs.size⟩
  | 11 =>
   injection ho with ho
   subst ho
   have d0:=dep_of (F:=fun j=>bgV n c kp w1.heap.size j (slotA b (dstOf _ j)) w') hdep 0 (by kernel_rfl)
   have d3:=dep_of (F:=fun j=>bgV n c kp w1.heap.size j (slotA b (dstOf _ j)) w') hdep 3 (by kernel_rfl)
   have d4:=dep_of (F:=fun j=>bgV n c kp w1.heap.size j (slotA b (dstOf _ j)) w') hdep 4 (by kernel_rfl)
   have d9:=dep_of (F:=fun j=>bgV n c kp w1.heap.size j (slotA b (dstOf _ j)) w') hdep 9 (by kernel_rfl)
   have d10:=dep_of (F:=fun j=>bgV n c kp w1.heap.size j (slotA b (dstOf _ j)) w') hdep 10 (by kernel_rfl)
   obtain ⟨mp,b2,f3,hm,hmf⟩:=d3
   obtain ⟨g,f4,hg,hWg⟩:=d4
   obtain ⟨gt,A,C,A2,C2,f9,hgt,hA,hA2,hWt⟩:=d9
   obtain ⟨gd,f10,hgd,hWd⟩:=d10
   replace d0:b.tmps.getD 20 undef=_:=d0
   replace f3:b.tmps.getD 23 undef=_:=f3
   replace f4:b.tmps.getD 24 undef=_:=f4
   replace f9:b.tmps.getD 29 undef=_:=f9
   replace f10:b.tmps.getD 30 undef=_:=f10
   have d0':=d0
   simp [hz] at d0'
   have f3':=f3
   simp [hz] at f3'
   have f4':=f4
   simp [hz] at f4'
   have f9':=f9
   simp [hz] at f9'
   have f10':=f10
   simp [hz] at f10'
   go_simp
   exact ⟨_,rfl,Frm.refl _ _,mp,b2,g,gt,A,C,A2,C2,gd,rfl,hm,hmf,hg,hgt,hA,hA2,hgd,hWg,hWt,hWd⟩
  | 12 =>
   injection ho with ho
   subst ho
   have d11:=dep_of (F:=fun j=>bgV n c kp w1.heap.size j (slotA b (dstOf _ j)) w') hdep 11 (by kernel_rfl)
   obtain ⟨mp,b2,g,gt,A,C,A2,C2,gd,f11,hm,hmf,hg,hgt,hA,hA2,hgd,hW⟩:=d11
   replace f11:b.tmps.getD 31 undef=_:=f11
   have f11':=f11
   simp [hz] at f11'
   go_simp
   have hsa:=(Frm.refl (fun _=>False) w').alloc (.cells #[.pointer (some ⟨kp,0,none⟩),.pointer (some ⟨mp,0,none⟩),.slice (some ⟨g,0,none⟩) 2 2,.slice (some ⟨gt,0,none⟩) 2 2,.slice none 0 0,.slice (some ⟨gd,0,none⟩) 2 2] 58)
   exact ⟨_,rfl,hsa,w'.heap.size,rfl,hs.size,mp,b2,g,gt,A,C,A2,C2,gd,Blk.new w' _ _,hm.same hsa,hmf,hg.frm hsa id,hgt.frm hsa id,hA.frm hsa (fun _ _=>id),hA2.frm hsa (fun _ _=>id),hgd.frm hsa id,hW⟩
  | 13 =>
   injection ho with ho
   subst ho
   have d12:=dep_of (F:=fun j=>bgV n c kp w1.heap.size j (slotA b (dstOf _ j)) w') hdep 12 (by kernel_rfl)
   obtain ⟨pp,f12,hrest⟩:=d12
   replace f12:b.tmps.getD 32 undef=_:=f12
   have f12':=f12
   simp [hz] at f12'
   go_simp
   exact ⟨_,rfl,Frm.refl _ _,pp,rfl,hrest⟩
  | 14 =>
   injection ho with ho
   subst ho
   go_simp
   exact ⟨_,rfl,Frm.refl _ _,rfl⟩
  | _+15=>omega
 ·intro b w' hs hsz hde hold hV
  have h4:bgV n c kp w1.heap.size 13 (b.tmps.getD 4 undef) w':=hV 13 (by decide)
  have h5:b.tmps.getD 5 undef=.bool true:=hV 14 (by decide)
  obtain ⟨pp,f4,hW,mp,b2,g,gt,A,C,A2,C2,gd,hpb,hm,hmf,hg,hgt,hA,hA2,hgd,hWg,hWt,hWd⟩:=h4
  have hb:=act_lit b 33 hsz
  replace hde:b.defers=[]:=hde
  rw [hde] at hb
  simp only [List.range,List.range.loop,List.map_cons,List.map_nil] at hb
  rw [f4,h5] at hb
  have HB:=Lib.hid hb
  have hlow:w.heap.size≤w1.heap.size:=HS1.out.size
  have hk:=HK1.out.same hs
  have hS:=HS1.out.trans hs (fun _ _ h=>h)
  have hfin:PW (fun b=>b < w.heap.size) w' pp (beginP n c) ⟨kp,a,mp,b2,some ⟨g,0,none⟩,2,some ⟨gt,0,none⟩,2,[⟨n,A,C,constT n false⟩,⟨n,A2,C2,constT n true⟩],none,0,[],some ⟨gd,0,none⟩,2⟩:=by
   have hkl:∀ x,LFp pp ⟨kp,a,mp,b2,some ⟨g,0,none⟩,2,some ⟨gt,0,none⟩,2,[⟨n,A,C,constT n false⟩,⟨n,A2,C2,constT n true⟩],none,0,[],some ⟨gd,0,none⟩,2⟩ x→w1.heap.size≤x:=by
    rintro x (rfl | ⟨y,hy,rfl⟩ | ⟨y,hy,rfl⟩ | ⟨y,hy,rfl⟩ | ⟨y,hy,rfl⟩ | hx)
    ·exact hW
    ·injection hy with hy
     subst hy
     exact hWg
    ·injection hy with hy
     subst hy
     exact hWt
    ·cases hy
    ·injection hy with hy
     subst hy
     exact hWd
    ·exact hmf x hx
   refine ⟨hpb,hk,hm,Own.ofBlk (f:=fun x=>[rc x]) (fun _=>rfl) hg [0,1] (by decide) rfl,Own.ofBlk Tb.cells_len hgt _ (by simp [maxLen]) rfl,?_,rfl,Own.nil _ _ _ _,fun t ht=>(by cases ht),rfl,Own.ofBlk (f:=fun b:Bool=>[.bool b]) (fun _=>rfl) hgd [false,false] (by decide) rfl,?_,?_,?_⟩
   ·intro t ht
    simp only [List.mem_cons,List.not_mem_nil,or_false] at ht
    rcases ht with rfl | rfl
    ·exact ⟨rfl,hA,tab_form hn16.out,fun x hx=>tab_lt x hx⟩
    ·exact ⟨rfl,hA2,tab_form hn16.out,fun x hx=>tab_lt x hx⟩
   ·intro x hx hkx
    have h1:=hkl x hx
    have h2:=HK1.out.lt hkx
    omega
   ·rintro x _ ⟨y,hy,_⟩
    cases hy
   ·rintro x (hx | hx)
    ·exact Nat.not_lt.2 (HF1.out x hx)
    ·exact Nat.not_lt.2 (Nat.le_trans hlow (hkl x hx))
  have HFIN:=Lib.hid hfin
  have HSS:=Lib.hid hS
  clear hfin hS hk hlow hpb hm hmf hg hgt hA hA2 hgd hW hWg hWt hWd f4 h5 hV hold hs hb
  rw [HB.out]
  generalize b.tmps=bt
  go_wp2
  go_ret2
  exact ⟨pp,rfl,⟨_,HFIN.out⟩,HSS.out⟩
end
theorem PW.keepB {B B':Nat→Prop} {w:World} {pp:Nat} {p:PS} {q:PA} (h:PW B w pp p q) (hb:∀ b,KFp p.k.n q.kp q.a b∨LFp pp q b→¬ B' b):PW B' w pp p q:={ h with base:=hb }
theorem PW.all_lt {B:Nat→Prop} {w:World} {pp:Nat} {p:PS} {q:PA} (h:PW B w pp p q):∀ b,KFp p.k.n q.kp q.a b∨LFp pp q b→b < w.heap.size:=fun b hb=>hb.elim (fun h1=>h.k.lt h1) (fun h1=>h.llt b h1)
def st0:PS:=countP (beginP 2 5)
def st1:PS:=countP (makeP st0 1 0 1)
def st2:PS:=countP (makeP st1 0 0 2)
def st3:PS:=countP (dropP st2 2)
theorem run_l0:livesB st0 0=true∧livesB st0 1=true:=by decide +kernel
theorem run_a1:(makeK st0.k (mkNd st0 1 0 1)).2.1=(mkMd st0 1 0 1).2.2:=by decide +kernel
theorem run_n1:(makeK st0.k (mkNd st0 1 0 1)).2.2.n=st0.k.n∧(mkMd st0 1 0 1).1.n=st0.m.n∧(mkMd st0 1 0 1).2.2=0:=by decide +kernel
theorem run_l1:livesB st1 0=true∧livesB st1 2=true:=by decide +kernel
theorem run_a2:(makeK st1.k (mkNd st1 0 0 2)).2.1=(mkMd st1 0 0 2).2.2:=by decide +kernel
theorem run_n2:(makeK st1.k (mkNd st1 0 0 2)).2.2.n=st1.k.n∧(mkMd st1 0 0 2).1.n=st1.m.n∧(mkMd st1 0 0 2).2.2=0:=by decide +kernel
theorem run_l2:livesB st2 2=true:=by decide +kernel
theorem run_a3:(dropK st2.k (st2.refs.getD (2:Int).toNat 0)).1=(dropM st2.m (st2.ts.getD (2:Int).toNat [])).2:=by decide +kernel
theorem run_n3:(dropK st2.k (st2.refs.getD (2:Int).toNat 0)).2.n=st2.k.n∧(dropM st2.m (st2.ts.getD (2:Int).toNat [])).1.n=st2.m.n:=by decide +kernel
theorem run_a4:(exchK st3.k 0).1=(exchM st3.m 0).2:=by decide +kernel
theorem run_n4:(exchK st3.k 0).2.n=st3.k.n∧(exchM st3.m 0).1.n=st3.m.n:=by decide +kernel
def RngK (k:KS):Prop:=∀ r:Int,0≤r→r < 4294967296→getE k.ls r=0→0≤(getN k.ls r).lo∧(getN k.ls r).lo < 4294967296∧0≤(getN k.ls r).hi∧(getN k.ls r).hi < 4294967296
def tabK (k:KS) (n:Nat):Nat→Int→Option (List Nat)
 | 0,r=>if r=0∨r=1 then some (constT n (decide (r=1))) else none
 | f+1,r=>if r=0∨r=1 then some (constT n (decide (r=1))) else
  if getE k.ls r≠0∨(getN k.ls r).v < 0∨(n:Int)≤(getN k.ls r).v then none else
  match tabK k n f (getN k.ls r).lo,tabK k n f (getN k.ls r).hi with
  | some x,some y=>some (ifT n (getN k.ls r).v.toNat x y)
  | _,_=>none
def RetTab (w:World) (n:Nat) (o:Option (List Nat)) (e:Ending) (w':World):Prop :=
 ∃ A C,e=.returned (.tuple #[.agg #[.int .i64 (if o.isSome then (n:Int) else 0),.slice A (o.getD []).length C],.bool o.isSome])∧NewT w (o.getD []) A C w'
theorem tabK_form {k:KS} {n:Nat} (hn:n≤16):∀ (f:Nat) (r:Int) (z:List Nat),tabK k n f r=some z→FormN n z∧Small z:=by
 intro f
 induction f with
 | zero =>
  intro r z h
  unfold tabK at h
  split at h
  ·injection h with h
   subst h
   exact ⟨tab_form hn,fun x hx=>tab_lt x hx⟩
  ·cases h
 | succ f ih =>
  intro r z h
  unfold tabK at h
  split at h
  ·injection h with h
   subst h
   exact ⟨tab_form hn,fun x hx=>tab_lt x hx⟩
  ·split at h
   ·cases h
   ·split at h
    ·injection h with h
     subst h
     exact ⟨tab_form hn,fun x hx=>tab_lt x hx⟩
    ·cases h
section
variable {w w':World} {n:Nat} {t:Tb} {kp:Nat} {k:KS} {a:KA}
theorem table_const (r:Int) (hr:r=0∨r=1) (hn:n≤16) (deep:Nat) (w:World) :
  Calls Tryz.prog 69 #[.pointer (some ⟨kp,0,none⟩),.int .u32 r,.int .i64 n,.int .i64 deep] w (RetTab w n (some (constT n (decide (r=1))))):=by
 have hc:∀ (b:Bool) w',Calls Tryz.prog 65 #[.int .i64 n,.bool b] w' (RetT w' n (constT n b)):=fun b w'=>const5_any n b w' hn
 have HC:=Lib.hid hc
 clear hc
 rcases hr with rfl | rfl
 ·show Calls _ _ _ _ (RetTab w n (some (constT n false)))
  go_enter Tryz.func69,Tryz.ntmps69
  go_upto_region 1 with fail
  refine wp_world fun w1 hw1=>?_
  have hs1:Same w w1:=by rw [hw1];exact (Frm.refl _ _).alloc _
  have hR:=Blk.new w 108 #[.int .i64 0,.slice none 0 0]
  rw [← hw1] at hR
  clear hw1
  go_wp2_with (fail)
  refine (HC.out false w1).mono ?_
  rintro e w2 ⟨A,C,rfl,hN⟩
  have hR2:=hR.frm hN.2.2 id
  have r0:=hR2.cell 0
  have r1:=hR2.cell 1
  have rl:=hR2.lt
  have g0:=hR2.free 0
  have g1:=hR2.free 1
  simp at r0 r1
  have HR2:=Lib.hid hR2
  have HN1:=Lib.hid hN.1
  have hnA:∀ x,A=some x→x.block≠w.heap.size:=fun x hx h=>hN.1.ne_blk hR2 (by decide) x hx h
  have HA:=Lib.hid hnA
  have HF:=Lib.hid (show Fresh w.heap.size A from fun b hb=>by have:=hN.2.1 b hb;have:=hs1.size;omega)
  have HS:=Lib.hid (hs1.trans hN.2.2 (fun _ _ h=>h))
  clear hN hR2 hR hs1 hnA
  go_wp2
  refine wp_post fun we hwe=>?_
  have hBE:Blk we w.heap.size 108 #[.int .i64 n,.slice A (constT n false).length C]:=by
   rw [hwe]
   have:=(HR2.out.set 0 (.int .i64 n)).set 1 (.slice A (constT n false).length C)
   simpa using this
  have hOE:OwnW we A (constT n false).length C (constT n false):=by
   rw [hwe]
   exact (Own.far (p:=⟨w.heap.size,0,none⟩) HN1.out HA.out _).far (p:=⟨w.heap.size,1,none⟩) HA.out _
  have hSE:Same w we:=by rw [hwe];exact (HS.out.setNew 0 _ (Nat.le_refl _)).setNew 1 _ (Nat.le_refl _)
  have hr0:=hBE.cell 0
  have hr1:=hBE.cell 1
  simp at hr0 hr1
  clear hwe hBE
  refine bodyPost_ret (v:=.tuple #[.agg #[.int .i64 n,.slice A (constT n false).length C],.bool true]) (by simp [results,Tryz.results69,go_sem,hr0,hr1]) rfl ?_
  exact ⟨A,C,rfl,hOE,HF.out,hSE⟩
 ·show Calls _ _ _ _ (RetTab w n (some (constT n true)))
  go_enter Tryz.func69,Tryz.ntmps69
  go_upto_region 1 with fail
  refine wp_world fun w1 hw1=>?_
  have hs1:Same w w1:=by rw [hw1];exact (Frm.refl _ _).alloc _
  have hR:=Blk.new w 108 #[.int .i64 0,.slice none 0 0]
  rw [← hw1] at hR
  clear hw1
  go_wp2_with (fail)
  refine (HC.out true w1).mono ?_
  rintro e w2 ⟨A,C,rfl,hN⟩
  have hR2:=hR.frm hN.2.2 id
  have r0:=hR2.cell 0
  have r1:=hR2.cell 1
  have rl:=hR2.lt
  have g0:=hR2.free 0
  have g1:=hR2.free 1
  simp at r0 r1
  have HR2:=Lib.hid hR2
  have HN1:=Lib.hid hN.1
  have hnA:∀ x,A=some x→x.block≠w.heap.size:=fun x hx h=>hN.1.ne_blk hR2 (by decide) x hx h
  have HA:=Lib.hid hnA
  have HF:=Lib.hid (show Fresh w.heap.size A from fun b hb=>by have:=hN.2.1 b hb;have:=hs1.size;omega)
  have HS:=Lib.hid (hs1.trans hN.2.2 (fun _ _ h=>h))
  clear hN hR2 hR hs1 hnA
  go_wp2
  refine wp_post fun we hwe=>?_
  have hBE:Blk we w.heap.size 108 #[.int .i64 n,.slice A (constT n true).length C]:=by
   rw [hwe]
   have:=(HR2.out.set 0 (.int .i64 n)).set 1 (.slice A (constT n true).length C)
   simpa using this
  have hOE:OwnW we A (constT n true).length C (constT n true):=by
   rw [hwe]
   exact (Own.far (p:=⟨w.heap.size,0,none⟩) HN1.out HA.out _).far (p:=⟨w.heap.size,1,none⟩) HA.out _
  have hSE:Same w we:=by rw [hwe];exact (HS.out.setNew 0 _ (Nat.le_refl _)).setNew 1 _ (Nat.le_refl _)
  have hr0:=hBE.cell 0
  have hr1:=hBE.cell 1
  simp at hr0 hr1
  clear hwe hBE
  refine bodyPost_ret (v:=.tuple #[.agg #[.int .i64 n,.slice A (constT n true).length C],.bool true]) (by simp [results,Tryz.results69,go_sem,hr0,hr1]) rfl ?_
  exact ⟨A,C,rfl,hOE,HF.out,hSE⟩
theorem table_bad (r:Int) (h0:r≠0) (h1:r≠1) (D:Nat) (N:Nd) (E:Int) (w:World) (hnq:∀ w',Same w w'→Calls Tryz.prog 20 #[.pointer (some ⟨kp,0,none⟩),.int .u32 r] w' fun e w''=>e=.returned (.tuple #[N.val,.int .i64 E])∧Same w' w'')
  (hE:E=0∨E=3) (hb:E≠0∨n < D∨N.v < 0∨(n:Int)≤N.v) :
  Calls Tryz.prog 69 #[.pointer (some ⟨kp,0,none⟩),.int .u32 r,.int .i64 n,.int .i64 D] w (RetTab w n none):=by
 have b0:(r == 0)=false:=by simpa using h0
 have b1:(r == 1)=false:=by simpa using h1
 unfold Nd.val at hnq
 have HNQ:=Lib.hid hnq
 clear hnq
 rcases hE with rfl | rfl
 ·by_cases c1:(D:Int) > (n:Int)
  ·clear hb
   go_enter Tryz.func69,Tryz.ntmps69
   go_upto_region 1 with fail
   refine wp_world fun w1 hw1=>?_
   have hs1:Same w w1:=by rw [hw1];exact (Frm.refl _ _).alloc _
   have hR:=Blk.new w 108 #[.int .i64 0,.slice none 0 0]
   rw [← hw1] at hR
   clear hw1
   go_wp2_with (fail)
   refine (HNQ.out w1 hs1).mono ?_
   rintro e w2 ⟨rfl,hs2⟩
   go_upto_region 4 with fail
   refine wp_world fun w3 hw3=>?_
   have hX:Blk w3 w2.heap.size 37 #[.int .i64 N.v,.int .u32 N.lo,.int .u32 N.hi]:=by
    rw [hw3]
    exact Blk.new w2 _ _
   have hs3:Same w2 w3:=by rw [hw3];exact (Frm.refl _ _).alloc _
   clear hw3
   have hR3:=hR.frm (hs2.trans hs3 (fun _ _ h=>h)) id
   have HS:=Lib.hid (hs1.trans (hs2.trans hs3 (fun _ _ h=>h)) (fun _ _ h=>h))
   have r0:=hR3.cell 0
   have r1:=hR3.cell 1
   have rl:=hR3.lt
   have g0:=hR3.free 0
   have g1:=hR3.free 1
   have x0:=hX.cell 0
   have x1:=hX.cell 1
   have x2:=hX.cell 2
   have xl:=hX.lt
   simp at r0 r1 x0 x1 x2
   have HR:=Lib.hid hR3
   have HX:=Lib.hid hX
   have hxw:w.heap.size≠w2.heap.size:=by have:=hR.frm hs2 id |>.lt;omega
   clear hR hR3 hs1 hs2 hs3 hX
   go_wp2
   refine wp_post fun we hwe=>?_
   have hBE:Blk we w.heap.size 108 #[.int .i64 0,.slice none 0 0]:=by
    rw [hwe]
    have:=(HR.out.set 0 (.int .i64 0)).set 1 (.slice none 0 0)
    simpa using this
   have hSE:Same w we:=by rw [hwe];exact (HS.out.setNew 0 _ (Nat.le_refl _)).setNew 1 _ (Nat.le_refl _)
   have hr0:=hBE.cell 0
   have hr1:=hBE.cell 1
   simp at hr0 hr1
   clear hwe hBE
   refine bodyPost_ret (v:=.tuple #[.agg #[.int .i64 0,.slice none 0 0],.bool false]) (by simp [results,Tryz.results69,go_sem,hr0,hr1]) rfl ?_
   exact ⟨none,0,rfl,Own.nil _ _ _ _,fresh_none _,hSE⟩
  ·by_cases c2:N.v < 0
   ·clear hb
    go_enter Tryz.func69,Tryz.ntmps69
    go_upto_region 1 with fail
    refine wp_world fun w1 hw1=>?_
    have hs1:Same w w1:=by rw [hw1];exact (Frm.refl _ _).alloc _
    have hR:=Blk.new w 108 #[.int .i64 0,.slice none 0 0]
    rw [← hw1] at hR
    clear hw1
    go_wp2_with (fail)
    refine (HNQ.out w1 hs1).mono ?_
    rintro e w2 ⟨rfl,hs2⟩
    go_upto_region 4 with fail
    refine wp_world fun w3 hw3=>?_
    have hX:Blk w3 w2.heap.size 37 #[.int .i64 N.v,.int .u32 N.lo,.int .u32 N.hi]:=by
     rw [hw3]
     exact Blk.new w2 _ _
    have hs3:Same w2 w3:=by rw [hw3];exact (Frm.refl _ _).alloc _
    clear hw3
    have hR3:=hR.frm (hs2.trans hs3 (fun _ _ h=>h)) id
    have HS:=Lib.hid (hs1.trans (hs2.trans hs3 (fun _ _ h=>h)) (fun _ _ h=>h))
    have r0:=hR3.cell 0
    have r1:=hR3.cell 1
    have rl:=hR3.lt
    have g0:=hR3.free 0
    have g1:=hR3.free 1
    have x0:=hX.cell 0
    have x1:=hX.cell 1
    have x2:=hX.cell 2
    have xl:=hX.lt
    simp at r0 r1 x0 x1 x2
    have HR:=Lib.hid hR3
    have HX:=Lib.hid hX
    have hxw:w.heap.size≠w2.heap.size:=by have:=hR.frm hs2 id |>.lt;omega
    clear hR hR3 hs1 hs2 hs3 hX
    go_wp2
    refine wp_post fun we hwe=>?_
    have hBE:Blk we w.heap.size 108 #[.int .i64 0,.slice none 0 0]:=by
     rw [hwe]
     have:=(HR.out.set 0 (.int .i64 0)).set 1 (.slice none 0 0)
     simpa using this
    have hSE:Same w we:=by rw [hwe];exact (HS.out.setNew 0 _ (Nat.le_refl _)).setNew 1 _ (Nat.le_refl _)
    have hr0:=hBE.cell 0
    have hr1:=hBE.cell 1
    simp at hr0 hr1
    clear hwe hBE
    refine bodyPost_ret (v:=.tuple #[.agg #[.int .i64 0,.slice none 0 0],.bool false]) (by simp [results,Tryz.results69,go_sem,hr0,hr1]) rfl ?_
    exact ⟨none,0,rfl,Own.nil _ _ _ _,fresh_none _,hSE⟩
   ·have c3:N.v ≥ (n:Int):=by omega
    clear hb
    go_enter Tryz.func69,Tryz.ntmps69
    go_upto_region 1 with fail
    refine wp_world fun w1 hw1=>?_
    have hs1:Same w w1:=by rw [hw1];exact (Frm.refl _ _).alloc _
    have hR:=Blk.new w 108 #[.int .i64 0,.slice none 0 0]
    rw [← hw1] at hR
    clear hw1
    go_wp2_with (fail)
    refine (HNQ.out w1 hs1).mono ?_
    rintro e w2 ⟨rfl,hs2⟩
    go_upto_region 4 with fail
    refine wp_world fun w3 hw3=>?_
    have hX:Blk w3 w2.heap.size 37 #[.int .i64 N.v,.int .u32 N.lo,.int .u32 N.hi]:=by
     rw [hw3]
     exact Blk.new w2 _ _
    have hs3:Same w2 w3:=by rw [hw3];exact (Frm.refl _ _).alloc _
    clear hw3
    have hR3:=hR.frm (hs2.trans hs3 (fun _ _ h=>h)) id
    have HS:=Lib.hid (hs1.trans (hs2.trans hs3 (fun _ _ h=>h)) (fun _ _ h=>h))
    have r0:=hR3.cell 0
    have r1:=hR3.cell 1
    have rl:=hR3.lt
    have g0:=hR3.free 0
    have g1:=hR3.free 1
    have x0:=hX.cell 0
    have x1:=hX.cell 1
    have x2:=hX.cell 2
    have xl:=hX.lt
    simp at r0 r1 x0 x1 x2
    have HR:=Lib.hid hR3
    have HX:=Lib.hid hX
    have hxw:w.heap.size≠w2.heap.size:=by have:=hR.frm hs2 id |>.lt;omega
    clear hR hR3 hs1 hs2 hs3 hX
    go_wp2
    refine wp_post fun we hwe=>?_
    have hBE:Blk we w.heap.size 108 #[.int .i64 0,.slice none 0 0]:=by
     rw [hwe]
     have:=(HR.out.set 0 (.int .i64 0)).set 1 (.slice none 0 0)
     simpa using this
    have hSE:Same w we:=by rw [hwe];exact (HS.out.setNew 0 _ (Nat.le_refl _)).setNew 1 _ (Nat.le_refl _)
    have hr0:=hBE.cell 0
    have hr1:=hBE.cell 1
    simp at hr0 hr1
    clear hwe hBE
    refine bodyPost_ret (v:=.tuple #[.agg #[.int .i64 0,.slice none 0 0],.bool false]) (by simp [results,Tryz.results69,go_sem,hr0,hr1]) rfl ?_
    exact ⟨none,0,rfl,Own.nil _ _ _ _,fresh_none _,hSE⟩
 ·clear hb
  go_enter Tryz.func69,Tryz.ntmps69
  go_upto_region 1 with fail
  refine wp_world fun w1 hw1=>?_
  have hs1:Same w w1:=by rw [hw1];exact (Frm.refl _ _).alloc _
  have hR:=Blk.new w 108 #[.int .i64 0,.slice none 0 0]
  rw [← hw1] at hR
  clear hw1
  go_wp2_with (fail)
  refine (HNQ.out w1 hs1).mono ?_
  rintro e w2 ⟨rfl,hs2⟩
  go_upto_region 4 with fail
  refine wp_world fun w3 hw3=>?_
  have hX:Blk w3 w2.heap.size 37 #[.int .i64 N.v,.int .u32 N.lo,.int .u32 N.hi]:=by
   rw [hw3]
   exact Blk.new w2 _ _
  have hs3:Same w2 w3:=by rw [hw3];exact (Frm.refl _ _).alloc _
  clear hw3
  have hR3:=hR.frm (hs2.trans hs3 (fun _ _ h=>h)) id
  have HS:=Lib.hid (hs1.trans (hs2.trans hs3 (fun _ _ h=>h)) (fun _ _ h=>h))
  have r0:=hR3.cell 0
  have r1:=hR3.cell 1
  have rl:=hR3.lt
  have g0:=hR3.free 0
  have g1:=hR3.free 1
  have x0:=hX.cell 0
  have x1:=hX.cell 1
  have x2:=hX.cell 2
  have xl:=hX.lt
  simp at r0 r1 x0 x1 x2
  have HR:=Lib.hid hR3
  have HX:=Lib.hid hX
  have hxw:w.heap.size≠w2.heap.size:=by have:=hR.frm hs2 id |>.lt;omega
  clear hR hR3 hs1 hs2 hs3 hX
  go_wp2
  refine wp_post fun we hwe=>?_
  have hBE:Blk we w.heap.size 108 #[.int .i64 0,.slice none 0 0]:=by
   rw [hwe]
   have:=(HR.out.set 0 (.int .i64 0)).set 1 (.slice none 0 0)
   simpa using this
  have hSE:Same w we:=by rw [hwe];exact (HS.out.setNew 0 _ (Nat.le_refl _)).setNew 1 _ (Nat.le_refl _)
  have hr0:=hBE.cell 0
  have hr1:=hBE.cell 1
  simp at hr0 hr1
  clear hwe hBE
  refine bodyPost_ret (v:=.tuple #[.agg #[.int .i64 0,.slice none 0 0],.bool false]) (by simp [results,Tryz.results69,go_sem,hr0,hr1]) rfl ?_
  exact ⟨none,0,rfl,Own.nil _ _ _ _,fresh_none _,hSE⟩
end
section
variable {w w':World} {n:Nat} {t:Tb} {kp:Nat} {k:KS} {a:KA}
theorem table_good (r:Int) (h0:r≠0) (h1:r≠1) (D:Nat) (hn:n≤16) (hD:D≤n) (N:Nd) (m:Nat) (hm:N.v=m) (hmn:m < n) (nl nh:Int) (zl zh:List Nat) (bl bh:Bool) (w:World) (hnq:∀ w',Same w w'→Calls Tryz.prog 20 #[.pointer (some ⟨kp,0,none⟩),.int .u32 r] w' fun e w''=>e=.returned (.tuple #[N.val,.int .i64 0])∧Same w' w'')
  (hlo:∀ w',Same w w'→Calls Tryz.prog 69 #[.pointer (some ⟨kp,0,none⟩),.int .u32 N.lo,.int .i64 n,.int .i64 ((D:Int)+1)] w' (fun e w''=>∃ A C,e=.returned (.tuple #[.agg #[.int .i64 nl,.slice A zl.length C],.bool bl])∧NewT w' zl A C w''))
  (hhi:∀ w',Same w w'→Calls Tryz.prog 69 #[.pointer (some ⟨kp,0,none⟩),.int .u32 N.hi,.int .i64 n,.int .i64 ((D:Int)+1)] w' (fun e w''=>∃ A C,e=.returned (.tuple #[.agg #[.int .i64 nh,.slice A zh.length C],.bool bh])∧NewT w' zh A C w''))
  (fl:bl=true→nl=n∧FormN n zl∧Small zl) (fh:bh=true→nh=n∧FormN n zh∧Small zh) :
  Calls Tryz.prog 69 #[.pointer (some ⟨kp,0,none⟩),.int .u32 r,.int .i64 n,.int .i64 D] w (RetTab w n (if bl && bh then some (ifT n m zl zh) else none)):=by
 have b0:(r == 0)=false:=by simpa using h0
 have b1:(r == 1)=false:=by simpa using h1
 have c1:¬ n < D:=by omega
 have c3:¬ n≤m:=by omega
 have hw1:IntKind.i64.wrap ((D:Int)+1)=(D:Int)+1:=IntWalk.i64_in _ (by omega)
 unfold Nd.val at hnq
 have HNQ:=Lib.hid hnq
 have HLO:=Lib.hid hlo
 have HHI:=Lib.hid hhi
 have HFL:=Lib.hid fl
 have HFH:=Lib.hid fh
 clear hnq hlo hhi fl fh
 cases bl <;> cases bh
 ·show Calls _ _ _ _ (RetTab w n none)
  go_enter Tryz.func69,Tryz.ntmps69
  go_upto_region 1 with fail
  refine wp_world fun w1 hw1=>?_
  have hs1:Same w w1:=by rw [hw1];exact (Frm.refl _ _).alloc _
  have hR:=Blk.new w 108 #[.int .i64 0,.slice none 0 0]
  rw [← hw1] at hR
  clear hw1
  go_wp2_with (fail)
  refine (HNQ.out w1 hs1).mono ?_
  rintro e w2 ⟨rfl,hs2⟩
  go_upto_region 4 with fail
  refine wp_world fun w3 hw3=>?_
  have hX:Blk w3 w2.heap.size 37 #[.int .i64 m,.int .u32 N.lo,.int .u32 N.hi]:=by
   rw [hw3]
   exact Blk.new w2 _ _
  have hs3:Same w2 w3:=by rw [hw3];exact (Frm.refl _ _).alloc _
  clear hw3
  have hR3:=hR.frm (hs2.trans hs3 (fun _ _ h=>h)) id
  have HS:=Lib.hid (hs1.trans (hs2.trans hs3 (fun _ _ h=>h)) (fun _ _ h=>h))
  have r0:=hR3.cell 0
  have r1:=hR3.cell 1
  have rl:=hR3.lt
  have g0:=hR3.free 0
  have g1:=hR3.free 1
  have x0:=hX.cell 0
  have x1:=hX.cell 1
  have x2:=hX.cell 2
  have xl:=hX.lt
  simp at r0 r1 x0 x1 x2
  have HR:=Lib.hid hR3
  have HX:=Lib.hid hX
  have hxw:w.heap.size≠w2.heap.size:=by have:=hR.frm hs2 id |>.lt;omega
  clear hR hR3 hs1 hs2 hs3 hX
  have HWN:=Lib.hid hxw
  clear hxw
  have HN0:=Lib.hid hn
  obtain ⟨nd,hnd⟩:∃ z,z=w2.heap.size:=⟨_,rfl⟩
  rw [← hnd] at HX HWN
  rw [← hnd] at x0 x1 x2 xl ⊢
  clear hnd
  go_wp2_with (fail)
  refine (HLO.out _ HS.out).mono ?_
  rintro e w4 ⟨A4,C4,rfl,hN4⟩
  replace HR:=Lib.hid (HR.out.frm hN4.2.2 id)
  replace HX:=Lib.hid (HX.out.frm hN4.2.2 id)
  have HO4:=Lib.hid hN4.1
  replace HS:=Lib.hid (HS.out.trans hN4.2.2 (fun _ _ h=>h))
  clear hN4
  clear r0 r1 rl g0 g1
  have r0:=HR.out.cell 0
  have r1:=HR.out.cell 1
  have rl:=HR.out.lt
  have g0:=HR.out.free 0
  have g1:=HR.out.free 1
  simp at r0 r1
  clear x0 x1 x2 xl
  have x0:=HX.out.cell 0
  have x1:=HX.out.cell 1
  have x2:=HX.out.cell 2
  have xl:=HX.out.lt
  simp at x0 x1 x2
  go_upto_region 7 with fail
  refine wp_world fun w5 hw5=>?_
  have hB4:Blk w5 w4.heap.size 108 #[.int .i64 nl,.slice A4 zl.length C4]:=by
   rw [hw5]
   exact Blk.new w4 _ _
  have hs5:Same w4 w5:=by rw [hw5];exact (Frm.refl _ _).alloc _
  clear hw5
  replace HR:=Lib.hid (HR.out.frm hs5 id)
  replace HX:=Lib.hid (HX.out.frm hs5 id)
  replace HO4:=Lib.hid (HO4.out.frm hs5 (fun _ _=>id))
  replace HS:=Lib.hid (HS.out.trans hs5 (fun _ _ h=>h))
  have hrx:w.heap.size < w4.heap.size:=rl
  obtain ⟨T4,hT4⟩:∃ z,z=w4.heap.size:=⟨_,rfl⟩
  rw [← hT4] at hB4 hrx ⊢
  have HB4:=Lib.hid hB4
  clear hT4 hs5 hB4
  clear r0 r1 rl g0 g1
  have r0:=HR.out.cell 0
  have r1:=HR.out.cell 1
  have rl:=HR.out.lt
  have g0:=HR.out.free 0
  have g1:=HR.out.free 1
  simp at r0 r1
  clear x0 x1 x2 xl
  have x0:=HX.out.cell 0
  have x1:=HX.out.cell 1
  have x2:=HX.out.cell 2
  have xl:=HX.out.lt
  simp at x0 x1 x2
  go_wp2_with (fail)
  refine (HHI.out _ HS.out).mono ?_
  rintro e w6 ⟨A6,C6,rfl,hN6⟩
  replace HR:=Lib.hid (HR.out.frm hN6.2.2 id)
  replace HX:=Lib.hid (HX.out.frm hN6.2.2 id)
  replace HB4:=Lib.hid (HB4.out.frm hN6.2.2 id)
  replace HO4:=Lib.hid (HO4.out.frm hN6.2.2 (fun _ _=>id))
  have HO6:=Lib.hid hN6.1
  replace HS:=Lib.hid (HS.out.trans hN6.2.2 (fun _ _ h=>h))
  clear hN6
  clear r0 r1 rl g0 g1
  have r0:=HR.out.cell 0
  have r1:=HR.out.cell 1
  have rl:=HR.out.lt
  have g0:=HR.out.free 0
  have g1:=HR.out.free 1
  simp at r0 r1
  clear x0 x1 x2 xl
  have x0:=HX.out.cell 0
  have x1:=HX.out.cell 1
  have x2:=HX.out.cell 2
  have xl:=HX.out.lt
  simp at x0 x1 x2
  go_upto_region 8 with fail
  refine wp_world fun w7 hw7=>?_
  have hB6:Blk w7 w6.heap.size 108 #[.int .i64 nh,.slice A6 zh.length C6]:=by
   rw [hw7]
   exact Blk.new w6 _ _
  have hs7:Same w6 w7:=by rw [hw7];exact (Frm.refl _ _).alloc _
  clear hw7
  replace HR:=Lib.hid (HR.out.frm hs7 id)
  replace HX:=Lib.hid (HX.out.frm hs7 id)
  replace HB4:=Lib.hid (HB4.out.frm hs7 id)
  replace HO4:=Lib.hid (HO4.out.frm hs7 (fun _ _=>id))
  replace HO6:=Lib.hid (HO6.out.frm hs7 (fun _ _=>id))
  replace HS:=Lib.hid (HS.out.trans hs7 (fun _ _ h=>h))
  obtain ⟨T6,hT6⟩:∃ z,z=w6.heap.size:=⟨_,rfl⟩
  rw [← hT6] at hB6 ⊢
  have HB6:=Lib.hid hB6
  clear hT6 hs7 hB6
  clear r0 r1 rl g0 g1
  have r0:=HR.out.cell 0
  have r1:=HR.out.cell 1
  have rl:=HR.out.lt
  have g0:=HR.out.free 0
  have g1:=HR.out.free 1
  simp at r0 r1
  clear x0 x1 x2 xl
  have x0:=HX.out.cell 0
  have x1:=HX.out.cell 1
  have x2:=HX.out.cell 2
  have xl:=HX.out.lt
  simp at x0 x1 x2
  go_wp2
  refine wp_post fun we hwe=>?_
  have hBE:Blk we w.heap.size 108 #[.int .i64 0,.slice none 0 0]:=by
   rw [hwe]
   have:=(HR.out.set 0 (.int .i64 0)).set 1 (.slice none 0 0)
   simpa using this
  have hSE:Same w we:=by rw [hwe];exact (HS.out.setNew 0 _ (Nat.le_refl _)).setNew 1 _ (Nat.le_refl _)
  have hr0:=hBE.cell 0
  have hr1:=hBE.cell 1
  simp at hr0 hr1
  clear hwe hBE
  refine bodyPost_ret (v:=.tuple #[.agg #[.int .i64 0,.slice none 0 0],.bool false]) (by simp [results,Tryz.results69,go_sem,hr0,hr1]) rfl ?_
  exact ⟨none,0,rfl,Own.nil _ _ _ _,fresh_none _,hSE⟩
 ·show Calls _ _ _ _ (RetTab w n none)
  go_enter Tryz.func69,Tryz.ntmps69
  go_upto_region 1 with fail
  refine wp_world fun w1 hw1=>?_
  have hs1:Same w w1:=by rw [hw1];exact (Frm.refl _ _).alloc _
  have hR:=Blk.new w 108 #[.int .i64 0,.slice none 0 0]
  rw [← hw1] at hR
  clear hw1
  go_wp2_with (fail)
  refine (HNQ.out w1 hs1).mono ?_
  rintro e w2 ⟨rfl,hs2⟩
  go_upto_region 4 with fail
  refine wp_world fun w3 hw3=>?_
  have hX:Blk w3 w2.heap.size 37 #[.int .i64 m,.int .u32 N.lo,.int .u32 N.hi]:=by
   rw [hw3]
   exact Blk.new w2 _ _
  have hs3:Same w2 w3:=by rw [hw3];exact (Frm.refl _ _).alloc _
  clear hw3
  have hR3:=hR.frm (hs2.trans hs3 (fun _ _ h=>h)) id
  have HS:=Lib.hid (hs1.trans (hs2.trans hs3 (fun _ _ h=>h)) (fun _ _ h=>h))
  have r0:=hR3.cell 0
  have r1:=hR3.cell 1
  have rl:=hR3.lt
  have g0:=hR3.free 0
  have g1:=hR3.free 1
  have x0:=hX.cell 0
  have x1:=hX.cell 1
  have x2:=hX.cell 2
  have xl:=hX.lt
  simp at r0 r1 x0 x1 x2
  have HR:=Lib.hid hR3
  have HX:=Lib.hid hX
  have hxw:w.heap.size≠w2.heap.size:=by have:=hR.frm hs2 id |>.lt;omega
  clear hR hR3 hs1 hs2 hs3 hX
  have HWN:=Lib.hid hxw
  clear hxw
  have HN0:=Lib.hid hn
  obtain ⟨nd,hnd⟩:∃ z,z=w2.heap.size:=⟨_,rfl⟩
  rw [← hnd] at HX HWN
  rw [← hnd] at x0 x1 x2 xl ⊢
  clear hnd
  go_wp2_with (fail)
  refine (HLO.out _ HS.out).mono ?_
  rintro e w4 ⟨A4,C4,rfl,hN4⟩
  replace HR:=Lib.hid (HR.out.frm hN4.2.2 id)
  replace HX:=Lib.hid (HX.out.frm hN4.2.2 id)
  have HO4:=Lib.hid hN4.1
  replace HS:=Lib.hid (HS.out.trans hN4.2.2 (fun _ _ h=>h))
  clear hN4
  clear r0 r1 rl g0 g1
  have r0:=HR.out.cell 0
  have r1:=HR.out.cell 1
  have rl:=HR.out.lt
  have g0:=HR.out.free 0
  have g1:=HR.out.free 1
  simp at r0 r1
  clear x0 x1 x2 xl
  have x0:=HX.out.cell 0
  have x1:=HX.out.cell 1
  have x2:=HX.out.cell 2
  have xl:=HX.out.lt
  simp at x0 x1 x2
  go_upto_region 7 with fail
  refine wp_world fun w5 hw5=>?_
  have hB4:Blk w5 w4.heap.size 108 #[.int .i64 nl,.slice A4 zl.length C4]:=by
   rw [hw5]
   exact Blk.new w4 _ _
  have hs5:Same w4 w5:=by rw [hw5];exact (Frm.refl _ _).alloc _
  clear hw5
  replace HR:=Lib.hid (HR.out.frm hs5 id)
  replace HX:=Lib.hid (HX.out.frm hs5 id)
  replace HO4:=Lib.hid (HO4.out.frm hs5 (fun _ _=>id))
  replace HS:=Lib.hid (HS.out.trans hs5 (fun _ _ h=>h))
  have hrx:w.heap.size < w4.heap.size:=rl
  obtain ⟨T4,hT4⟩:∃ z,z=w4.heap.size:=⟨_,rfl⟩
  rw [← hT4] at hB4 hrx ⊢
  have HB4:=Lib.hid hB4
  clear hT4 hs5 hB4
  clear r0 r1 rl g0 g1
  have r0:=HR.out.cell 0
  have r1:=HR.out.cell 1
  have rl:=HR.out.lt
  have g0:=HR.out.free 0
  have g1:=HR.out.free 1
  simp at r0 r1
  clear x0 x1 x2 xl
  have x0:=HX.out.cell 0
  have x1:=HX.out.cell 1
  have x2:=HX.out.cell 2
  have xl:=HX.out.lt
  simp at x0 x1 x2
  go_wp2_with (fail)
  refine (HHI.out _ HS.out).mono ?_
  rintro e w6 ⟨A6,C6,rfl,hN6⟩
  replace HR:=Lib.hid (HR.out.frm hN6.2.2 id)
  replace HX:=Lib.hid (HX.out.frm hN6.2.2 id)
  replace HB4:=Lib.hid (HB4.out.frm hN6.2.2 id)
  replace HO4:=Lib.hid (HO4.out.frm hN6.2.2 (fun _ _=>id))
  have HO6:=Lib.hid hN6.1
  replace HS:=Lib.hid (HS.out.trans hN6.2.2 (fun _ _ h=>h))
  clear hN6
  clear r0 r1 rl g0 g1
  have r0:=HR.out.cell 0
  have r1:=HR.out.cell 1
  have rl:=HR.out.lt
  have g0:=HR.out.free 0
  have g1:=HR.out.free 1
  simp at r0 r1
  clear x0 x1 x2 xl
  have x0:=HX.out.cell 0
  have x1:=HX.out.cell 1
  have x2:=HX.out.cell 2
  have xl:=HX.out.lt
  simp at x0 x1 x2
  go_upto_region 8 with fail
  refine wp_world fun w7 hw7=>?_
  have hB6:Blk w7 w6.heap.size 108 #[.int .i64 nh,.slice A6 zh.length C6]:=by
   rw [hw7]
   exact Blk.new w6 _ _
  have hs7:Same w6 w7:=by rw [hw7];exact (Frm.refl _ _).alloc _
  clear hw7
  replace HR:=Lib.hid (HR.out.frm hs7 id)
  replace HX:=Lib.hid (HX.out.frm hs7 id)
  replace HB4:=Lib.hid (HB4.out.frm hs7 id)
  replace HO4:=Lib.hid (HO4.out.frm hs7 (fun _ _=>id))
  replace HO6:=Lib.hid (HO6.out.frm hs7 (fun _ _=>id))
  replace HS:=Lib.hid (HS.out.trans hs7 (fun _ _ h=>h))
  obtain ⟨T6,hT6⟩:∃ z,z=w6.heap.size:=⟨_,rfl⟩
  rw [← hT6] at hB6 ⊢
  have HB6:=Lib.hid hB6
  clear hT6 hs7 hB6
  clear r0 r1 rl g0 g1
  have r0:=HR.out.cell 0
  have r1:=HR.out.cell 1
  have rl:=HR.out.lt
  have g0:=HR.out.free 0
  have g1:=HR.out.free 1
  simp at r0 r1
  clear x0 x1 x2 xl
  have x0:=HX.out.cell 0
  have x1:=HX.out.cell 1
  have x2:=HX.out.cell 2
  have xl:=HX.out.lt
  simp at x0 x1 x2
  go_wp2
  refine wp_post fun we hwe=>?_
  have hBE:Blk we w.heap.size 108 #[.int .i64 0,.slice none 0 0]:=by
   rw [hwe]
   have:=(HR.out.set 0 (.int .i64 0)).set 1 (.slice none 0 0)
   simpa using this
  have hSE:Same w we:=by rw [hwe];exact (HS.out.setNew 0 _ (Nat.le_refl _)).setNew 1 _ (Nat.le_refl _)
  have hr0:=hBE.cell 0
  have hr1:=hBE.cell 1
  simp at hr0 hr1
  clear hwe hBE
  refine bodyPost_ret (v:=.tuple #[.agg #[.int .i64 0,.slice none 0 0],.bool false]) (by simp [results,Tryz.results69,go_sem,hr0,hr1]) rfl ?_
  exact ⟨none,0,rfl,Own.nil _ _ _ _,fresh_none _,hSE⟩
 ·show Calls _ _ _ _ (RetTab w n none)
  go_enter Tryz.func69,Tryz.ntmps69
  go_upto_region 1 with fail
  refine wp_world fun w1 hw1=>?_
  have hs1:Same w w1:=by rw [hw1];exact (Frm.refl _ _).alloc _
  have hR:=Blk.new w 108 #[.int .i64 0,.slice none 0 0]
  rw [← hw1] at hR
  clear hw1
  go_wp2_with (fail)
  refine (HNQ.out w1 hs1).mono ?_
  rintro e w2 ⟨rfl,hs2⟩
  go_upto_region 4 with fail
  refine wp_world fun w3 hw3=>?_
  have hX:Blk w3 w2.heap.size 37 #[.int .i64 m,.int .u32 N.lo,.int .u32 N.hi]:=by
   rw [hw3]
   exact Blk.new w2 _ _
  have hs3:Same w2 w3:=by rw [hw3];exact (Frm.refl _ _).alloc _
  clear hw3
  have hR3:=hR.frm (hs2.trans hs3 (fun _ _ h=>h)) id
  have HS:=Lib.hid (hs1.trans (hs2.trans hs3 (fun _ _ h=>h)) (fun _ _ h=>h))
  have r0:=hR3.cell 0
  have r1:=hR3.cell 1
  have rl:=hR3.lt
  have g0:=hR3.free 0
  have g1:=hR3.free 1
  have x0:=hX.cell 0
  have x1:=hX.cell 1
  have x2:=hX.cell 2
  have xl:=hX.lt
  simp at r0 r1 x0 x1 x2
  have HR:=Lib.hid hR3
  have HX:=Lib.hid hX
  have hxw:w.heap.size≠w2.heap.size:=by have:=hR.frm hs2 id |>.lt;omega
  clear hR hR3 hs1 hs2 hs3 hX
  have HWN:=Lib.hid hxw
  clear hxw
  have HN0:=Lib.hid hn
  obtain ⟨nd,hnd⟩:∃ z,z=w2.heap.size:=⟨_,rfl⟩
  rw [← hnd] at HX HWN
  rw [← hnd] at x0 x1 x2 xl ⊢
  clear hnd
  go_wp2_with (fail)
  refine (HLO.out _ HS.out).mono ?_
  rintro e w4 ⟨A4,C4,rfl,hN4⟩
  replace HR:=Lib.hid (HR.out.frm hN4.2.2 id)
  replace HX:=Lib.hid (HX.out.frm hN4.2.2 id)
  have HO4:=Lib.hid hN4.1
  replace HS:=Lib.hid (HS.out.trans hN4.2.2 (fun _ _ h=>h))
  clear hN4
  clear r0 r1 rl g0 g1
  have r0:=HR.out.cell 0
  have r1:=HR.out.cell 1
  have rl:=HR.out.lt
  have g0:=HR.out.free 0
  have g1:=HR.out.free 1
  simp at r0 r1
  clear x0 x1 x2 xl
  have x0:=HX.out.cell 0
  have x1:=HX.out.cell 1
  have x2:=HX.out.cell 2
  have xl:=HX.out.lt
  simp at x0 x1 x2
  go_upto_region 7 with fail
  refine wp_world fun w5 hw5=>?_
  have hB4:Blk w5 w4.heap.size 108 #[.int .i64 nl,.slice A4 zl.length C4]:=by
   rw [hw5]
   exact Blk.new w4 _ _
  have hs5:Same w4 w5:=by rw [hw5];exact (Frm.refl _ _).alloc _
  clear hw5
  replace HR:=Lib.hid (HR.out.frm hs5 id)
  replace HX:=Lib.hid (HX.out.frm hs5 id)
  replace HO4:=Lib.hid (HO4.out.frm hs5 (fun _ _=>id))
  replace HS:=Lib.hid (HS.out.trans hs5 (fun _ _ h=>h))
  have hrx:w.heap.size < w4.heap.size:=rl
  obtain ⟨T4,hT4⟩:∃ z,z=w4.heap.size:=⟨_,rfl⟩
  rw [← hT4] at hB4 hrx ⊢
  have HB4:=Lib.hid hB4
  clear hT4 hs5 hB4
  clear r0 r1 rl g0 g1
  have r0:=HR.out.cell 0
  have r1:=HR.out.cell 1
  have rl:=HR.out.lt
  have g0:=HR.out.free 0
  have g1:=HR.out.free 1
  simp at r0 r1
  clear x0 x1 x2 xl
  have x0:=HX.out.cell 0
  have x1:=HX.out.cell 1
  have x2:=HX.out.cell 2
  have xl:=HX.out.lt
  simp at x0 x1 x2
  go_wp2_with (fail)
  refine (HHI.out _ HS.out).mono ?_
  rintro e w6 ⟨A6,C6,rfl,hN6⟩
  replace HR:=Lib.hid (HR.out.frm hN6.2.2 id)
  replace HX:=Lib.hid (HX.out.frm hN6.2.2 id)
  replace HB4:=Lib.hid (HB4.out.frm hN6.2.2 id)
  replace HO4:=Lib.hid (HO4.out.frm hN6.2.2 (fun _ _=>id))
  have HO6:=Lib.hid hN6.1
  replace HS:=Lib.hid (HS.out.trans hN6.2.2 (fun _ _ h=>h))
  clear hN6
  clear r0 r1 rl g0 g1
  have r0:=HR.out.cell 0
  have r1:=HR.out.cell 1
  have rl:=HR.out.lt
  have g0:=HR.out.free 0
  have g1:=HR.out.free 1
  simp at r0 r1
  clear x0 x1 x2 xl
  have x0:=HX.out.cell 0
  have x1:=HX.out.cell 1
  have x2:=HX.out.cell 2
  have xl:=HX.out.lt
  simp at x0 x1 x2
  go_upto_region 8 with fail
  refine wp_world fun w7 hw7=>?_
  have hB6:Blk w7 w6.heap.size 108 #[.int .i64 nh,.slice A6 zh.length C6]:=by
   rw [hw7]
   exact Blk.new w6 _ _
  have hs7:Same w6 w7:=by rw [hw7];exact (Frm.refl _ _).alloc _
  clear hw7
  replace HR:=Lib.hid (HR.out.frm hs7 id)
  replace HX:=Lib.hid (HX.out.frm hs7 id)
  replace HB4:=Lib.hid (HB4.out.frm hs7 id)
  replace HO4:=Lib.hid (HO4.out.frm hs7 (fun _ _=>id))
  replace HO6:=Lib.hid (HO6.out.frm hs7 (fun _ _=>id))
  replace HS:=Lib.hid (HS.out.trans hs7 (fun _ _ h=>h))
  obtain ⟨T6,hT6⟩:∃ z,z=w6.heap.size:=⟨_,rfl⟩
  rw [← hT6] at hB6 ⊢
  have HB6:=Lib.hid hB6
  clear hT6 hs7 hB6
  clear r0 r1 rl g0 g1
  have r0:=HR.out.cell 0
  have r1:=HR.out.cell 1
  have rl:=HR.out.lt
  have g0:=HR.out.free 0
  have g1:=HR.out.free 1
  simp at r0 r1
  clear x0 x1 x2 xl
  have x0:=HX.out.cell 0
  have x1:=HX.out.cell 1
  have x2:=HX.out.cell 2
  have xl:=HX.out.lt
  simp at x0 x1 x2
  go_wp2
  refine wp_post fun we hwe=>?_
  have hBE:Blk we w.heap.size 108 #[.int .i64 0,.slice none 0 0]:=by
   rw [hwe]
   have:=(HR.out.set 0 (.int .i64 0)).set 1 (.slice none 0 0)
   simpa using this
  have hSE:Same w we:=by rw [hwe];exact (HS.out.setNew 0 _ (Nat.le_refl _)).setNew 1 _ (Nat.le_refl _)
  have hr0:=hBE.cell 0
  have hr1:=hBE.cell 1
  simp at hr0 hr1
  clear hwe hBE
  refine bodyPost_ret (v:=.tuple #[.agg #[.int .i64 0,.slice none 0 0],.bool false]) (by simp [results,Tryz.results69,go_sem,hr0,hr1]) rfl ?_
  exact ⟨none,0,rfl,Own.nil _ _ _ _,fresh_none _,hSE⟩
 ·show Calls _ _ _ _ (RetTab w n (some (ifT n m zl zh)))
  go_enter Tryz.func69,Tryz.ntmps69
  go_upto_region 1 with fail
  refine wp_world fun w1 hw1=>?_
  have hs1:Same w w1:=by rw [hw1];exact (Frm.refl _ _).alloc _
  have hR:=Blk.new w 108 #[.int .i64 0,.slice none 0 0]
  rw [← hw1] at hR
  clear hw1
  go_wp2_with (fail)
  refine (HNQ.out w1 hs1).mono ?_
  rintro e w2 ⟨rfl,hs2⟩
  go_upto_region 4 with fail
  refine wp_world fun w3 hw3=>?_
  have hX:Blk w3 w2.heap.size 37 #[.int .i64 m,.int .u32 N.lo,.int .u32 N.hi]:=by
   rw [hw3]
   exact Blk.new w2 _ _
  have hs3:Same w2 w3:=by rw [hw3];exact (Frm.refl _ _).alloc _
  clear hw3
  have hR3:=hR.frm (hs2.trans hs3 (fun _ _ h=>h)) id
  have HS:=Lib.hid (hs1.trans (hs2.trans hs3 (fun _ _ h=>h)) (fun _ _ h=>h))
  have r0:=hR3.cell 0
  have r1:=hR3.cell 1
  have rl:=hR3.lt
  have g0:=hR3.free 0
  have g1:=hR3.free 1
  have x0:=hX.cell 0
  have x1:=hX.cell 1
  have x2:=hX.cell 2
  have xl:=hX.lt
  simp at r0 r1 x0 x1 x2
  have HR:=Lib.hid hR3
  have HX:=Lib.hid hX
  have hxw:w.heap.size≠w2.heap.size:=by have:=hR.frm hs2 id |>.lt;omega
  clear hR hR3 hs1 hs2 hs3 hX
  have HWN:=Lib.hid hxw
  clear hxw
  have HN0:=Lib.hid hn
  obtain ⟨nd,hnd⟩:∃ z,z=w2.heap.size:=⟨_,rfl⟩
  rw [← hnd] at HX HWN
  rw [← hnd] at x0 x1 x2 xl ⊢
  clear hnd
  go_wp2_with (fail)
  refine (HLO.out _ HS.out).mono ?_
  rintro e w4 ⟨A4,C4,rfl,hN4⟩
  replace HR:=Lib.hid (HR.out.frm hN4.2.2 id)
  replace HX:=Lib.hid (HX.out.frm hN4.2.2 id)
  have HO4:=Lib.hid hN4.1
  replace HS:=Lib.hid (HS.out.trans hN4.2.2 (fun _ _ h=>h))
  clear hN4
  clear r0 r1 rl g0 g1
  have r0:=HR.out.cell 0
  have r1:=HR.out.cell 1
  have rl:=HR.out.lt
  have g0:=HR.out.free 0
  have g1:=HR.out.free 1
  simp at r0 r1
  clear x0 x1 x2 xl
  have x0:=HX.out.cell 0
  have x1:=HX.out.cell 1
  have x2:=HX.out.cell 2
  have xl:=HX.out.lt
  simp at x0 x1 x2
  go_upto_region 7 with fail
  refine wp_world fun w5 hw5=>?_
  have hB4:Blk w5 w4.heap.size 108 #[.int .i64 nl,.slice A4 zl.length C4]:=by
   rw [hw5]
   exact Blk.new w4 _ _
  have hs5:Same w4 w5:=by rw [hw5];exact (Frm.refl _ _).alloc _
  clear hw5
  replace HR:=Lib.hid (HR.out.frm hs5 id)
  replace HX:=Lib.hid (HX.out.frm hs5 id)
  replace HO4:=Lib.hid (HO4.out.frm hs5 (fun _ _=>id))
  replace HS:=Lib.hid (HS.out.trans hs5 (fun _ _ h=>h))
  have hrx:w.heap.size < w4.heap.size:=rl
  obtain ⟨T4,hT4⟩:∃ z,z=w4.heap.size:=⟨_,rfl⟩
  rw [← hT4] at hB4 hrx ⊢
  have HB4:=Lib.hid hB4
  clear hT4 hs5 hB4
  clear r0 r1 rl g0 g1
  have r0:=HR.out.cell 0
  have r1:=HR.out.cell 1
  have rl:=HR.out.lt
  have g0:=HR.out.free 0
  have g1:=HR.out.free 1
  simp at r0 r1
  clear x0 x1 x2 xl
  have x0:=HX.out.cell 0
  have x1:=HX.out.cell 1
  have x2:=HX.out.cell 2
  have xl:=HX.out.lt
  simp at x0 x1 x2
  go_wp2_with (fail)
  refine (HHI.out _ HS.out).mono ?_
  rintro e w6 ⟨A6,C6,rfl,hN6⟩
  replace HR:=Lib.hid (HR.out.frm hN6.2.2 id)
  replace HX:=Lib.hid (HX.out.frm hN6.2.2 id)
  replace HB4:=Lib.hid (HB4.out.frm hN6.2.2 id)
  replace HO4:=Lib.hid (HO4.out.frm hN6.2.2 (fun _ _=>id))
  have HO6:=Lib.hid hN6.1
  replace HS:=Lib.hid (HS.out.trans hN6.2.2 (fun _ _ h=>h))
  clear hN6
  clear r0 r1 rl g0 g1
  have r0:=HR.out.cell 0
  have r1:=HR.out.cell 1
  have rl:=HR.out.lt
  have g0:=HR.out.free 0
  have g1:=HR.out.free 1
  simp at r0 r1
  clear x0 x1 x2 xl
  have x0:=HX.out.cell 0
  have x1:=HX.out.cell 1
  have x2:=HX.out.cell 2
  have xl:=HX.out.lt
  simp at x0 x1 x2
  go_upto_region 8 with fail
  refine wp_world fun w7 hw7=>?_
  have hB6:Blk w7 w6.heap.size 108 #[.int .i64 nh,.slice A6 zh.length C6]:=by
   rw [hw7]
   exact Blk.new w6 _ _
  have hs7:Same w6 w7:=by rw [hw7];exact (Frm.refl _ _).alloc _
  clear hw7
  replace HR:=Lib.hid (HR.out.frm hs7 id)
  replace HX:=Lib.hid (HX.out.frm hs7 id)
  replace HB4:=Lib.hid (HB4.out.frm hs7 id)
  replace HO4:=Lib.hid (HO4.out.frm hs7 (fun _ _=>id))
  replace HO6:=Lib.hid (HO6.out.frm hs7 (fun _ _=>id))
  replace HS:=Lib.hid (HS.out.trans hs7 (fun _ _ h=>h))
  obtain ⟨T6,hT6⟩:∃ z,z=w6.heap.size:=⟨_,rfl⟩
  rw [← hT6] at hB6 ⊢
  have HB6:=Lib.hid hB6
  clear hT6 hs7 hB6
  clear r0 r1 rl g0 g1
  have r0:=HR.out.cell 0
  have r1:=HR.out.cell 1
  have rl:=HR.out.lt
  have g0:=HR.out.free 0
  have g1:=HR.out.free 1
  simp at r0 r1
  clear x0 x1 x2 xl
  have x0:=HX.out.cell 0
  have x1:=HX.out.cell 1
  have x2:=HX.out.cell 2
  have xl:=HX.out.lt
  simp at x0 x1 x2
  obtain ⟨e1,hx⟩:=HFL.out (by first | trivial | rfl)
  obtain ⟨e2,hy⟩:=HFH.out (by first | trivial | rfl)
  rw [e1] at HB4
  rw [e2] at HB6
  rw [e1,e2]
  have hif:=fun w' (hs:Same w7 w')=>if9_any (w:=w') (lo:=⟨n,A4,C4,zl⟩) (hi:=⟨n,A6,C6,zh⟩) m hmn ⟨rfl,HO4.out.frm hs (fun _ _=>id),hx.1,hx.2⟩ ⟨rfl,HO6.out.frm hs (fun _ _=>id),hy.1,hy.2⟩
  unfold Tb.val at hif
  simp only at hif
  have HIF:=Lib.hid hif
  have y0:=HB4.out.cell 0
  have y1:=HB4.out.cell 1
  have yl:=HB4.out.lt
  have z0:=HB6.out.cell 0
  have z1:=HB6.out.cell 1
  have zl:=HB6.out.lt
  simp at y0 y1 z0 z1
  clear hx hy hif e1 e2
  go_wp2_with (fail)
  refine (HIF.out _ (Frm.refl _ _)).mono ?_
  rintro e w8 ⟨A8,C8,rfl,hN8⟩
  replace HR:=Lib.hid (HR.out.frm hN8.2.2 id)
  have HO8:=Lib.hid hN8.1
  have HF8:=Lib.hid (show Fresh w.heap.size A8 from fun b hb=>Nat.le_trans HS.out.size (hN8.2.1 b hb))
  replace HS:=Lib.hid (HS.out.trans hN8.2.2 (fun _ _ h=>h))
  clear hN8 x0 x1 x2 xl y0 y1 yl z0 z1 zl
  clear r0 r1 rl g0 g1
  have r0:=HR.out.cell 0
  have r1:=HR.out.cell 1
  have rl:=HR.out.lt
  have g0:=HR.out.free 0
  have g1:=HR.out.free 1
  simp at r0 r1
  obtain ⟨z,hz⟩:∃ z,ifT n m zl zh=z:=⟨_,rfl⟩
  rw [hz] at HO8 ⊢
  have HZ:=Lib.hid hz
  clear hz
  go_wp2
  refine wp_post fun we hwe=>?_
  have hBE:Blk we w.heap.size 108 #[.int .i64 n,.slice A8 z.length C8]:=by
   rw [hwe]
   have:=(HR.out.set 0 (.int .i64 n)).set 1 (.slice A8 z.length C8)
   simpa using this
  have hnA:∀ x,A8=some x→x.block≠w.heap.size:=fun x hx h=>HO8.out.ne_blk HR.out (by decide) x hx h
  have hOE:OwnW we A8 z.length C8 z:=by
   rw [hwe]
   exact (Own.far (p:=⟨w.heap.size,0,none⟩) HO8.out hnA _).far (p:=⟨w.heap.size,1,none⟩) hnA _
  have hSE:Same w we:=by rw [hwe];exact (HS.out.setNew 0 _ (Nat.le_refl _)).setNew 1 _ (Nat.le_refl _)
  have hr0:=hBE.cell 0
  have hr1:=hBE.cell 1
  simp at hr0 hr1
  clear hwe hBE
  refine bodyPost_ret (v:=.tuple #[.agg #[.int .i64 n,.slice A8 z.length C8],.bool true]) (by simp [results,Tryz.results69,go_sem,hr0,hr1]) rfl ?_
  have hz:=HZ.out
  subst hz
  exact ⟨A8,C8,rfl,hOE,HF8.out,hSE⟩
end
section
variable {w w':World} {n:Nat} {kp:Nat} {k:KS} {a:KA}
theorem getE_two (ls:List Pl) (r:Int):getE ls r=0∨getE ls r=3:=by
 unfold getE
 split
 ·exact .inl rfl
 ·exact .inr rfl
theorem table_law (hk:KW w kp k a) (hg:RngK k) (hn:n≤16):∀ (f:Nat) (r:Int),0≤r→r < 4294967296→f≤n+1→∀ w',Same w w' →
  Calls Tryz.prog 69 #[.pointer (some ⟨kp,0,none⟩),.int .u32 r,.int .i64 n,.int .i64 ((n+1 - f:Nat):Int)] w' (RetTab w' n (tabK k n f r)):=by
 intro f
 induction f with
 | zero =>
  intro r h0 h1 hf w' hs
  unfold tabK
  by_cases hr:r=0∨r=1
  ·rw [if_pos hr]
   exact table_const r hr hn _ w'
  ·rw [if_neg hr]
   exact table_bad r (fun h=>hr (.inl h)) (fun h=>hr (.inr h)) (n+1 - 0) (getN k.ls r) (getE k.ls r) w' (fun w2 hs2=>knodeq_any ((hk.same hs).same hs2) r h0 h1) (getE_two _ _) (.inr (.inl (by omega)))
 | succ f ih =>
  intro r h0 h1 hf w' hs
  unfold tabK
  by_cases hr:r=0∨r=1
  ·rw [if_pos hr]
   exact table_const r hr hn _ w'
  ·rw [if_neg hr]
   by_cases hb:getE k.ls r≠0∨(getN k.ls r).v < 0∨(n:Int)≤(getN k.ls r).v
   ·rw [if_pos hb]
    exact table_bad r (fun h=>hr (.inl h)) (fun h=>hr (.inr h)) (n+1 - (f+1)) (getN k.ls r) (getE k.ls r) w' (fun w2 hs2=>knodeq_any ((hk.same hs).same hs2) r h0 h1) (getE_two _ _) (hb.imp id .inr)
   ·rw [if_neg hb]
    have he:getE k.ls r=0:=by
     rcases getE_two k.ls r with h | h
     ·exact h
     ·exact absurd (.inl (by rw [h] <;> decide)) hb
    obtain ⟨l0,l1,g0,g1⟩:=hg r h0 h1 he
    obtain ⟨m,hm⟩:=Int.eq_ofNat_of_zero_le (show 0≤(getN k.ls r).v by omega)
    have hD:((n+1 - (f+1):Nat):Int)+1=((n+1 - f:Nat):Int):=by omega
    have key:∀ c:Int,0≤c→c < 4294967296→∀ w2,Same w' w2→Calls Tryz.prog 69 #[.pointer (some ⟨kp,0,none⟩),.int .u32 c,.int .i64 n,.int .i64 (((n+1 - (f+1):Nat):Int)+1)] w2 (fun e w''=>∃ A C,e=.returned (.tuple #[.agg #[.int .i64 (if (tabK k n f c).isSome then (n:Int) else 0),.slice A ((tabK k n f c).getD []).length C],.bool (tabK k n f c).isSome])∧NewT w2 ((tabK k n f c).getD []) A C w''):=by
     intro c c0 c1 w2 hs2
     rw [hD]
     exact ih c c0 c1 (by omega) w2 (hs.trans hs2 (fun _ _ h=>h))
    have frm:∀ c:Int,(tabK k n f c).isSome=true→(if (tabK k n f c).isSome then (n:Int) else 0)=n∧FormN n ((tabK k n f c).getD [])∧Small ((tabK k n f c).getD []):=by
     intro c hc
     cases ht:tabK k n f c with
     | none=>rw [ht] at hc;cases hc
     | some z=>exact ⟨rfl,tabK_form hn f c z ht⟩
    have:=table_good (kp:=kp) r (fun h=>hr (.inl h)) (fun h=>hr (.inr h)) (n+1 - (f+1)) hn (by omega) (getN k.ls r) m hm (by omega) _ _ _ _ _ _ w' (fun w2 hs2=>by
      have:=knodeq_any ((hk.same hs).same hs2) r h0 h1
      rwa [he] at this) (key _ l0 l1) (key _ g0 g1) (frm _) (frm _)
    rw [hm,Int.toNat_natCast]
    cases h1:tabK k n f (getN k.ls r).lo <;> cases h2:tabK k n f (getN k.ls r).hi <;> rw [h1,h2] at this <;> exact this
end
def lookP (p:PS):PS:={ countP p with dead:=(List.range p.ts.length).map fun i:Nat=>!livesB (countP p) i }
def lookB (p:PS):Bool :=
 decide (p.k.ord=p.m.ord) && decide (p.k.tr.length=p.m.tr.length) && decide ((p.k.ac:Int) - 2=((liveM p.m).length:Nat)) &&
 ((List.range p.m.n).all fun v:Nat=>decide (wdR p.k v=widthM p.m v) && decide (lvlR p.k v=levelL p.m.ord v) && decide (lvlE p.k v=0)) &&
 decide ((rootsK p.k).length=p.m.held.length) &&
 ((List.range (rootsK p.k).length).all fun i:Nat =>
  match tabK p.k p.m.n (p.m.n+1) ((rootsK p.k).getD i 0) with
  | none=>false
  | some t=>!decide (holdsL p.m.held t=0) && decide (p.k.hs.getD ((rootsK p.k).getD i 0).toNat 0=holdsL p.m.held t) && (decide (i=0) || decide ((rootsK p.k).getD (i - 1) 0 < (rootsK p.k).getD i 0))) &&
 ((List.range p.ts.length).all fun i:Nat=>!livesB (lookP p) i || (decide (tabK p.k p.m.n (p.m.n+1) (p.refs.getD i 0)=some (p.ts.getD i [])) &&
  ((List.range i).all fun j:Nat=>!livesB (lookP p) j || (decide (p.ts.getD i []=p.ts.getD j []) == decide (p.refs.getD i 0=p.refs.getD j 0)))))
structure LookOk (p:PS):Prop where
 ord:p.k.ord=p.m.ord
 tr:p.k.tr.length=p.m.tr.length
 live:(p.k.ac:Int) - 2=((liveM p.m).length:Nat)
 wd:∀ v:Nat,v < p.m.n→wdR p.k v=widthM p.m v∧lvlR p.k v=levelL p.m.ord v∧lvlE p.k v=0
 rl:(rootsK p.k).length=p.m.held.length
 rt:∀ i:Nat,i < (rootsK p.k).length→∃ t,tabK p.k p.m.n (p.m.n+1) ((rootsK p.k).getD i 0)=some t∧¬ holdsL p.m.held t=0∧p.k.hs.getD ((rootsK p.k).getD i 0).toNat 0=holdsL p.m.held t∧(i=0∨(rootsK p.k).getD (i - 1) 0 < (rootsK p.k).getD i 0)
 fn:∀ i:Nat,i < p.ts.length→livesB (lookP p) i=true→tabK p.k p.m.n (p.m.n+1) (p.refs.getD i 0)=some (p.ts.getD i []) ∧
  ∀ j:Nat,j < i→livesB (lookP p) j=true→decide (p.ts.getD i []=p.ts.getD j [])=decide (p.refs.getD i 0=p.refs.getD j 0)
theorem look_facts {p:PS} (h:lookB p=true):LookOk p:=by
 unfold lookB at h
 simp only [Bool.and_eq_true,Bool.or_eq_true,decide_eq_true_eq,List.all_eq_true,List.mem_range,beq_iff_eq,Bool.not_eq_true'] at h
 obtain ⟨⟨⟨⟨⟨⟨h1,h2⟩,h3⟩,h4⟩,h5⟩,h6⟩,h7⟩:=h
 refine ⟨h1,h2,h3,fun v hv=>⟨(h4 v hv).1.1,(h4 v hv).1.2,(h4 v hv).2⟩,h5,?_,?_⟩
 ·intro i hi
  have h:=h6 i hi
  split at h
  ·cases h
  ·rename_i t ht
   simp only [Bool.and_eq_true,Bool.or_eq_true,decide_eq_true_eq,Bool.not_eq_true',decide_eq_false_iff_not] at h
   exact ⟨t,ht,h.1.1,h.1.2,h.2⟩
 ·intro i hi hl
  rcases h7 i hi with h | h
  ·rw [h] at hl
   cases hl
  ·refine ⟨h.1,fun j hj hlj=>?_⟩
   rcases h.2 j hj with g | g
   ·rw [g] at hlj
    cases hlj
   ·exact g
theorem tab_at {w:World} {n:Nat} {A:Option Addr} {C:Nat} {ts:List Tb} (ho:Go.Tk.Own w 108 2 Tb.cells A ts.length C ts) (ht:∀ t∈ts,TW w n t) {i:Nat} {t:Tb} (hi:ts[i]?=some t):∃ b,A=some ⟨b,0,none⟩∧b < w.heap.size∧w.cell? ⟨b,i * 2,none⟩=some (.int .i64 n)∧w.cell? ⟨b,i * 2+1,none⟩=some (.slice t.A t.ws.length t.C):=by
 obtain ⟨b,h1,h2,h3⟩:=ho.get Tb.cells_len hi
 have h4:=h3 0 (by omega)
 simp only [Tb.cells,(ht t (List.mem_of_getElem? hi)).N] at h4
 exact ⟨b,h1,h2,by simpa using h4,h3 1 (by omega)⟩
theorem tk_lt {ls:List Pl} {r:Int} (h:tk ls r=true) (h0:0≤r):r < ls.length:=by
 unfold tk at h
 split at h
 ·rename_i p hp
  have:=(List.getElem?_eq_some_iff.1 hp).1
  omega
 ·cases h
theorem rng_ki {k:KS} (K:KI k):RngK k:=by
 intro r h0 h1 hE
 have ht:tk k.ls r=true:=by
  unfold getE at hE
  split at hE
  ·assumption
  ·cases hE
 have hll:k.ls.length≤1048576:=Nat.le_trans K.bk.lim K.bk.cM
 rcases (K.live h0).1 ht with rfl | rfl | ⟨n,hn⟩
 ·unfold getN
  rw [show ((0:Int).toNat)=0 from rfl,K.bk.l0]
  decide
 ·unfold getN
  rw [show ((1:Int).toNat)=1 from rfl,K.bk.l1]
  decide
 ·obtain ⟨_,hg,_⟩:=K.mem' hn
  rw [hg]
  obtain ⟨_,_,c1,c2,c3,c4,_⟩:=K.bk.chl n r hn
  have:=tk_lt c3 c1
  have:=tk_lt c4 c2
  omega
theorem roots_range {k:KS} (K:KI k):∀ x∈rootsK k,0≤x∧x < 4294967296:=by
 intro x hx
 unfold rootsK rootsTo at hx
 rw [List.mem_map] at hx
 obtain ⟨i,hi,rfl⟩:=hx
 have h1:=List.mem_range.1 (List.mem_filter.1 hi).1
 have h2:k.ls.length≤1048576:=Nat.le_trans K.bk.lim K.bk.cM
 have h3:=K.bk.ulm
 have h4:=K.bk.ul
 omega
theorem roots_len {k:KS} (K:KI k):(rootsK k).length≤1048576:=by
 have h1:=rootsTo_len k.hs k.hs.length
 have h2:k.ls.length≤1048576:=Nat.le_trans K.bk.lim K.bk.cM
 have h3:=K.bk.ulm
 have h4:=K.bk.ul
 unfold rootsK
 omega
end Go.Proofs.YtiomgckodmecbaaGreat
namespace Go.Tk
theorem Sl.frm {w w':World} {S:Nat→Prop} {m:Nat} {α:Type} {f:α→List Value} {A:Option Addr} {n:Nat} {xs:List α} (h:Sl w m f A n xs) (hf:Frm S w w') (hs:0 < xs.length→∀ b,rowOf A b→¬ S b):Sl w' m f A n xs :=
 ⟨h.len,fun i x hi=>by
  obtain ⟨b,off,h1,h2,h3⟩:=h.get i x hi
  have hl:=lt_of_get hi
  exact ⟨b,off,h1,Nat.lt_of_lt_of_le h2 hf.size,fun j hj=>by rw [← h3 j hj];exact hf.cell (p:=⟨b,_,none⟩) h2 (hs (by omega) b ⟨_,h1,rfl⟩)⟩⟩
end Go.Tk
namespace Go.Proofs.YtiomgckodmecbaaGreat
open Go.RowKit Go.Tk
theorem same_any (A B:Option Addr) (n m C D:Nat) (xs ys:List Int) (w:World) (h:IL w A n xs) (h2:IL w B m ys) (hr:n * 8≤140737488351232) (hr2:m * 8≤140737488351232) :
  Calls Tryz.prog 38 #[.slice A n C,.slice B m D] w fun e w'=>e=.returned (.bool (decide (xs=ys)))∧Same w w':=by
 obtain rfl:=h.len
 obtain rfl:=h2.len
 have H:=Lib.hid h
 have H2:=Lib.hid h2
 clear h h2
 by_cases hl:xs.length=ys.length
 ·have hl1:xs.length≤ys.length:=by omega
  have hl2:ys.length≤xs.length:=by omega
  have hl':((xs.length:Int) != (ys.length:Int))=false:=by simp [hl]
  have HL:=Lib.hid hl
  clear hl
  go_enter Tryz.func38,Tryz.ntmps38
  go_wp2
  go_loopw [5] (fun i wr=>∃ k:Nat,k≤xs.length∧i=.int .i64 k∧xs.take k=ys.take k∧Same w wr) (fun i _=>xs.length - (intOf i).toNat)
  case atStart=>exact ⟨0,by omega,rfl,rfl,Frm.refl _ _⟩
  case round =>
   obtain ⟨k,hk,rfl,he,hs⟩:=hrel
   by_cases hlt:k < xs.length
   ·obtain ⟨x,hx⟩:∃ x,xs[k]?=some x:=⟨_,List.getElem?_eq_getElem hlt⟩
    obtain ⟨y,hy⟩:∃ y,ys[k]?=some y:=⟨_,List.getElem?_eq_getElem (by omega)⟩
    obtain ⟨b,off,rfl,hb,hc⟩:=(Sl.same H.out hs).at1 hx
    obtain ⟨b2,off2,rfl,hb2,hc2⟩:=(Sl.same H2.out hs).at1 hy
    have hi0:(0:Int)≤k:=by omega
    have hi1:(k:Int) < xs.length:=by omega
    have hi2:(k:Int) < ys.length:=by omega
    have HX:=Lib.hid hx
    have HY:=Lib.hid hy
    have HE:=Lib.hid he
    have HS:=Lib.hid hs
    clear hx hy he hs
    by_cases hxy:x=y
    ·subst hxy
     go_wp2
     refine wp_quiet (by kernel_rfl) (by kernel_rfl) ?_
     repeat (any_goals (first | go_big_quiet_step (fail) | quiet_step (fail)))
     refine wpQuiet_nil ?_
     rintro _ ⟨q,rfl⟩
     have HS2:=Lib.hid (HS.out.trans (more_same _ q) (fun _ _ h=>h))
     go_wp2
     go_roundw
     case rel=>exact ⟨k+1,by omega,by go_num,by rw [take_snoc HX.out,take_snoc HY.out,HE.out],HS2.out⟩
     case measure=>simp [intOf] <;> omega
    ·have hne:(x != y)=true:=by simpa using hxy
     have hfin:decide (xs=ys)=false:=by
      rw [decide_eq_false_iff_not]
      rintro rfl
      exact hxy (Option.some.inj (HX.out.symm.trans HY.out))
     have HFIN:=Lib.hid hfin
     clear hxy hfin
     go_wp2
     refine wp_quiet (by kernel_rfl) (by kernel_rfl) ?_
     repeat (any_goals (first | go_big_quiet_step (fail) | quiet_step (fail)))
     refine wpQuiet_nil ?_
     rintro _ ⟨q,rfl⟩
     have HS2:=Lib.hid (HS.out.trans (more_same _ q) (fun _ _ h=>h))
     go_wp2
     go_ret
     exact ⟨ret_bool HFIN.out.symm,HS2.out⟩
   ·obtain rfl:k=xs.length:=by omega
    have hfin:decide (xs=ys)=true:=by
     rw [decide_eq_true_iff]
     rw [List.take_of_length_le (Nat.le_refl _),List.take_of_length_le (by omega)] at he
     exact he
    have HFIN:=Lib.hid hfin
    clear he hfin
    go_wp2
    go_ret
    exact ⟨ret_bool HFIN.out.symm,hs⟩
 ·have hl':((xs.length:Int) != (ys.length:Int))=true:=by simp <;> omega
  have hfin:decide (xs=ys)=false:=by
   rw [decide_eq_false_iff_not]
   rintro rfl
   exact hl rfl
  have HFIN:=Lib.hid hfin
  clear hl hfin
  go_enter Tryz.func38,Tryz.ntmps38
  go_wp2
  go_ret
  exact ⟨ret_bool HFIN.out.symm,Frm.refl _ _⟩
theorem psame_any (A B:Option Addr) (n m C D:Nat) (xs ys:List Int) (w:World) (h:IL w A n xs) (h2:IL w B m ys) (hr:n * 8≤140737488351232) (hr2:m * 8≤140737488351232) :
  Calls Tryz.prog 38 #[.slice A n C,.slice B m D] w fun e w'=>e=.returned (.bool (decide (xs=ys)))∧Same w w':=same_any A B n m C D xs ys w h h2 hr hr2
end Go.Proofs.YtiomgckodmecbaaGreat
