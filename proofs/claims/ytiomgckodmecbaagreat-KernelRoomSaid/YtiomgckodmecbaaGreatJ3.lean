/- Contracts and plain laws, put together in one file. No condition. -/
import Derived.Test.YtiomgckodmecbaaGreatJ2
import Derived.Lib.SlBuf

set_option maxRecDepth 100000
set_option maxHeartbeats 32000000
namespace Go.Tk
def kg (F:Nat→Bool):Nat→Nat
 | 0=>0
 | m+1=>kg F m+(if F m then 2 ^ m else 0)
theorem kV (F:Nat→Bool):∀ m,kg F m<2 ^ m
 | 0=>by simp[kg]
 | m+1=>by
  have:=kV F m
  rw[kg,Nat.pow_succ];split <;> omega
theorem pJ (F:Nat→Bool):∀ m j,(kg F m).testBit j=(decide (j<m)&&F j)
 | 0,j=>by simp[kg]
 | m+1,j=>by
  have ih:=pJ F m j;have hl:=kV F m;have he:(if F m then 2 ^ m else 0)=2 ^ m*(F m).toNat:=by cases F m <;> simp
  rw[kg,he,Nat.add_comm,Nat.testBit_two_pow_mul_add _ hl,ih];rcases Nat.lt_trichotomy j m with h | h | h
  ·rw[if_pos h];simp[h,show j<m+1 by omega]
  ·subst h;rw[if_neg (Nat.lt_irrefl _)];cases hF:F j <;> simp
  ·rw[if_neg (by omega)];have h1:¬ j<m+1:=by omega
   have h2:(F m).toNat.testBit (j-m)=false:=by
    obtain⟨d,hd⟩:∃ d,j-m=d+1:=⟨j-m-1,by omega⟩;rw[hd];cases F m <;> simp[Nat.testBit_succ]
   simp[h1,h2]
theorem kW {F G:Nat→Bool}:∀ {m},(∀ j,j<m→F j=G j)→kg F m=kg G m
 | 0,_=>rfl
 | m+1,h=>by rw[kg,kg,kW (fun j hj=>h j (by omega)),h m (by omega)]
def nw (n:Nat):Nat:=if n≤6 then 1 else 2 ^ (n-6)
theorem DN (n:Nat):0<nw n:=by
 unfold nw;split
 ·omega
 ·exact Nat.pow_pos (by omega)
theorem iD {n:Nat} (h:n≤16):nw n≤1024:=by
 have:∀ n,n≤16→nw n≤1024:=by decide
 exact this n h
theorem AQ {n:Nat} (h:n≤16):2 ^ n≤65536:=by
 have:∀ n,n≤16→2 ^ n≤65536:=by decide
 exact this n h
theorem DR {n:Nat} (h:6≤n):nw n*64=2 ^ n:=by
 unfold nw;by_cases h6:n=6
 ·subst h6;decide
 ·rw[if_neg (by omega),show(64:Nat)=2 ^ 6 by decide,← Nat.pow_add,show n-6+6=n by omega]
theorem pK {n:Nat} (h:n<6):nw n=1:=by unfold nw;rw[if_pos (by omega)]
def sI (n:Nat):Nat:=if 6≤n then 18446744073709551615 else 2 ^ 2 ^ n-1
theorem Kw (n:Nat):sI n<18446744073709551616:=by
 unfold sI;split
 ·omega
 ·rename_i h
  have:∀ n,n<6→2 ^ 2 ^ n-1<18446744073709551616:=by decide
  exact this n (by omega)
theorem Hw {n j:Nat} (hj:j<64):(sI n).testBit j=decide (6≤n∨j<2 ^ n):=by
 unfold sI;split
 ·rename_i h;rw[show(18446744073709551615:Nat)=2 ^ 64-1 by decide,Nat.testBit_two_pow_sub_one];simp[hj,h]
 ·rename_i h;rw[Nat.testBit_two_pow_sub_one];simp[h]
def word (n:Nat) (F:Nat→Bool) (k:Nat):Nat:=kg (fun j=>decide (64*k+j<2 ^ n)&&F (64*k+j)) 64
theorem word_lt (n:Nat) (F:Nat→Bool) (k:Nat):word n F k<18446744073709551616:=kV _ 64
theorem mD (n:Nat) (F:Nat→Bool) (k:Nat) {j:Nat} (hj:j<64):(word n F k).testBit j=(decide (64*k+j<2 ^ n)&&F (64*k+j)):=by
 unfold word;rw[pJ];simp[hj]
def tab (n:Nat) (F:Nat→Bool):List Nat:=(List.range (nw n)).map (word n F)
theorem ze (n:Nat) (F:Nat→Bool):(tab n F).length=nw n:=by simp[tab]
theorem FH {n:Nat} {F:Nat→Bool} {k:Nat} (h:k<nw n):(tab n F)[k]?=some (word n F k):=by simp[tab,h]
theorem kX {n:Nat} {F:Nat→Bool}:∀ x∈tab n F,x<18446744073709551616:=by
 intro x hx;obtain⟨k,_,rfl⟩:=List.mem_map.1 hx;exact word_lt n F k
theorem uL {n:Nat} {F G:Nat→Bool} (h:∀ i,i<2 ^ n→F i=G i) (k:Nat):word n F k=word n G k:=by
 refine kW fun j _=>?_
 by_cases hj:64*k+j<2 ^ n
 ·rw[h _ hj]
 ·simp[hj]
theorem AR {n:Nat} {F G:Nat→Bool} {k:Nat} (h:∀ j,j<64→64*k+j<2 ^ n→F (64*k+j)=G (64*k+j)):word n F k=word n G k:=by
 unfold word;refine kW fun j hj=>?_
 by_cases hjn:64*k+j<2 ^ n
 ·rw[h j hj hjn]
 ·simp[hjn]
def vb (ws:List Nat) (i:Nat):Bool:=(ws.getD (i / 64) 0).testBit (i%64)
theorem aae {n:Nat} {F:Nat→Bool} {i:Nat} (h:i<2 ^ n):vb (tab n F) i=F i:=by
 unfold vb;have hk:i / 64<nw n:=by
  by_cases h6:6≤n
  ·have:=DR h6;omega
  ·rw[pK (by omega)]
   have:=Nat.pow_le_pow_right (show 0<2 by omega) (show n≤5 by omega)
   omega
 rw[List.getD_eq_getElem?_getD,FH hk,Option.getD_some,mD _ _ _ (Nat.mod_lt _ (by omega)),Nat.div_add_mod];simp[h]
structure lU (n:Nat) (ws:List Nat):Prop where
 n16:n≤16
 len:ws.length=nw n
 top:n<6→ws.getD 0 0<2 ^ 2 ^ n
theorem gG {n:Nat} {F:Nat→Bool} (h:n≤16):lU n (tab n F):=by
 refine⟨h,ze n F,fun h6=>?_⟩;rw[List.getD_eq_getElem?_getD,FH (DN n),Option.getD_some];refine Nat.lt_pow_two_of_testBit _ fun j hj=>?_
 by_cases AU:j<64
 ·rw[mD _ _ _ AU];simp <;> omega
 ·exact Nat.testBit_lt_two_pow (Nat.lt_of_lt_of_le (word_lt _ _ _) (Nat.pow_le_pow_right (show 0<2 by omega) (show 64≤j by omega)))
theorem Hy {n:Nat} {F:Nat→Bool} {k g:Nat} (hk:k<nw n) (hg:∀ j,j<64→64*k+j<2 ^ n→g.testBit j=F (64*k+j)):g&&& sI n=word n F k:=by
 apply Nat.eq_of_testBit_eq;intro j;rw[Nat.testBit_and];by_cases hj:j<64
 ·rw[mD _ _ _ hj,Hw hj];by_cases h6:6≤n
  ·have:=DR h6
   have h1:64*k+j<2 ^ n:=by omega
   rw[hg j hj h1];simp[h1,h6]
  ·have hk0:k=0:=by rw[pK (by omega)] at hk;omega
   subst hk0;by_cases h1:j<2 ^ n
   ·rw[hg j hj (by omega)];simp[h1]
   ·simp[h1,h6]
 ·have h1:(word n F k).testBit j=false:=Nat.testBit_lt_two_pow (Nat.lt_of_lt_of_le (word_lt _ _ _) (Nat.pow_le_pow_right (show 0<2 by omega) (show 64≤j by omega)));have h2:(sI n).testBit j=false:=Nat.testBit_lt_two_pow (Nat.lt_of_lt_of_le (Kw n) (Nat.pow_le_pow_right (show 0<2 by omega) (show 64≤j by omega)));rw[h1,h2,Bool.and_false]
def part (n:Nat) (F:Nat→Bool) (m:Nat):List Nat:=(List.range (nw n)).map fun k=>word n (fun i=>decide (i<m)&&F i) k
theorem mE (n:Nat) (F:Nat→Bool) (m:Nat):(part n F m).length=nw n:=by simp[part]
theorem Hz (n:Nat) (F:Nat→Bool):part n F (2 ^ n)=tab n F:=by
 unfold part tab;apply List.map_congr_left;intro k _;exact uL (fun i hi=>by simp[hi]) k
theorem H6 (n:Nat) (F:Nat→Bool):part n F 0=List.replicate (nw n) 0:=by
 apply List.ext_getElem?;intro k;rcases Nat.lt_or_ge k (nw n) with hk | hk
 ·rw[part];simp only[List.getElem?_map,List.getElem?_range hk,Option.map_some,List.getElem?_replicate,if_pos hk];congr 1;apply Nat.eq_of_testBit_eq;intro j;unfold word;rw[pJ];simp
 ·rw[List.getElem?_eq_none (by rw[mE];exact hk),List.getElem?_eq_none (by simpa using hk)]
theorem uN {n:Nat} {F:Nat→Bool} {m k:Nat} (h:k<nw n):(part n F m)[k]?=some (word n (fun i=>decide (i<m)&&F i) k):=by simp[part,h]
theorem H7 {n:Nat} {F:Nat→Bool} {m:Nat} (h:F m=false):part n F (m+1)=part n F m:=by
 unfold part;apply List.map_congr_left;intro k _;refine uL (fun i _=>?_) k;by_cases hi:i=m
 ·subst hi;simp[h]
 ·rw[show decide (i<m+1)=decide (i<m) by rw[decide_eq_decide];omega]
theorem AV {n:Nat} {F:Nat→Bool} {m:Nat} (hm:m<2 ^ n) (h:F m=true):word n (fun i=>decide (i<m)&&F i) (m / 64)+2 ^ (m%64)=word n (fun i=>decide (i<m+1)&&F i) (m / 64):=by
 have hA:∀ j,j<64→(word n (fun i=>decide (i<m)&&F i) (m / 64)).testBit j=(decide (64*(m / 64)+j<2 ^ n)&&(decide (64*(m / 64)+j<m)&&F (64*(m / 64)+j))):=fun j hj=>mD n _ _ hj
 have hB:∀ j,j<64→(word n (fun i=>decide (i<m+1)&&F i) (m / 64)).testBit j=(decide (64*(m / 64)+j<2 ^ n)&&(decide (64*(m / 64)+j<m+1)&&F (64*(m / 64)+j))):=fun j hj=>mD n _ _ hj
 have hAl:word n (fun i=>decide (i<m)&&F i) (m / 64)<2 ^ 64:=kV _ 64;have hBl:word n (fun i=>decide (i<m+1)&&F i) (m / 64)<2 ^ 64:=kV _ 64;have FI:=Nat.div_add_mod m 64;have hmm:=Nat.mod_lt m (show 0<64 by omega);generalize word n (fun i=>decide (i<m)&&F i) (m / 64)=a at hA hAl ⊢;generalize word n (fun i=>decide (i<m+1)&&F i) (m / 64)=b at hB hBl ⊢;generalize m%64=r at FI hmm ⊢;generalize m / 64=q at hA hB FI;have hlt:a<2 ^ r:=by
  refine Nat.lt_pow_two_of_testBit _ fun j hj=>?_
  by_cases AU:j<64
  ·rw[hA j AU]
   have:¬ 64*q+j<m:=by omega
   simp[this]
  ·exact Nat.testBit_lt_two_pow (Nat.lt_of_lt_of_le hAl (Nat.pow_le_pow_right (show 0<2 by omega) (show 64≤j by omega)))
 apply Nat.eq_of_testBit_eq;intro j;rw[show a+2 ^ r=2 ^ r*1+a by omega,Nat.testBit_two_pow_mul_add _ hlt];by_cases AU:j<64
 ·rw[hA j AU,hB j AU];rcases Nat.lt_trichotomy j r with h1 | h1 | h1
  ·rw[if_pos h1];rw[show decide (64*q+j<m)=true by simp <;> omega,show decide (64*q+j<m+1)=true by simp <;> omega]
  ·subst h1;rw[if_neg (by omega),Nat.sub_self,FI];simp[h,hm]
  ·rw[if_neg (by omega)];obtain⟨d,hd⟩:∃ d,j-r=d+1:=⟨j-r-1,by omega⟩;rw[hd,show(1:Nat).testBit (d+1)=false by simp[Nat.testBit_succ]]
   have:¬ 64*q+j<m+1:=by omega
   simp[this]
 ·have h1:b.testBit j=false:=Nat.testBit_lt_two_pow (Nat.lt_of_lt_of_le hBl (Nat.pow_le_pow_right (show 0<2 by omega) (show 64≤j by omega)));obtain⟨d,hd⟩:∃ d,j-r=d+1:=⟨j-r-1,by omega⟩;rw[h1,if_neg (by omega),hd];simp[Nat.testBit_succ]
theorem Kz {n:Nat} {F:Nat→Bool} {m:Nat} (hm:m<2 ^ n) (h:F m=true):(part n F m).set (m / 64) (word n (fun i=>decide (i<m)&&F i) (m / 64)+2 ^ (m%64))=part n F (m+1):=by
 apply List.ext_getElem?;intro k;rcases Nat.lt_or_ge k (nw n) with hk | hk
 ·rw[List.getElem?_set,mE,uN hk,uN hk];split
  ·rename_i he;subst he;rw[AV hm h];simp[hk]
  ·rename_i he;refine congrArg some (AR fun j hj _=>?_)
   have:¬ 64*k+j=m:=by omega
   rw[show decide (64*k+j<m+1)=decide (64*k+j<m) by rw[decide_eq_decide];omega]
 ·rw[List.getElem?_eq_none (by simp[mE,hk]),List.getElem?_eq_none (by rw[mE];exact hk)]
theorem qP {n m:Nat} (hm:m<2 ^ n):m / 64<nw n:=by
 by_cases h6:6≤n
 ·have:=DR h6;omega
 ·rw[pK (by omega)]
  have:=Nat.pow_le_pow_right (show 0<2 by omega) (show n≤5 by omega)
  omega
end Go.Tk
namespace Go.Tk
open Go.RowKit
section
variable {w w':World} {e:TypeId} {α:Type} {c:α→Value} {sb N C:Nat}
end
end Go.Tk
namespace Go.Tk
theorem qQ {i k:Nat}:i.testBit k=decide (i / 2 ^ k%2=1):=by rw[Nat.testBit_eq_decide_div_mod_eq]
theorem pM (c r k j:Nat) (hr:r<2 ^ k):(2 ^ k*c+r).testBit j=if j<k then r.testBit j else c.testBit (j-k):=Nat.testBit_two_pow_mul_add c hr j
theorem Oo {i k:Nat} (h:i.testBit k=true) (j:Nat):(i-2 ^ k).testBit j=(i.testBit j&&decide (j≠k)):=by
 have hp:0<2 ^ k:=Nat.pow_pos (by omega);have hr:=Nat.mod_lt i hp;have hi:=Nat.div_add_mod i (2 ^ k);rw[qQ,decide_eq_true_eq] at h;obtain⟨c,hc⟩:∃ c,i / 2 ^ k=2*c+1:=⟨i / 2 ^ k / 2,by omega⟩;rw[hc] at hi;have e1:i=2 ^ k*(2*c+1)+i%2 ^ k:=hi.symm;have e2:i-2 ^ k=2 ^ k*(2*c)+i%2 ^ k:=by
  rw[Nat.mul_add,Nat.mul_one] at hi;omega
 rw[e2,pM _ _ _ _ hr]
 conv=>rhs;rw[e1,pM _ _ _ _ hr]
 rcases Nat.lt_trichotomy j k with hj | hj | hj
 ·simp[hj,show j≠k by omega]
 ·subst hj;simp
 ·obtain⟨d,hd⟩:∃ d,j-k=d+1:=⟨j-k-1,by omega⟩;rw[if_neg (by omega),if_neg (by omega),hd,Nat.testBit_succ,Nat.testBit_succ,show 2*c / 2=c by omega,show(2*c+1) / 2=c by omega];simp[show j≠k by omega]
theorem Oq {i k:Nat} (h:i.testBit k=false) (j:Nat):(i+2 ^ k).testBit j=(i.testBit j||decide (j=k)):=by
 have hp:0<2 ^ k:=Nat.pow_pos (by omega);have hr:=Nat.mod_lt i hp;have hi:=Nat.div_add_mod i (2 ^ k);rw[qQ,decide_eq_false_iff_not] at h;obtain⟨c,hc⟩:∃ c,i / 2 ^ k=2*c:=⟨i / 2 ^ k / 2,by omega⟩;rw[hc] at hi;have e1:i=2 ^ k*(2*c)+i%2 ^ k:=hi.symm;have e2:i+2 ^ k=2 ^ k*(2*c+1)+i%2 ^ k:=by
  rw[Nat.mul_add,Nat.mul_one];omega
 rw[e2,pM _ _ _ _ hr]
 conv=>rhs;rw[e1,pM _ _ _ _ hr]
 rcases Nat.lt_trichotomy j k with hj | hj | hj
 ·simp[hj,show j≠k by omega]
 ·subst hj;simp
 ·obtain⟨d,hd⟩:∃ d,j-k=d+1:=⟨j-k-1,by omega⟩;rw[if_neg (by omega),if_neg (by omega),hd,Nat.testBit_succ,Nat.testBit_succ,show 2*c / 2=c by omega,show(2*c+1) / 2=c by omega];simp[show j≠k by omega]
def tT (i v:Nat) (b:Bool):Nat:=(if i.testBit v then i-2 ^ v else i)+(if b then 2 ^ v else 0)
theorem KC (i k j:Nat):(if i.testBit k then i-2 ^ k else i).testBit j=(i.testBit j&&decide (j≠k)):=by
 cases h:i.testBit k with
 | true=>rw[if_pos rfl];exact Oo h j
 | false =>
  rw[if_neg (by decide)];by_cases hj:j=k
  ·subst hj;simp[h]
  ·simp[hj]
theorem nD (i v:Nat) (b:Bool) (j:Nat):(tT i v b).testBit j=if j=v then b else i.testBit j:=by
 unfold tT;have h:=KC i v;generalize (if i.testBit v then i-2 ^ v else i)=c at h;cases b with
 | false =>
  rw[if_neg (by decide),Nat.add_zero,h j];by_cases hj:j=v <;> simp[hj]
 | true =>
  rw[if_pos rfl,Oq (by rw[h v];simp) j,h j];by_cases hj:j=v <;> simp[hj]
theorem uO {i v n:Nat} {b:Bool} (hi:i<2 ^ n) (hv:v<n):tT i v b<2 ^ n:=by
 refine Nat.lt_pow_two_of_testBit _ fun j hj=>?_
 rw[nD,if_neg (by omega)];exact Nat.testBit_lt_two_pow (Nat.lt_of_lt_of_le hi (Nat.pow_le_pow_right (by omega) hj))
theorem KD {i v:Nat} {b:Bool} {x:Nat} (h:∀ j,x.testBit j=if j=v then b else i.testBit j):x=tT i v b:=Nat.eq_of_testBit_eq fun j=>by rw[h,nD]
theorem FJ (k j v:Nat) (hj:j<64):(64*k+j).testBit v=if v<6 then j.testBit v else k.testBit (v-6):=pM k j 6 v hj
theorem KE {k j v:Nat} (b:Bool) (hj:j<64) (hv:6≤v):tT (64*k+j) v b=64*tT k (v-6) b+j:=by
 symm;refine KD fun t=>?_
 rw[FJ _ _ _ hj,FJ _ _ _ hj,nD];by_cases ht:t<6
 ·rw[if_pos ht,if_pos ht,if_neg (by omega)]
 ·rw[if_neg ht,if_neg ht];by_cases h2:t=v
  ·subst h2;simp
  ·rw[if_neg h2,if_neg (by omega)]
theorem Ot {k j v:Nat} (b:Bool) (hj:j<64) (hv:v<6):tT (64*k+j) v b=64*k+tT j v b:=by
 have hw:tT j v b<64:=uO (n:=6) hj hv;symm;refine KD fun t=>?_
 rw[FJ _ _ _ hw,FJ _ _ _ hj,nD];by_cases ht:t<6
 ·rw[if_pos ht,if_pos ht]
 ·rw[if_neg ht,if_neg ht,if_neg (by omega)]
theorem DT:∀ v,v<6→∀ j,j<64→(j.testBit v=true→(j+2 ^ v).testBit v=false∧2 ^ v≤j∧(j-2 ^ v).testBit v=false)∧(j.testBit v=false→(j+2 ^ v).testBit v=true∧j+2 ^ v<64∧(2 ^ v≤j→(j-2 ^ v).testBit v=true)):=by decide +kernel
def oo (v:Nat) (b:Bool) (x:Nat):Nat :=
 if b then (x&&& kg (fun j=>j.testBit v) 64)||| (x&&& kg (fun j=>j.testBit v) 64) / 2 ^ 2 ^ v
 else (x&&& (18446744073709551615-kg (fun j=>j.testBit v) 64))||| ((x&&& (18446744073709551615-kg (fun j=>j.testBit v) 64))*2 ^ 2 ^ v)%18446744073709551616
theorem H8 {x j:Nat} (hx:x<18446744073709551616) (hj:j<64):(18446744073709551615-x).testBit j = !x.testBit j:=by
 have h:=Nat.testBit_two_pow_sub_succ (x:=x) (n:=64) hx j;rw[show 18446744073709551615-x=2 ^ 64-(x+1) by omega,h];simp[hj]
theorem x9 {v j x:Nat} (b:Bool) (hv:v<6) (hj:j<64):(oo v b x).testBit j=x.testBit (tT j v b):=by
 obtain⟨h1,h2⟩:=DT v hv j hj;have hc:=kV (fun j=>j.testBit v) 64;have hcb:=pJ (fun j=>j.testBit v) 64;unfold oo tT;generalize kg (fun j=>j.testBit v) 64=c at hc hcb;generalize 2 ^ v=s at h1 h2 ⊢;cases b with
 | true =>
  rw[if_pos rfl,if_pos rfl,Nat.testBit_or,Nat.testBit_div_two_pow,Nat.testBit_and,Nat.testBit_and,hcb,hcb];cases KF:j.testBit v with
  | true =>
   obtain⟨g1,g2,g3⟩:=h1 KF;rw[if_pos rfl];simp[hj,g1,show j-s+s=j by omega]
  | false =>
   obtain⟨g1,g2,g3⟩:=h2 KF;rw[if_neg (by decide)];simp[g1,g2]
 | false =>
  have hn:∀ t,t<64→(x&&& (18446744073709551615-c)).testBit t=(x.testBit t&&!t.testBit v):=fun t ht=>by
   rw[Nat.testBit_and,H8 hc ht,hcb];simp[ht]
  simp only[Bool.false_eq_true,if_false,Nat.add_zero];rw[Nat.testBit_or,show(18446744073709551616:Nat)=2 ^ 64 by decide,Nat.testBit_mod_two_pow,Nat.mul_comm,Nat.testBit_two_pow_mul,hn j hj];cases KF:j.testBit v with
  | true =>
   obtain⟨g1,g2,g3⟩:=h1 KF;simp only[if_true];rw[hn (j-s) (by omega)];simp[hj,g2,g3]
  | false =>
   obtain⟨g1,g2,g3⟩:=h2 KF;simp only[Bool.false_eq_true,if_false];by_cases hs:s≤j
   ·rw[hn (j-s) (by omega)];simp[g3 hs]
   ·simp[hs]
def ou (v:Nat) (b:Bool) (ws:List Nat) (i:Nat):Nat:=if 6≤v then ws.getD (tT i (v-6) b) 0 else oo v b (ws.getD i 0)
end Go.Tk
namespace Go.Tk
def f1 (b:Nat):Nat:=((b / 2 ^ 1)&&& 85)+(b&&& 85)
def f2 (b:Nat):Nat:=((b / 2 ^ 2)&&& 51)+(b&&& 51)
end Go.Tk
namespace Go.Tk
open Go.RowKit
theorem Own.gH {w w':World} {e:TypeId} {m:Nat} {α:Type} {f:α→List Value} {A:Option Addr} {N C:Nat} {xs:List α} {row:Option Nat} (h:Own w e m f A N C xs) (hg:w.grownBy w' row) (hne:∀ b,row=some b→¬ rowOf A b):Own w' e m f A N C xs:=by
 refine⟨h.len,h.own.kept hg ?_⟩;cases hr:row with
 | none=>cases hv:(Value.slice A N C).ownBlock with
  | none=>exact .inl rfl
  | some b=>exact .inr (by simp)
 | some b =>
  refine .inr fun he=>?_
  exact hne b hr (af.1 he)
end Go.Tk
namespace Go.Tk
open Go.RowKit Go.Sort
inductive PF where
 | last (e:Nat)
 | q (is:List Nat) (t:PF)
 | br (i:Nat) (t:PF) (m:PF)
 | stop
def jE:PF→Nat
 | .last _=>1
 | .q is t=>is.length+jE t
 | .br _ t _=>1+jE t
 | .stop=>0
def fH:PF→List Nat
 | .br i _ m=>i::fH m
 | _=>[]
section
variable {P:Program} {ops:Array Oper} {md:Region.Mode} {C:World→Prop} {Q:Exit→Act→World→Prop}
def yc (P:Program) (ops:Array Oper) (C:World→Prop) (Q:Exit→Act→World→Prop):PF→Act→World→Prop
 | .last e,a,w=>wpList P ops Q (pick ops.toList [e]) a w
 | .q is t,a,w=>wpQuiet P ops C (fun a'=>yc P ops C Q t a' w) (pick ops.toList is) a
 | .br i t .stop,a,w=>cB P ops C (ops.toList.getD i default) a w (yc P ops C Q t)
 | .br i t m,a,w=>cB P ops C (ops.toList.getD i default) a w (yc P ops C Q t)∧yc P ops C Q m a w
 | .stop,_,_=>True
def Dl (md:Region.Mode) (ops:Array Oper) (n:Nat):Bool→PF→Array Bool→Bool
 | b,.last e,listed=>!b&&decide (Region.ready md ops listed=[e])&&decide (e=n)&&decide (Region.ready md ops (listed.setIfInBounds e true)=[])
 | b,.q is t,listed=>!b&&Kr md ops n (Dl md ops n false t) is listed
 | b,.br i t m,listed=>(b||decide (Region.ready md ops listed=i::fH m))&&decide (i<n)&&decide (fH m=[]∨jE m=1+jE t)&&Dl md ops n false t (listed.setIfInBounds i true)&&Dl md ops n true m listed
 | b,.stop,_=>b
theorem RI {i:Nat} {t m:PF} {a:Act} {w:World} (h:yc P ops C Q (.br i t m) a w):cB P ops C (ops.toList.getD i default) a w (yc P ops C Q t)∧yc P ops C Q m a w:=by
 cases m with
 | stop=>exact⟨by simpa only[yc] using h,by simp only[yc]⟩
 | last e=>simpa only[yc] using h
 | q is t=>simpa only[yc] using h
 | br j u m=>simpa only[yc] using h
theorem H9 {n:Nat} (hsel:Region.noSelect ops=true) (hs:Region.sinkB md ops n=true) (hc:Region.chainB md ops n=true) (hn1:n+1=ops.size):∀ (t:PF),
  (∀ (listed:Array Bool) (a:Act) (w:World),Dl md ops n false t listed=true→HeadInv md ops n listed→C w→yc P ops C Q t a w→fB P md ops C Q n (jE t) listed a w)∧
  (∀ (g:Nat) (listed:Array Bool) (a:Act) (w:World),Dl md ops n true t listed=true→(fH t=[]∨jE t=g+1)→HeadInv md ops n listed→(∀ k∈fH t,k∈Region.ready md ops listed)→C w→yc P ops C Q t a w→
   ∀ k∈fH t,opC P ops C Q n k (fun a w=>fB P md ops C Q n g (listed.setIfInBounds k true) a w) a w):=by
 intro t
 induction t with
 | last e =>
  refine⟨fun listed a w hB inv hC hw=>?_,fun g listed a w hB=>by simp[Dl] at hB⟩;simp only[Dl,Bool.not_false,Bool.true_and] at hB;simp only[yc] at hw;simp only[Bool.and_eq_true,decide_eq_true_eq] at hB;have hel:e<ops.size:=by omega
  have ho:ops[e]?=some ops[e]:=Array.getElem?_eq_getElem hel;refine⟨fun h0=>(by rw[hB.1.1] at h0;cases h0),fun i hi=>?_⟩;rw[hB.1.1] at hi;obtain rfl:i=e:=by simpa using hi
  have hp:pick ops.toList [i]=[ops[i]]:=by simp[pick,ho]
  rw[hp] at hw;simp only[wpList] at hw;unfold opC;rw[if_neg (by omega)];unfold wpOp;simp only[ho];split at hw
  ·rename_i hwt;rw[if_pos hwt];rcases hw with hw | hw
   ·exact .inl (Oper.jC (fun a' w' hq=>⟨hB.2,hq⟩) (fun _ _ _ h=>h) hw)
   ·exact .inr hw
  ·rename_i hwt;rw[if_neg hwt];exact⟨hB.2,hw⟩
 | q is t ih =>
  refine⟨fun listed a w hB inv hC hw=>?_,fun g listed a w hB=>by simp[Dl] at hB⟩;simp only[Dl,Bool.not_false,Bool.true_and] at hB;simp only[yc] at hw;exact jr hsel hs hc hn1 hC (g:=jE t) (fun listed a hB inv hw=>ih.1 listed a w hB inv hC hw) is listed a hB inv hw
 | stop=>exact⟨fun listed a w hB=>by simp[Dl] at hB,fun g listed a w hB hl inv hr hC hw k hk=>by simp[fH] at hk⟩
 | br i t m iht ihm =>
  have key:∀ (g:Nat) (listed:Array Bool) (a:Act) (w:World),i<n→jE t=g→(fH m=[]∨jE m=g+1)→Dl md ops n false t (listed.setIfInBounds i true)=true→Dl md ops n true m listed=true→HeadInv md ops n listed→i∈Region.ready md ops listed→(∀ k∈fH m,k∈Region.ready md ops listed)→C w→yc P ops C Q (.br i t m) a w→
    ∀ k∈i::fH m,opC P ops C Q n k (fun a w=>fB P md ops C Q n g (listed.setIfInBounds k true) a w) a w:=by
   intro g listed a w hi hg hl RF hBm inv UL hrm hC hw k hk;obtain⟨h1,h2⟩:=RI hw;rcases List.mem_cons.1 hk with rfl | hk
   ·refine tO hi (by omega) hC h1 (fun a w hC hw=>?_);rw[← hg];exact iht.1 _ a w RF (inv.set UL hi) hC hw
   ·exact ihm.2 g listed a w hBm hl inv hrm hC h2 k hk
  refine⟨fun listed a w hB inv hC hw=>?_,fun g listed a w hB hl inv hr hC hw=>?_⟩
  ·simp only[Dl,Bool.false_or,Bool.and_eq_true,decide_eq_true_eq] at hB;obtain⟨⟨⟨⟨hr,hi⟩,hl⟩,RF⟩,hBm⟩:=hB;rw[jE,Nat.add_comm 1];refine⟨fun h0=>(by rw[hr] at h0;cases h0),fun k hk=>?_⟩;refine key (jE t) listed a w hi rfl (hl.imp id (fun h=>by omega)) RF hBm inv (by rw[hr];exact List.mem_cons_self) (fun k hk=>by rw[hr];exact List.mem_cons_of_mem _ hk) hC hw k (by rw[← hr];exact hk)
  ·simp only[Dl,Bool.true_or,Bool.true_and,Bool.and_eq_true,decide_eq_true_eq] at hB;obtain⟨⟨⟨hi,hl'⟩,RF⟩,hBm⟩:=hB;have hg:jE t=g:=by
    rcases hl with h | h
    ·simp[fH] at h
    ·simp only[jE] at h;omega
   exact key g listed a w hi hg (hl'.imp id (fun h=>by omega)) RF hBm inv (hr _ (by simp[fH])) (fun k hk=>hr k (by simp[fH,hk])) hC hw
theorem aaf {id:Nat} {a:Act} {w:World} {l:List Oper} (C:World→Prop) (t:PF) (hm:P.follows .mixedOrders=true)
  (hB:(Region.noSelect l.toArray&&Region.sinkB .any l.toArray (l.length-1)&&Region.chainB .any l.toArray (l.length-1)&&decide (0<l.length)&&decide (jE t=l.length)&&
   Dl .any l.toArray (l.length-1) false t (Array.replicate l.length false))=true)
  (hC:C w.drew) (h:yc P l.toArray C Q t a w.drew):(Code.region id l.toArray true).wp P Q a w:=by
 simp only[Bool.and_eq_true,decide_eq_true_eq] at hB;obtain⟨⟨⟨⟨⟨hsel,hs⟩,hc⟩,hl0⟩,hlen⟩,RD⟩:=hB;have inv0:HeadInv .any l.toArray (l.length-1) (Array.replicate l.length false) :=
  ⟨by simp,fun j oj _ hl=>(by rw[getD_replicate_false] at hl;cases hl),fun t _ ht=>getD_in (by simpa using ht) (getD_replicate_false _ _)⟩
 have H:=(H9 (P:=P) (md:=.any) (ops:=l.toArray) (C:=C) (Q:=Q) hsel hs hc (by simp <;> omega) t).1 _ a w.drew RD inv0 hC h;refine wp_region_any hm ?_
 have:=fe _ _ _ _ H
 rw[hlen] at this;simpa using this
end
theorem VD {P:Program} {Q:Exit→Act→World→Prop} {id:Nat} {a:Act} {w:World} {l:List Oper} (S:Nat→Prop) (t:PF) (hm:P.follows .mixedOrders=true)
  (hB:(Region.noSelect l.toArray&&Region.sinkB .any l.toArray (l.length-1)&&Region.chainB .any l.toArray (l.length-1)&&decide (0<l.length)&&decide (jE t=l.length)&&
   Dl .any l.toArray (l.length-1) false t (Array.replicate l.length false))=true)
  (h:yc P l.toArray (fun w'=>∃ p:aZ S w,w'=FD p) Q t a w.drew):(Code.region id l.toArray true).wp P Q a w :=
 aaf (fun w'=>∃ p:aZ S w,w'=FD p) t hm hB (aZ.bu (ah.drew (ah.refl S w))) h
end Go.Tk
namespace Go.Tk
open Go.RowKit Go.Sort
section
variable {P:Program} {ops:Array Oper} {md:Region.Mode} {C:World→Prop} {Q:Exit→Act→World→Prop}
theorem uP {n i:Nat} {oi:Oper} {v:Value} (hi:ops[i]?=some oi) (hsel:∀ (j:Nat) (o:Oper) cs b,ops[j]?=some o→o.op≠.select cs b) (hn1:n=ops.size) (hin:i<n) :
  ∀ (f:Nat) (listed:Array Bool) (a:Act) (w:World),
   (∀ j oj,ops[j]?=some oj→j≠i→listed.getD j true=false→(∀ e∈oj.after,Region.binds md e=true→e.on≠i)→oi.apart ops oj=true)→
   i∈Region.ready md ops listed→C w→YC P ops C oi v a→
   fB P md ops C Q n f (listed.setIfInBounds i true) (a.put oi.dst v) w→fB P md ops C Q n (f+1) listed a w:=by
 intro f
 induction f with
 | zero =>
  intro listed a w _ hr hC hy H;refine⟨fun h=>(by rw[h] at hr;cases hr),fun j hj=>?_⟩;by_cases hji:j=i
  ·subst hji;exact nC hi hin hC hy H
  ·have:=ready_mono hj hji
   rw[H.1] at this;cases this
 | succ f ih =>
  intro listed a w hfree hr hC hy H;have hun:=(mem_ready.1 hr).1;refine⟨fun h=>(by rw[h] at hr;cases hr),fun j hj=>?_⟩;by_cases hji:j=i
  ·subst hji;exact nC hi hin hC hy H
  ·have h1:=H.2 j (ready_mono hj hji);obtain⟨hjun,oj,hoj,hall⟩:=mem_ready.1 hj;have hjn:j<n:=by
    rw[hn1];exact(Array.getElem?_eq_some_iff.1 hoj).1
   have hnot:∀ e∈oj.after,Region.binds md e=true→e.on≠i:=fun e he hb heq=>by
    have h1:=hall e he hb;rw[heq,getD_both hun] at h1;cases h1
   have h2:=FC hoj hjn (hfree j oj hoj hji hjun hnot) (fun cs b=>hsel i oi cs b hi) (fun cs b=>hsel j oj cs b hoj) hC hy h1;have hfree':∀ k ok,ops[k]?=some ok→k≠i→(listed.setIfInBounds j true).getD k true=false→
     (∀ e∈ok.after,Region.binds md e=true→e.on≠i)→oi.apart ops ok=true:=fun k ok hk hki hun hno=>by
    refine hfree k ok hk hki ?_ hno;by_cases hjk:j=k
    ·subst hjk;exact hjun
    ·rw[getD_set_ne true hjk] at hun;exact hun
   refine AL (fun a' w' h3=>ih (listed.setIfInBounds j true) a' w' hfree' (ready_mono hr (Ne.symm hji)) h3.1 h3.2.1 ?_) h2;rw[Array.setIfInBounds_comm _ _ hji];exact h3.2.2
def DU (P:Program) (ops:Array Oper) (C:World→Prop) (Q:Exit→Act→World→Prop) (t:List Nat):List (List Nat×Nat)→Act→World→Prop
 | [],a,w=>wpQuiet P ops C (fun a'=>Q .normal a' w) (pick ops.toList t) a
 | (is,e)::r,a,w=>wpQuiet P ops C (fun a'=>cB P ops C (ops.toList.getD e default) a' w (DU P ops C Q t r)) (pick ops.toList is) a
def UM (md:Region.Mode) (ops:Array Oper) (n:Nat) (t:List Nat):List (List Nat×Nat)→Array Bool→Bool
 | [],listed=>Kr md ops n (fun listed=>decide (Region.ready md ops listed=[])) t listed
 | (is,e)::r,listed=>Kr md ops n (fun listed=>decide (Region.ready md ops listed=[e])&&decide (e<n)&&UM md ops n t r (listed.setIfInBounds e true)) is listed
def AX (t:List Nat):List (List Nat×Nat)→Nat
 | []=>t.length+0
 | (is,_)::r=>is.length+(1+AX t r)
theorem nE {n g:Nat} {B:Array Bool→Bool} {w:World} {L:Act→Prop} (hsel:Region.noSelect ops=true) (hn1:n=ops.size) (hC:C w)
  (hL:∀ listed a,B listed=true→L a→fB P md ops C Q n g listed a w) :
  ∀ (is:List Nat) (listed:Array Bool) (a:Act),Kr md ops n B is listed=true→wpQuiet P ops C L (pick ops.toList is) a→fB P md ops C Q n (is.length+g) listed a w
 | [],listed,a,hB,h=>by
  rw[List.length_nil,Nat.zero_add];exact hL listed a hB h
 | i::r,listed,a,hB,h=>by
  simp only[Kr,Bool.and_eq_true,decide_eq_true_eq] at hB;obtain⟨⟨⟨⟨hin,hcalm⟩,hr⟩,hf⟩,hB'⟩:=hB;have hel:i<ops.size:=by omega
  have ho:ops[i]?=some ops[i]:=Array.getElem?_eq_getElem hel;simp only[DL,ho] at hcalm;have hr':i∈Region.ready md ops listed:=by simpa using hr
  have hp:pick ops.toList (i::r)=ops[i]::pick ops.toList r:=by simp[pick,ho]
  rw[hp] at h;rw[List.length_cons,show r.length+1+g=(r.length+g)+1 by omega];simp only[wpQuiet] at h;split at h
  ·rename_i hw;obtain⟨v,hv,hK⟩:=h;refine uP ho (Region.noSelect_spec hsel) hn1 hin _ listed a w (Region.free_spec ho hf) hr' hC (v:=v) ?_ (nE hsel hn1 hC hL r _ _ hB' hK);refine .inl ⟨hw,fun w hw'=>?_⟩;have h3:=hv w hw';unfold Oper.quietAt at h3;have hne:=fun w' f args=>oL (P:=P) (ev:=a.eval) (w:=w) (w':=w') (f:=f) (args:=args) hcalm
   generalize (execOp a.eval ops[i]).run P w=res at h3 hne ⊢;cases res with
   | ok nx w' =>
    cases nx <;> simp only[Oper.quietUpon] at h3
    case value u=>obtain⟨rfl,rfl⟩:=h3;exact .inl rfl
    case skip=>obtain⟨rfl,rfl⟩:=h3;exact .inr ⟨rfl,rfl⟩
    case enter f args=>exact absurd rfl (hne w' f args)
   | halt x w'=>simp only[Oper.quietUpon] at h3
  ·rename_i hw;exact uP ho (Region.noSelect_spec hsel) hn1 hin _ listed a w (Region.free_spec ho hf) hr' hC (v:=undef) (.inr ⟨by simpa using hw,rfl⟩) (nE hsel hn1 hC hL r _ _ hB' h)
theorem qR {n:Nat} {t:List Nat} (hsel:Region.noSelect ops=true) (hn1:n=ops.size) :
  ∀ (ph:List (List Nat×Nat)) (listed:Array Bool) (a:Act) (w:World),UM md ops n t ph listed=true→C w→DU P ops C Q t ph a w→fB P md ops C Q n (AX t ph) listed a w
 | [],listed,a,w,h,hC,hw=>by
  simp only[UM] at h;simp only[DU] at hw;refine nE hsel hn1 hC (g:=0) (fun listed a hB hw=>?_) t listed a h hw;exact⟨of_decide_eq_true hB,hw⟩
 | (is,e)::r,listed,a,w,h,hC,hw=>by
  simp only[UM] at h;simp only[DU] at hw;refine nE hsel hn1 hC (g:=1+AX t r) (fun listed a hB hw=>?_) is listed a h hw;simp only[Bool.and_eq_true,decide_eq_true_eq] at hB;have hel:e<ops.size:=by omega
  have ho:ops[e]?=some ops[e]:=Array.getElem?_eq_getElem hel;rw[Nat.add_comm 1];refine⟨fun h0=>(by rw[hB.1.1] at h0;cases h0),fun i hi=>?_⟩;rw[hB.1.1] at hi;obtain rfl:i=e:=by simpa using hi
  have hg:ops.toList.getD i default=ops[i]:=by simp[ho]
  rw[hg] at hw;unfold cB at hw;unfold opC;rw[if_pos hB.1.2];simp only[ho];split at hw
  ·rename_i hwt;rw[if_pos hwt];exact Oper.jC (fun a' w' hq=>⟨hq.1,qR hsel hn1 r _ _ _ hB.2 hq.1 hq.2⟩) (fun _ _ _ h=>h) hw
  ·rename_i hwt;rw[if_neg hwt];exact qR hsel hn1 r _ _ _ hB.2 hC hw
theorem VE {id:Nat} {a:Act} {w:World} {l:List Oper} (C:World→Prop) (ph:List (List Nat×Nat)) (t:List Nat) (hm:P.follows .mixedOrders=true)
  (hB:(Region.noSelect l.toArray&&decide (AX t ph=l.length)&&UM .any l.toArray l.length t ph (Array.replicate l.length false))=true)
  (hC:C w.drew) (h:DU P l.toArray C Q t ph a w.drew):(Code.region id l.toArray true).wp P Q a w:=by
 simp only[Bool.and_eq_true,decide_eq_true_eq] at hB;obtain⟨⟨hsel,hlen⟩,RD⟩:=hB;have H:=qR (P:=P) (md:=.any) (ops:=l.toArray) (C:=C) (Q:=Q) hsel (by simp) ph _ a w.drew RD hC h;refine wp_region_any hm ?_
 have:=fe _ _ _ _ H
 rw[hlen] at this;simpa using this
end
theorem RJ {P:Program} {Q:Exit→Act→World→Prop} {id:Nat} {a:Act} {w:World} {l:List Oper} (S:Nat→Prop) (ph:List (List Nat×Nat)) (t:List Nat) (hm:P.follows .mixedOrders=true)
  (hB:(Region.noSelect l.toArray&&decide (AX t ph=l.length)&&UM .any l.toArray l.length t ph (Array.replicate l.length false))=true)
  (h:DU P l.toArray (fun w'=>∃ p:aZ S w,w'=FD p) Q t ph a w.drew):(Code.region id l.toArray true).wp P Q a w :=
 VE (fun w'=>∃ p:aZ S w,w'=FD p) ph t hm hB (aZ.bu (ah.drew (ah.refl S w))) h
section
variable {P:Program} {ops:Array Oper} {C:World→Prop} {Q:Exit→Act→World→Prop}
end
end Go.Tk
namespace Go.Tk
open Go.RowKit Go.Sort
section
variable {P:Program} {ops:Array Oper} {C:World→Prop} {Q:Exit→Act→World→Prop}
theorem aA {L:Act→Prop} {a:Act}:wpQuiet P ops C L [] a=L a:=by rw[wpQuiet]
theorem aN {is:List Nat} {e:Nat} {x:List Nat×Nat} {r:List (List Nat×Nat)} {a:Act} {w:World}:cK P ops C Q ((is,e)::x::r) a w=wpQuiet P ops C (fun a'=>cB P ops C (ops.toList.getD e default) a' w (cK P ops C Q (x::r))) (pick ops.toList is) a:=by rw[cK]
theorem aT {is:List Nat} {e:Nat} {a:Act} {w:World}:cK P ops C Q [(is,e)] a w=wpQuiet P ops C (fun a'=>wpList P ops Q (pick ops.toList [e]) a' w) (pick ops.toList is) a:=by rw[cK]
theorem bV {o:Oper} {a:Act} {w:World} {K:Act→World→Prop} (hg:Region.wanted o (yielded ops a.tmps)=false):cB P ops C o a w K=K (a.put o.dst undef) w:=by
 unfold cB;rw[if_neg (by rw[hg] <;> decide)]
end
end Go.Tk
namespace Go.Tk
open Go.RowKit Go.Sort
section
variable {P:Program} {ops:Array Oper} {md:Region.Mode} {Q:Exit→Act→World→Prop}
def dB (a:Act) (s:Nat):Value:=a.tmps.getD s undef
def dK (ops:Array Oper) (i:Nat):Nat:=((ops[i]?).bind (·.dst)).getD 0
def VF (ops:Array Oper) (m:Nat):Bool:=(List.range ops.size).all fun i=>match ops[i]? with
 | some o=>o.guard.isNone&&(match o.dst with | some d=>decide (d<m) | none=>false)&&o.after.all (fun e=>decide (e.on<i))&&(List.range i).all (fun j=>dK ops j != dK ops i)
 | none=>false
structure AI (ops:Array Oper) (w:World) (a0:Act) (V:Nat→Value→World→Prop) (listed:Array Bool) (a:Act) (w':World):Prop where
 same:Same w w'
 size:a.tmps.size=a0.tmps.size
 defers:a.defers=a0.defers
 old:∀ s,(∀ i,i<ops.size→dK ops i≠s)→dB a s=dB a0 s
 new:∀ i,i<ops.size→listed.getD i false=true→V i (dB a (dK ops i)) w'
 ls:listed.size=ops.size
theorem DV (a:Act) (d:Nat) (v:Value) (h:d<a.tmps.size):dB (a.put (some d) v) d=v:=by
 simp[dB,Act.put,h]
theorem AY (a:Act) (d s:Nat) (v:Value) (h:d≠s):dB (a.put (some d) v) s=dB a s:=by
 simp[dB,Act.put,Array.getElem?_setIfInBounds_ne h]
theorem AZ {w:World} {a0:Act} {V:Nat→Value→World→Prop} (hB:VF ops a0.tmps.size=true)
  (hst:∀ i v w1 w2,V i v w1→Same w1 w2→V i v w2)
  (hop:∀ (i:Nat) (o:Oper),ops[i]?=some o→∀ (a:Act) (w':World),Same w w'→a.tmps.size=a0.tmps.size→a.defers=a0.defers→(∀ s,(∀ j,j<ops.size→dK ops j≠s)→dB a s=dB a0 s)→
   (∀ e∈o.after,Region.binds md e=true→V e.on (dB a (dK ops e.on)) w')→o.wp P a w' (fun a2 w2=>∃ v,a2=a.put o.dst v∧Same w' w2∧V i v w2) (fun _ _ _=>False))
  (hq:∀ (a:Act) (w':World),Same w w'→a.tmps.size=a0.tmps.size→a.defers=a0.defers→(∀ s,(∀ j,j<ops.size→dK ops j≠s)→dB a s=dB a0 s)→(∀ i,i<ops.size→V i (dB a (dK ops i)) w')→Q .normal a w') :
  ∀ (f:Nat) (listed:Array Bool) (a:Act) (w':World),AI ops w a0 V listed a w'→((List.range ops.size).filter fun i=>!listed.getD i true).length≤f→wpAny P md ops Q f listed a w':=by
 have hB':∀ (i:Nat) (o:Oper),ops[i]?=some o→o.guard=none∧(∃ d,o.dst=some d∧d<a0.tmps.size∧dK ops i=d)∧(∀ e∈o.after,e.on<i)∧∀ j,j<i→dK ops j≠dK ops i:=by
  intro i o ho;have hi:=(Array.getElem?_eq_some_iff.1 ho).1;have h:=(List.all_eq_true.1 hB) i (List.mem_range.2 hi);rw[ho] at h;simp only[Bool.and_eq_true,List.all_eq_true,List.mem_range,Option.isNone_iff_eq_none,bne_iff_ne,ne_eq] at h;obtain⟨⟨⟨h1,h2⟩,h3⟩,h4⟩:=h;refine⟨h1,?_,?_,h4⟩
  ·cases hd:o.dst with
   | none=>rw[hd] at h2;simp at h2
   | some d =>
    rw[hd] at h2;refine⟨d,rfl,by simpa using h2,?_⟩;unfold dK;rw[ho];simp[hd]
  ·intro e he
   have:=Array.all_eq_true_iff_forall_mem.1 h3 e he
   simpa using this
 have hne:∀ i j,i<ops.size→j<ops.size→i≠j→dK ops i≠dK ops j:=by
  intro i j hi hj hij;rcases Nat.lt_or_gt_of_ne hij with h | h
  ·exact(hB' j _ (Array.getElem?_eq_getElem hj)).2.2.2 i h
  ·exact fun he=>(hB' i _ (Array.getElem?_eq_getElem hi)).2.2.2 j h he.symm
 have hall:∀ (listed:Array Bool),listed.size=ops.size→Region.ready md ops listed=[]→∀ i,i<ops.size→listed.getD i false=true:=by
  intro listed hls hr i
  induction i using Nat.strongRecOn with
  | ind i ih =>
   intro hi;have ho:=Array.getElem?_eq_getElem hi;cases hl:listed.getD i false with
   | true=>rfl
   | false =>
    have:i∈Region.ready md ops listed:=by
     rw[mem_ready];refine⟨?_,_,ho,fun e he _=>ih e.on ((hB' i _ ho).2.2.1 e he) (Nat.lt_trans ((hB' i _ ho).2.2.1 e he) hi)⟩;have h1:i<listed.size:=by omega
     simp[Array.getD,h1] at hl ⊢;exact hl
    rw[hr] at this;cases this
 have hfin:∀ (listed:Array Bool) (a:Act) (w':World),AI ops w a0 V listed a w'→Region.ready md ops listed=[]→Q .normal a w':=fun listed a w' inv hr =>
  hq a w' inv.same inv.size inv.defers inv.old (fun i hi=>inv.new i hi (hall listed inv.ls hr i hi))
 intro f
 induction f with
 | zero =>
  intro listed a w' inv hf;have hr:Region.ready md ops listed=[]:=by
   apply List.eq_nil_iff_forall_not_mem.2;intro j hj;obtain⟨h1,o,ho,_⟩:=mem_ready.1 hj;have hjn:=(Array.getElem?_eq_some_iff.1 ho).1;have hm:j∈(List.range ops.size).filter fun i=>!listed.getD i true:=List.mem_filter.2 ⟨List.mem_range.2 hjn,by rw[h1];rfl⟩
   have:0<((List.range ops.size).filter fun i=>!listed.getD i true).length:=List.length_pos_of_mem hm
   omega
  exact⟨hr,hfin listed a w' inv hr⟩
 | succ f ih =>
  intro listed a w' inv hf;refine⟨hfin listed a w' inv,fun i hi=>?_⟩;obtain⟨h1,o,ho,VG⟩:=mem_ready.1 hi;have hin:=(Array.getElem?_eq_some_iff.1 ho).1;obtain⟨hg,⟨d,hd,FI,hdo⟩,hafter,_⟩:=hB' i o ho;have hstep:=hop i o ho a w' inv.same inv.size inv.defers inv.old (fun e he hb=>inv.new e.on (Nat.lt_trans (hafter e he) hin) (VG e he hb));unfold wpOp;simp only[ho];rw[if_pos (by simp[Region.wanted,hg])];refine .inl (Oper.jC (fun a2 w2 h=>?_) (fun _ _ _ h=>h.elim) hstep);obtain⟨v,rfl,hs2,hv⟩:=h;rw[hd];have hda:d<a.tmps.size:=by rw[inv.size];exact FI
  refine ih _ _ _ ⟨inv.same.trans hs2 (fun _ _ h=>h),by simp[Act.put,inv.size],by simp[Act.put,inv.defers],?_,?_,by simp[inv.ls]⟩ ?_
  ·intro s hs;rw[AY a d s v (by rw[← hdo];exact hs i hin)];exact inv.old s hs
  ·intro j hj hl;by_cases hji:j=i
   ·subst hji;rw[hdo,DV a d v hda];exact hv
   ·rw[AY a d _ v (by rw[← hdo];exact hne i j hin hj (fun h=>hji h.symm))];refine hst j _ _ _ (inv.new j hj ?_) hs2;simp only[Array.getD_eq_getD_getElem?] at hl ⊢
    rwa [Array.getElem?_setIfInBounds_ne (fun h=>hji h.symm)] at hl
  ·have hsub:((List.range ops.size).filter fun j=>!(listed.setIfInBounds i true).getD j true)=(((List.range ops.size).filter fun j=>!listed.getD j true).filter fun j=>decide (j≠i)):=by
    rw[List.filter_filter];apply List.filter_congr;intro j _;by_cases hji:j=i
    ·subst hji;have hil:j<listed.size:=by rw[inv.ls];exact hin
     simp[Array.getD_eq_getD_getElem?,hil]
    ·simp only[Array.getD_eq_getD_getElem?];rw[Array.getElem?_setIfInBounds_ne (fun h=>hji h.symm)];simp[hji]
   rw[hsub];have hm:i∈(List.range ops.size).filter fun j=>!listed.getD j true:=List.mem_filter.2 ⟨List.mem_range.2 hin,by rw[h1];rfl⟩
   have hlt:(((List.range ops.size).filter fun j=>!listed.getD j true).filter fun j=>decide (j≠i)).length<((List.range ops.size).filter fun j=>!listed.getD j true).length:=List.length_filter_lt_length_iff_exists.2 ⟨i,hm,by simp⟩;omega
theorem KG {id:Nat} {w:World} {a0:Act} {l:List Oper} {V:Nat→Value→World→Prop} (hm:P.follows .mixedOrders=true) (hB:VF l.toArray a0.tmps.size=true)
  (hst:∀ i v w1 w2,V i v w1→Same w1 w2→V i v w2)
  (hop:∀ (i:Nat) (o:Oper),l.toArray[i]?=some o→∀ (a:Act) (w':World),Same w w'→a.tmps.size=a0.tmps.size→a.defers=a0.defers→(∀ s,(∀ j,j<l.toArray.size→dK l.toArray j≠s)→dB a s=dB a0 s)→
   (∀ e∈o.after,Region.binds .any e=true→V e.on (dB a (dK l.toArray e.on)) w')→o.wp P a w' (fun a2 w2=>∃ v,a2=a.put o.dst v∧Same w' w2∧V i v w2) (fun _ _ _=>False))
  (hq:∀ (a:Act) (w':World),Same w w'→a.tmps.size=a0.tmps.size→a.defers=a0.defers→(∀ s,(∀ j,j<l.toArray.size→dK l.toArray j≠s)→dB a s=dB a0 s)→(∀ i,i<l.toArray.size→V i (dB a (dK l.toArray i)) w')→Q .normal a w') :
  (Code.region id l.toArray true).wp P Q a0 w:=by
 refine wp_region_any hm ?_;refine AZ (md:=.any) (V:=V) (w:=w) (a0:=a0) hB hst hop hq _ _ _ _ ⟨(ah.refl _ _).drew,rfl,rfl,fun _ _=>rfl,fun i hi hl=>?_,by simp⟩ ?_
 ·simp[Array.getD_eq_getD_getElem?] at hl;rw[Array.getElem?_replicate] at hl;split at hl <;> simp at hl
 ·refine Nat.le_trans (List.length_filter_le _ _) ?_;simp
end
end Go.Tk
