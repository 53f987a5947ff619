/- Contracts and plain laws, put together in one file. No condition. -/
import Derived.WalkKit
import Derived.WalkSpells
import Derived.WalkLawsBesides
import Derived.ProofKit
import Derived.OpenShut
import Derived.ShutString
import Derived.ChangeOld
import Derived.BigQuiet
import Derived.Deep.QuietTactic
import Derived.Deep.Slices
import Derived.Lib.Hide
import Derived.Handy
import Derived.Lib.QuietBelow
import Derived.StillTail
import Derived.Deep.AppendLies
import Derived.Deep.DeepCutAuto
import Derived.Shelf.SlBodiesZ
import Derived.Shelf.SlGeneric
import Derived.Shelf.SlBodiesM
import Derived.Sort.WalkD1
import Derived.Shelf.SlIterI.Collect
import Derived.Shelf.SlIter.Collect
import Derived.RangeFuncGives
import Derived.Maps.AppendAt
import Derived.Shelf.Abstract
import Derived.Shelf.SlIter.Sorted
import Derived.RangeFuncBound
import Derived.Sort.OwnSorted
import Derived.Sort.Walk0
import Derived.OwnWalkIn
import Derived.TacticsInMore
import Derived.RegionIn
import Derived.LoopNIn
import Derived.LoopIn
import Derived.Sort.CutIn
import Derived.Sort.QuietIn
import Derived.Sort.AtCallIn
import Derived.Shelf.RegionOpen
import Derived.Shelf.AbstractIn
import Derived.Sort.WalkA
import Derived.Sort.BigQuietIn

set_option maxRecDepth 100000
set_option maxHeartbeats 32000000
namespace Go.Tk
open Go.RowKit Go.ChangeShapes Go.WideShapes Go.Deep
inductive jR where
 | int (k:IntKind)
 | bool
 | str
 | slice (bytes:Nat) (ks:List jR)
mutual
def iR (w:World):jR→Value→Prop
 | .int k,v=>∃ n,v=.int k n∧(Lit.int k n).wf=true
 | .bool,v=>∃ b,v=.bool b
 | .str,v=>∃ s,v=.string s∧s.size≤maxLen
 | .slice bytes ks,v=>∃ a len cap,v=.slice a len cap∧len≤cap∧cap≤maxLen∧cap*bytes≤reachBytes∧(a=none→len=0∧cap=0)∧
   ∀ ad,a=some ad→∀ i,i<len→cz w ks (fun j=>w.cell? (ad.add (i*ks.length+j)))
def cz (w:World):List jR→(Nat→Option Value)→Prop
 | [],_=>True
 | k::ks,f=>(∃ v,f 0=some v∧iR w k v)∧cz w ks (fun j=>f (j+1))
end
def l8 (L:TypeId→Option (List jR)) (C:TypeId→Nat):List Field→Nat→Option (List jR)
 | [],_=>some []
 | f::fs,off =>
  if f.offset=off then
   match L f.type with
   | none=>none
   | some ks=>if ks.length=C f.type then (match l8 L C fs (off+ks.length) with | none=>none | some r=>some (ks++r)) else none
  else none
def leaves (P:Program):Nat→TypeId→Option (List jR)
 | 0,_=>none
 | n+1,t =>
  match P.underlying t with
  | some .bool=>some [.bool]
  | some (.int k)=>some [.int k]
  | some .string=>some [.str]
  | some (.slice e)=>match leaves P n e with
   | none=>none
   | some ks=>if ks.length=P.cellsOf e∧0<ks.length then some [.slice (P.bytesOf e) ks] else none
  | some (.struct fs)=>match l8 (leaves P n) P.cellsOf fs.toList 0 with
   | none=>none
   | some ks=>if ks.length=P.cellsOf t then some ks else none
  | _=>none
theorem cz.congr {w:World}:∀ {ks:List jR} {f g:Nat→Option Value},(∀ j,j<ks.length→f j=g j)→cz w ks f→cz w ks g
 | [],_,_,_,_=>by simp[cz]
 | k::ks,f,g,h,hf=>by
  simp only[cz] at hf ⊢;refine⟨?_,cz.congr (fun j hj=>h (j+1) (by simp <;> omega)) hf.2⟩;rw[← h 0 (by simp)];exact hf.1
theorem cz.append {w:World}:∀ {ks ls:List jR} {f:Nat→Option Value},cz w ks f→cz w ls (fun j=>f (j+ks.length))→cz w (ks++ls) f
 | [],ls,f,_,h=>by simpa using h
 | k::ks,ls,f,hk,h=>by
  simp only[cz,List.cons_append] at hk ⊢;exact⟨hk.1,cz.append hk.2 (cz.congr (fun j _=>by simp only[List.length_cons];congr 1) h)⟩
section
variable {H:Type} {enc:TypeId×Value→H} {P:Program} {w:World} {base:Nat} {spare:Nat→Bool} {held:Bool}
theorem uD:∀ {fs:List Field} {xs:List (DataW H×List MemPlace)} {i:Nat} {f:Field} {x:DataW H×List MemPlace},fs[i]?=some f→xs[i]?=some x→
  (DataW.weightsEach P (fs.map (·.type)) (xs.map (·.1))).all (·≤reachBytes)=true→(x.1.weights P f.type).all (·≤reachBytes)=true:=by
 intro fs xs i f x hf hx h;rw[List.all_eq_true] at h ⊢;intro n hn;exact h n (DataW.weights_mem_each (j:=i) (by simp[hf]) (by simp[hx]) n hn)
theorem oh:∀ {e:TypeId} {ds:List (DataW H)} {d:DataW H},d∈ds→(DataW.weightsAll P e ds).all (·≤reachBytes)=true→(d.weights P e).all (·≤reachBytes)=true
 | e,d0::ds,d,hd,h=>by
  simp only[DataW.weightsAll,List.all_append,Bool.and_eq_true] at h;rcases List.mem_cons.1 hd with rfl | hd
  ·exact h.1
  ·exact oh hd h.2
theorem sD (L:TypeId→Option (List jR)) (n:Nat)
  (hL:∀ t ks cs x,L t=some ks→DataW.trod enc P w base spare held n t cs=some x→(x.1.weights P t).all (·≤reachBytes)=true→cs.length=ks.length∧cz w ks (fun j=>cs[j]?)) :
  ∀ (fs:List Field) (off:Nat) (ks:List jR) (cs:List Value),l8 L P.cellsOf fs off=some ks→
   (∀ (i:Nat) (f:Field),fs[i]?=some f→∃ x,DataW.trod enc P w base spare held n f.type ((cs.drop f.offset).take (P.cellsOf f.type))=some x∧(x.1.weights P f.type).all (·≤reachBytes)=true)→
   cz w ks (fun j=>cs[off+j]?)∧(ks=[]∨off+ks.length≤cs.length)
 | [],off,ks,cs,h,_=>by
  simp only[l8,Option.some.injEq] at h;subst h;simp[cz]
 | f::fs,off,ks,cs,h,hf=>by
  unfold l8 at h;split at h
  case isFalse=>cases h
  rename_i hoff;split at h
  ·cases h
  rename_i QB h0;split at h
  case isFalse=>cases h
  rename_i hlen;split at h
  ·cases h
  rename_i r hr;simp only[Option.some.injEq] at h;subst h;obtain⟨x,hx,Ay⟩:=hf 0 f rfl;obtain⟨hl,hrow⟩:=hL _ _ _ _ h0 hx Ay;rw[hoff,← hlen] at hl hrow;have Vw:QB=[]∨off+QB.length≤cs.length:=by
   simp only[List.length_take,List.length_drop] at hl;rcases Nat.eq_zero_or_pos QB.length with h | h
   ·exact .inl (List.eq_nil_of_length_eq_zero h)
   ·right;omega
  obtain⟨hrest,hrl⟩:=sD L n hL fs (off+QB.length) r cs hr (fun i g hg=>hf (i+1) g (by simpa using hg));refine⟨cz.append (cz.congr (fun j hj=>?_) hrow) (cz.congr (fun j _=>?_) hrest),?_⟩
  ·rw[List.getElem?_take_of_lt hj,List.getElem?_drop]
  ·congr 1;omega
  ·rcases hrl with rfl | h
   ·rcases Vw with rfl | h
    ·left;rfl
    ·right;simpa using h
   ·right;simp <;> omega
theorem y8 (hsp:∀ b,spare b=true):∀ (n:Nat) (t:TypeId) (ks:List jR),leaves P n t=some ks→∀ (fuel:Nat) (cs:List Value) (x:DataW H×List MemPlace),
  DataW.trod enc P w base spare held fuel t cs=some x→(x.1.weights P t).all (·≤reachBytes)=true→cs.length=ks.length∧cz w ks (fun j=>cs[j]?)
 | 0,_,_,h,_,_,_,_,_=>by simp[leaves] at h
 | n+1,t,ks,h,fuel,cs,x,ht,hw=>by
  unfold leaves at h;split at h
  ·rename_i hu;simp only[Option.some.injEq] at h;subst h;cases fuel with
   | zero=>simp[DataW.trod] at ht
   | succ fuel =>
    unfold DataW.trod at ht;rw[hu] at ht;split at ht <;> simp_all [cz,iR]
  ·rename_i k hu;simp only[Option.some.injEq] at h;subst h;cases fuel with
   | zero=>simp[DataW.trod] at ht
   | succ fuel =>
    unfold DataW.trod at ht;rw[hu] at ht;split at ht <;> simp_all [cz,iR]
  ·rename_i hu;simp only[Option.some.injEq] at h;subst h;cases fuel with
   | zero=>simp[DataW.trod] at ht
   | succ fuel =>
    unfold DataW.trod at ht;rw[hu] at ht;split at ht <;> simp_all [cz,iR]
  ·rename_i e hu;split at h
   ·cases h
   rename_i QB h0;split at h
   case isFalse=>cases h
   rename_i hlen;simp only[Option.some.injEq] at h;subst h;rcases open_slice hu ht with⟨rfl,rfl⟩ | ⟨a,len,cap,m,k,D,Pl,rfl,hb,hl,hm,hmm,rfl,hel⟩
   ·refine⟨rfl,?_⟩;simp only[cz,iR,List.getElem?_cons_zero,Option.some.injEq,exists_eq_left',and_true];exact⟨none,0,0,rfl,Nat.le_refl _,Nat.zero_le _,by simp,fun _=>⟨rfl,rfl⟩,fun ad h=>by cases h⟩
   ·refine⟨rfl,?_⟩;simp only[cz,iR,List.getElem?_cons_zero,Option.some.injEq,exists_eq_left',and_true];rw[hsp,if_pos rfl] at hmm;subst hmm;simp only[DataW.weights,hu,List.all_cons,List.all_append,Bool.and_eq_true,List.length_map,List.length_range,decide_eq_true_eq] at hw;refine⟨_,_,_,rfl,hl,hm,?_,(by intro h;cases h),?_⟩
    ·have:=hw.1
     rw[show len+(m-len)=m from by omega] at this;exact this
    ·intro ad had i hi;injection had with had
     subst had;obtain⟨cs',hc,htr⟩:=hel i (by omega);obtain⟨_,hcl,hat⟩:=World.cells?_some hc;have hd:(D i).weights P e |>.all (·≤reachBytes):=oh (List.mem_map.2 ⟨i,by simpa using hi,rfl⟩) hw.2.1
     obtain⟨hl',hrow⟩:=y8 hsp n e QB h0 k cs' _ htr hd;refine cz.congr (fun j hj=>?_) hrow;rw[← hat j (by omega),Go.Deep.add_add,hlen.1]
  ·rename_i fs hu;split at h
   ·cases h
   rename_i QB h0;split at h
   case isFalse=>cases h
   rename_i hlen;simp only[Option.some.injEq] at h;subst h;obtain⟨xs,k,rfl,rfl,hcl,hxl,hf⟩:=DataW.trod_struct hu ht;simp only[DataW.weights,hu] at hw
   obtain⟨h1,h2⟩:=sD (leaves P n) k (fun t ks cs x h ht hw=>y8 hsp n t ks h k cs x ht hw) fs.toList 0 QB cs h0 (fun i f hi=>by
    have hi':fs[i]?=some f:=by simpa using hi
    have hlt:i<fs.size:=(Array.getElem?_eq_some_iff.1 hi').1;have hx:xs[i]?=some (xs[i]'(by omega)):=List.getElem?_eq_getElem (by omega)
    exact⟨_,(hf i f hi').trans hx,uD hi hx hw⟩)
   exact⟨by rw[hcl,hlen],cz.congr (fun j _=>by rw[Nat.zero_add]) h1⟩
  ·cases h
end
def isAgg (P:Program) (t:TypeId):Bool:=match P.underlying t with | some (.struct _)=>true | _=>false
def uE (w:World) (agg:Bool) (ks:List jR) (v:Value):Prop :=
 match agg with
 | true=>∃ cs:Array Value,v=.agg cs∧cs.size=ks.length∧cz w ks (fun j=>cs[j]?)
 | false=>match ks with | [k]=>iR w k v | _=>False
def y9 (w:World):List (Bool×List jR)→List Value→Prop
 | [],vs=>vs=[]
 | (b,ks)::r,vs=>∃ v vs',vs=v::vs'∧uE w b ks v∧y9 w r vs'
def shapes (P:Program) (n:Nat):List TypeId→Option (List (Bool×List jR))
 | []=>some []
 | t::ts=>match leaves P n t,shapes P n ts with
  | some ks,some r=>some ((isAgg P t,ks)::r)
  | _,_=>none
section
variable {H:Type} {enc:TypeId×Value→H} {P:Program} {w:World} {base:Nat} {spare:Nat→Bool} {held:Bool}
theorem Rx (hsp:∀ b,spare b=true) {n:Nat} {t:TypeId} {ks:List jR} {v:Value} {d:DataW H} {ps:List MemPlace} {b0:Nat} (hl:leaves P n t=some ks) (hv:Value.okWide P w .any b0 t v)
  (h:DataW.Trod enc P w base spare held t v d ps) (hw:(d.weights P t).all (·≤reachBytes)=true):uE w (isAgg P t) ks v:=by
 obtain⟨fuel,hf⟩:=h;obtain⟨h1,h2⟩:=y8 hsp n t ks hl fuel _ _ hf hw;cases n with
 | zero=>simp[leaves] at hl
 | succ n =>
  unfold leaves at hl;unfold isAgg;split at hl
  ·rename_i hu;obtain⟨b,rfl⟩:=okWide_bool hu hv
   simp_all [uE,Value.cells]
   subst hl;simpa [cz] using h2
  ·rename_i k hu;obtain⟨b,rfl⟩:=okWide_int hu hv
   simp_all [uE,Value.cells]
   subst hl;simpa [cz] using h2
  ·rename_i hu;obtain⟨b,rfl⟩:=okWide_string hu hv
   simp_all [uE,Value.cells]
   subst hl;simpa [cz] using h2
  ·rename_i e hu;obtain⟨a,l,c,rfl⟩:=okWide_slice hu hv;split at hl
   ·cases hl
   split at hl
   case isFalse=>cases hl
   simp only[Option.some.injEq] at hl;subst hl;simp only[hu,uE];simpa [cz,Value.cells] using h2
  ·rename_i fs hu;obtain⟨cs,rfl,hsz⟩:=okWide_struct hu hv;simp only[hu,uE];exact⟨cs,rfl,by simpa [Value.cells] using h1,by simpa [Value.cells] using h2⟩
  ·cases hl
theorem Fz (hsp:∀ b,spare b=true) (n:Nat):∀ (ts:List TypeId) (vs:List Value) (ds:List (DataW H)) (ps:List MemPlace) (sh:List (Bool×List jR)) (b0:Nat),shapes P n ts=some sh→
  DataW.TrodAll enc P w base spare held ts vs ds ps→(DataW.weightsEach P ts ds).all (·≤reachBytes)=true→
  (∀ (j:Nat) t v,ts[j]?=some t→vs[j]?=some v→Value.okWide P w .any b0 t v)→y9 w sh vs
 | [],vs,ds,ps,sh,b0,h,ht,_,_=>by
  simp only[shapes,Option.some.injEq] at h;subst h;cases vs <;> cases ds <;> simp_all [DataW.TrodAll,y9]
 | t::ts,vs,ds,ps,sh,b0,h,ht,hw,hv=>by
  obtain⟨v,vs',d,ds',p,q,rfl,rfl,rfl,h0,hr⟩:=trodAll_cons ht;unfold shapes at h;split at h
  case h_2=>cases h
  rename_i ks r hk xg;simp only[Option.some.injEq] at h;subst h;simp only[DataW.weightsEach,List.all_append,Bool.and_eq_true] at hw;exact⟨v,vs',rfl,Rx hsp hk (hv 0 t v rfl rfl) h0 hw.1,Fz hsp n ts vs' ds' q r b0 xg hr hw.2 (fun j t v ht hv'=>hv (j+1) t v (by simpa using ht) (by simpa using hv'))⟩
theorem om (hl:laidOutB P=true) {W W':World} (Vx:Below W.heap.size W W'):∀ (ts:List TypeId) (vs:List Value) (ds:List (DataW H)) (ps:List MemPlace),
  ts.all (fun t=>P.readableRec t&&decide (t<P.types.size))=true→DataW.TrodAll enc P W 0 (fun _=>true) true ts vs ds ps→
  DataW.TrodAll enc P W' 0 (fun b=>decide (b<W.heap.size)) true ts vs ds ps
 | [],vs,ds,ps,_,h=>by cases vs <;> cases ds <;> simp_all [DataW.TrodAll]
 | t::ts,vs,ds,ps,hr,h=>by
  obtain⟨v,vs',d,ds',p,q,rfl,rfl,rfl,h0,hrest⟩:=trodAll_cons h;simp only[List.all_cons,Bool.and_eq_true,decide_eq_true_eq] at hr;have lt0:∀ x∈p,x.block<W.heap.size:=by obtain⟨m,hm⟩:=h0;exact DataW.trod_lt m _ _ _ hm
  exact trodAll_cons_mk (Below.trod hl hr.1.1 hr.1.2 h0 Vx lt0) (om hl Vx ts vs' ds' q hr.2 hrest)
end
theorem lifted {C:Checked} {os:Os} (started:os.Started) {H:Type} (enc:TypeId×Value→H) {f:FuncId} {fn:Func} {s:ChangeSpec} {sh:List (Bool×List jR)} {tb:TypeId} {n:Nat}
  (own:ownKnob C.prog.godebug=none) (hlo:laidOutB C.prog=true) (noInit:C.prog.inits.idxOf? f=none) (hfn:C.prog.funcs[f]?=some fn)
  (hr:fn.params.toList.all (fun t=>C.prog.readableRec t&&decide (t<C.prog.types.size))=true) (hres:fn.resultTypes=#[tb]) (htb:C.prog.underlying tb=some .bool)
  (hvars:s.vars=[]) (hspec:∀ ds:List (DataW H),ds.length=fn.params.toList.length→s.fn H ds={ results:=[.lit (.bool true)],args:=ds }) (hsh:shapes C.prog n fn.params.toList=some sh)
  (witness:∃ (w:World) (tape:Tape) (i:Input),w.os=os∧(w.forCall tape i).Shaped C.prog∧i.vars=[]∧Input.okWide C.prog (w.forCall tape i) .any w.heap.size f i∧
   s.pre6 enc C.prog fn [] false (w.forCall tape i).memory i.args∧({}:Assume).holds C.prog (lone (Frame.enter C.prog f i.args .normal) [] (w.forCall tape i)))
  (walk:∀ (W:World) (args:List Value),y9 W sh args→Calls C.prog f args.toArray W fun e W'=>e=.returned (.bool true)∧Below W.heap.size W W') :
  ReturnsInHanded {} C os f .any (s.pre6 enc C.prog fn [] false) (s.post enc C.prog fn false true false false):=by
 refine returnsInHanded_of_change_sized (C:=C) own started noInit hfn witness ?_;intro W base args ds gs before hval hW _ hwt _;have hW':=hW;obtain⟨p,q,hA,hV,rfl,hfz,hnd⟩:=hW;rw[hvars] at hV;obtain⟨rfl,rfl⟩:=trodVars_none hV;simp only[List.append_nil] at hW' hwt;have aaa:(DataW.weightsEach C.prog fn.params.toList ds).all (·≤reachBytes)=true:=by
  rw[List.all_eq_true] at hwt ⊢;intro n hn;have key:∀ (ts us:List TypeId) (ds:List (DataW H)) (n:Nat),n∈DataW.weightsEach C.prog ts ds→n∈DataW.weightsEach C.prog (ts++us) ds:=by
   intro ts
   induction ts with
   | nil=>intro us ds n hn;simp[DataW.weightsEach] at hn
   | cons t ts ih =>
    intro us ds n hn;cases ds with
    | nil=>simp[DataW.weightsEach] at hn
    | cons d ds =>
     simp only[DataW.weightsEach,List.cons_append,List.mem_append] at hn ⊢;rcases hn with hn | hn
     ·exact .inl hn
     ·exact .inr (ih us ds n hn)
  exact hwt n (key _ _ _ _ hn)
 have hok:=Fz (fun _=>rfl) n _ _ _ _ _ base hsh hA aaa (fun j t v ht hv=>hval j t v (by simpa using ht) (by simpa using hv));have hlen:ds.length=fn.params.toList.length:=by
  have key:∀ (ts:List TypeId) (vs:List Value) (ds:List (DataW H)) (ps:List MemPlace),DataW.TrodAll enc C.prog W 0 (fun _=>true) true ts vs ds ps→ds.length=ts.length:=by
   intro ts
   induction ts with
   | nil=>intro vs ds ps h;cases vs <;> cases ds <;> simp_all [DataW.TrodAll]
   | cons t ts ih =>
    intro vs ds ps h;obtain⟨v,vs',d,ds',p,q,rfl,rfl,rfl,h0,hrest⟩:=trodAll_cons h;simp[ih _ _ _ hrest]
  exact key _ _ _ _ hA
 have hw:=walk W args.toList hok;rw[Array.toArray_toList] at hw;refine hw.mono fun e W' ⟨he,Vx⟩=>⟨_,he,?_⟩
 have hr':s.fn H (ds++[])={ results:=[.lit (.bool true)],args:=ds }:=by rw[List.append_nil];exact hspec ds hlen
 refine⟨ds,[],p++[],[],p,[],by simpa using hW',?_,?_,?_,Vx.frame _,fun h=>by cases h⟩
 ·rw[hr',hres];exact trodAll_mk1 (shut_bool htb _)
 ·rw[hr'];exact om hlo Vx _ _ _ _ hr hA
 ·rw[hr',hvars];rfl
def jb (w:World):List jR→List Value→Prop
 | [],vs=>vs=[]
 | k::ks,vs=>∃ v vs',vs=v::vs'∧iR w k v∧jb w ks vs'
theorem cells_of_row {w:World}:∀ (ks:List jR) (f:Nat→Option Value),cz w ks f→∃ l,jb w ks l∧∀ j,j<ks.length→f j=l[j]?
 | [],_,_=>⟨[],rfl,fun j hj=>by simp at hj⟩
 | k::ks,f,h=>by
  simp only[cz] at h;obtain⟨⟨v,hv,hk⟩,hr⟩:=h;obtain⟨l,hl,hj⟩:=cells_of_row ks _ hr;refine⟨v::l,⟨v,l,rfl,hk,hl⟩,fun j hjl=>?_⟩;cases j with
  | zero=>simpa using hv
  | succ j=>simpa using hj j (by simpa using hjl)
theorem jb.length {w:World}:∀ {ks:List jR} {l:List Value},jb w ks l→l.length=ks.length
 | [],l,h=>by simp only[jb] at h;simp[h]
 | k::ks,l,h=>by
  obtain⟨v,vs,rfl,_,h2⟩:=h;simp[jb.length h2]
theorem Kl {β:Type} {l:List β} {i:Nat} {x:β} (h:l[i]?=some x):i<l.length:=by
 rcases Nat.lt_or_ge i l.length with h' | h'
 ·exact h'
 ·rw[List.getElem?_eq_none h'] at h;cases h
theorem Az {α:Type} (n:Nat) (Q:Nat→α→Prop) (h:∀ i,i<n→∃ x,Q i x):∃ xs:List α,xs.length=n∧∀ i x,xs[i]?=some x→Q i x:=by
 induction n with
 | zero=>exact⟨[],rfl,fun i x hx=>by simp at hx⟩
 | succ n ih =>
  obtain⟨xs,hl,hx⟩:=ih (fun i hi=>h i (by omega));obtain⟨y,hy⟩:=h n (by omega);refine⟨xs++[y],by simp[hl],fun i x hi=>?_⟩;have hlt:=Kl hi;rw[List.getElem?_append] at hi;split at hi
  ·exact hx i x hi
  ·rename_i hge;simp at hlt;have hin:i=n:=by omega
   subst hin;simp[hl] at hi;subst hi;exact hy
structure Sl (w:World) (m:Nat) {α:Type} (f:α→List Value) (A:Option Addr) (n:Nat) (xs:List α):Prop where
 len:n=xs.length
 get:∀ (i:Nat) (x:α),xs[i]?=some x→∃ b off,A=some ⟨b,off,none⟩∧b<w.heap.size∧∀ j,j<m→w.cell? ⟨b,off+i*m+j,none⟩=(f x)[j]?
theorem Km {w:World} {bytes:Nat} {ks:List jR} {v:Value} {α:Type} (f:α→List Value) (hk:0<ks.length) (hf:∀ l,jb w ks l→∃ x,l=f x) (h:iR w (.slice bytes ks) v) :
  ∃ A n c xs,v=.slice A n c∧n≤c∧c≤maxLen∧c*bytes≤reachBytes∧Sl w ks.length f A n xs:=by
 simp only[iR] at h;obtain⟨a,len,cap,rfl,hl,hm,hb,hnone,hr⟩:=h
 obtain⟨xs,hxl,hx⟩:=Az (α:=α) len (fun i x=>∃ ad,a=some ad∧∀ j,j<ks.length→w.cell? (ad.add (i*ks.length+j))=(f x)[j]?∧(f x).length=ks.length) (fun i hi=>by
  cases a with
  | none=>have:=(hnone rfl).1;omega
  | some ad =>
   obtain⟨l,hl,hj⟩:=cells_of_row _ _ (hr ad rfl i hi);obtain⟨x,rfl⟩:=hf l hl
   exact⟨x,ad,rfl,fun j hjl=>⟨hj j hjl,hl.length⟩⟩)
 refine⟨a,len,cap,xs,rfl,hl,hm,hb,hxl.symm,fun i x hi=>?_⟩;have abV:0<len:=by have:=Kl hi;omega
 obtain⟨ad,rfl,hc⟩:=hx i x hi;have hx0:∃ x0,xs[0]?=some x0:=⟨_,List.getElem?_eq_getElem (by omega)⟩;obtain⟨x0,hx0⟩:=hx0;obtain⟨ad',hae,hc0⟩:=hx 0 x0 hx0;injection hae with hae
 subst hae;have h0:=hc0 0 hk;simp only[Nat.zero_mul,Nat.add_zero] at h0;have h01:∃ u,w.cell? ad=some u:=by
  have e:ad.add 0=ad:=by simp[Addr.add]
  rw[e] at h0;exact⟨_,h0.1.trans (List.getElem?_eq_getElem (by rw[h0.2];exact hk))⟩
 obtain⟨u,hu⟩:=h01;have hblk:=World.block_lt_of_cell? w _ hu;obtain⟨b,off,spot⟩:=ad;cases spot with
 | some s =>
  exfalso;unfold World.cell? at hu;split at hu <;> simp at hu
 | none =>
  refine⟨b,off,rfl,hblk,fun j hj=>?_⟩;rw[← (hc j hj).1]
  have:(⟨b,off,none⟩:Addr).add (i*ks.length+j)=⟨b,off+i*ks.length+j,none⟩:=by
   unfold Addr.add;split
   ·rename_i h;rw[show off+i*ks.length+j=off by omega]
   ·simp[Nat.add_assoc]
  rw[this]
theorem Sl.later {w w':World} {m:Nat} {α:Type} {f:α→List Value} {A:Option Addr} {n:Nat} {xs:List α} (h:Sl w m f A n xs) (hb:Below w.heap.size w w'):Sl w' m f A n xs :=
 ⟨h.len,fun i x hi=>by
  obtain⟨b,off,h1,h2,h3⟩:=h.get i x hi
  exact⟨b,off,h1,Nat.lt_of_lt_of_le h2 hb.size,fun j hj=>by rw[hb.cell (p:=⟨b,off+i*m+j,none⟩) h2];exact h3 j hj⟩⟩
end Go.Tk
namespace Go.Tk
open Go.RowKit Go.ChangeShapes Go.WideShapes Go.Deep
def ax (w:World) (g:Nat) (t:TypeId) (cs:Array Value):Prop:=w.heap[g]?=some (.cells cs t (0,0))
structure ah (S:Nat→Prop) (w w':World):Prop where
 os:w'.os=w.os
 tape:w'.tape=w.tape
 output:w'.output=w.output
 size:w.heap.size≤w'.heap.size
 block:∀ i,i<w.heap.size→¬ S i→w'.heap[i]?=w.heap[i]?
section
variable {w w' w'':World} {S S':Nat→Prop} {g:Nat} {t:TypeId} {cs:Array Value}
theorem size_setCell (w:World) (a:Addr) (v:Value):(w.setCell a v).heap.size=w.heap.size:=by simp[World.setCell]
theorem ax.lt (h:ax w g t cs):g<w.heap.size:=by
 rcases Nat.lt_or_ge g w.heap.size with hlt | hge
 ·exact hlt
 ·unfold ax at h;rw[Array.getElem?_eq_none hge] at h;cases h
theorem ax.cell (h:ax w g t cs) (i:Nat):w.cell? ⟨g,i,none⟩=cs[i]?:=by
 unfold ax at h;simp[World.cell?,h]
theorem ax.free (h:ax w g t cs) (i:Nat):w.frozen? ⟨g,i,none⟩=false:=by
 unfold ax at h;simp[World.frozen?,h]
theorem ax.new (w:World) (t:TypeId) (cs:Array Value):ax (w.alloc (.cells cs t)) w.heap.size t cs:=heap_alloc_new w _
theorem ax.drew (h:ax w g t cs):ax w.drew g t cs:=h
theorem ax.alloc (h:ax w g t cs) (o:Obj):ax (w.alloc o) g t cs:=(Below.heap_alloc w o g h.lt).trans h
theorem ax.set (h:ax w g t cs) (i:Nat) (u:Value):ax (w.setCell ⟨g,i,none⟩ u) g t (cs.setIfInBounds i u):=by
 unfold ax at h ⊢;simp[World.setCell,Array.getElem?_modify,h]
theorem ax.far (h:ax w g t cs) {p:Addr} (hp:g≠p.block) (u:Value):ax (w.setCell p u) g t cs:=(Below.heap_setCell w p u g hp).trans h
theorem ax.ag (h:ax w g t cs) (hf:ah S w w') (hs:¬ S g):ax w' g t cs:=(hf.block g h.lt hs).trans h
theorem ax.grown {row:Option Nat} (h:ax w g t cs) (hb:w.grownBy w' row) (hg:some g≠row):ax w' g t cs:=(hb.block g h.lt hg).trans h
theorem ax.inj {cs':Array Value} {t':TypeId} (h:ax w g t cs) (h':ax w g t' cs'):t=t'∧cs=cs':=by
 unfold ax at h h';rw[h] at h';simp only[Option.some.injEq,Obj.cells.injEq] at h';exact⟨h'.2.1,h'.1⟩
theorem ah.refl (S:Nat→Prop) (w:World):ah S w w:=⟨rfl,rfl,rfl,Nat.le_refl _,fun _ _ _=>rfl⟩
theorem ah.trans (h:ah S w w') (k:ah S' w' w'') (hs:∀ i,i<w.heap.size→S' i→S i):ah S w w'' :=
 ⟨k.os.trans h.os,k.tape.trans h.tape,k.output.trans h.output,Nat.le_trans h.size k.size,fun i hi hn =>
  (k.block i (Nat.lt_of_lt_of_le hi h.size) (fun hc=>hn (hs i hi hc))).trans (h.block i hi hn)⟩
theorem ah.mono (h:ah S w w') (hs:∀ i,i<w.heap.size→S i→S' i):ah S' w w':=⟨h.os,h.tape,h.output,h.size,fun i hi hn=>h.block i hi (fun hc=>hn (hs i hi hc))⟩
theorem ah.drew (h:ah S w w'):ah S w w'.drew:=⟨h.os,h.tape,h.output,h.size,h.block⟩
theorem ah.alloc (h:ah S w w') (o:Obj):ah S w (w'.alloc o) :=
 ⟨h.os,h.tape,h.output,Nat.le_trans h.size (by simp),fun i hi hn=>(Below.heap_alloc w' o i (Nat.lt_of_lt_of_le hi h.size)).trans (h.block i hi hn)⟩
theorem ah.setCell (h:ah S w w') {p:Addr} (hp:S p.block∨w.heap.size≤p.block) (u:Value):ah S w (w'.setCell p u) :=
 ⟨h.os,h.tape,h.output,by rw[size_setCell];exact h.size,fun i hi hn=>(Below.heap_setCell w' p u i (by
  rintro rfl;rcases hp with hp | hp
  ·exact hn hp
  ·omega)).trans (h.block i hi hn)⟩
theorem ah.set {S:Nat→Prop} {w w':World} (h:ah S w w') {g:Nat} (i:Nat) (u:Value) (hg:S g):ah S w (w'.setCell ⟨g,i,none⟩ u):=h.setCell (p:=⟨g,i,none⟩) (.inl hg) u
theorem ah.aj {S:Nat→Prop} {w w':World} (h:ah S w w') {g:Nat} (i:Nat) (u:Value) (hg:w.heap.size≤g):ah S w (w'.setCell ⟨g,i,none⟩ u):=h.setCell (p:=⟨g,i,none⟩) (.inr hg) u
theorem ah.grown {row:Option Nat} (h:ah S w w') (k:w'.grownBy w'' row) (hr:∀ g,row=some g→S g∨w.heap.size≤g):ah S w w'' :=
 ⟨k.os.trans h.os,k.tape.trans h.tape,k.output.trans h.output,Nat.le_trans h.size k.size,fun i hi hn =>
  (k.block i (Nat.lt_of_lt_of_le hi h.size) (fun hc=>by rcases hr i hc.symm with h | h;exact hn h;omega)).trans (h.block i hi hn)⟩
theorem ah.of_below (h:Below w.heap.size w w') (S:Nat→Prop):ah S w w':=⟨h.os,h.tape,h.output,h.size,fun i hi _=>h.block i hi⟩
theorem ah.AA {B:Nat} (h:ah S w w') (hB:B≤w.heap.size) (hs:∀ i,i<B→¬ S i):Below B w w' :=
 ⟨h.os,h.tape,h.output,h.size,fun i hi=>h.block i (by omega) (hs i hi)⟩
theorem ah.cell (h:ah S w w') {p:Addr} (hp:p.block<w.heap.size) (hs:¬ S p.block):w'.cell? p=w.cell? p:=World.cell?_of_block (h.block _ hp hs)
end
abbrev Same (w w':World):Prop:=ah (fun _=>False) w w'
theorem bg {α β:Type} (f:α→List β) (m:Nat) (hf:∀ x,(f x).length=m):∀ (l:List α),(l.flatMap f).length=l.length*m
 | []=>by simp
 | x::l=>by simp[bg f m hf l,hf,Nat.add_mul,Nat.add_comm]
theorem flat_get {α β:Type} (f:α→List β) (m:Nat) (hf:∀ x,(f x).length=m):∀ (l:List α) (i j:Nat),j<m→(l.flatMap f)[i*m+j]?=(l[i]?).bind fun x=>(f x)[j]?
 | [],i,j,_=>by simp
 | x::l,0,j,hj=>by simp[List.getElem?_append,hf,hj]
 | x::l,i+1,j,hj=>by
  rw[List.flatMap_cons,List.getElem?_append_right (by rw[hf,Nat.add_mul];omega),hf];rw[show(i+1)*m+j-m=i*m+j from by rw[Nat.add_mul];omega];simpa using flat_get f m hf l i j hj
def setRow (cs:Array Value) (o:Nat):List Value→Array Value
 | []=>cs
 | v::vs=>setRow (cs.setIfInBounds o v) (o+1) vs
theorem Dz (vs:List Value):∀ (cs:Array Value) (o k:Nat),o+vs.length≤cs.size→(setRow cs o vs)[k]?=if o≤k∧k<o+vs.length then vs[k-o]? else cs[k]?:=by
 induction vs with
 | nil=>intro cs o k _;simp[setRow] <;> omega
 | cons v vs ih =>
  intro cs o k h;simp only[List.length_cons] at h;rw[setRow,ih _ _ _ (by simp <;> omega)];by_cases h1:o+1≤k∧k<o+1+vs.length
  ·rw[if_pos h1,if_pos (by simp <;> omega),show k-o=(k-(o+1))+1 by omega];simp
  ·rw[if_neg h1];by_cases h2:k=o
   ·subst h2;rw[if_pos (by simp)];simp[show k<cs.size by omega]
   ·rw[if_neg (by simp <;> omega),Array.getElem?_setIfInBounds_ne (Ne.symm h2)]
theorem AB {α β:Type} (f:α→List β) (m:Nat) (hf:∀ x,(f x).length=m) (l:List α) (i:Nat) (x:α) (hi:i<l.length) (hm:0<m) (ys:List β)
  (h:∀ k,ys[k]?=if k / m=i then (f x)[k%m]? else (l.flatMap f)[k]?):ys=(l.set i x).flatMap f:=by
 apply List.ext_getElem?;intro k;rw[h k];have hk:k=k / m*m+k%m:=by rw[Nat.mul_comm];exact(Nat.div_add_mod k m).symm
 have hmod:k%m<m:=Nat.mod_lt _ hm;have e1:=flat_get f m hf (l.set i x) (k / m) (k%m) hmod;have e2:=flat_get f m hf l (k / m) (k%m) hmod;rw[← hk] at e1 e2;rw[e1,e2,List.getElem?_set];by_cases hki:k / m=i
 ·subst hki;simp[hi]
 ·rw[if_neg hki,if_neg (fun h=>hki h.symm)]
theorem DC {α:Type} (f:α→List Value) (m:Nat) (hf:∀ x,(f x).length=m) (hm:0<m) (l:List α) (i:Nat) (x:α) (hi:i<l.length) :
  setRow (l.flatMap f).toArray (i*m) (f x)=((l.set i x).flatMap f).toArray:=by
 have hb:i*m+m≤l.length*m:=by
  have:=Nat.mul_le_mul_right m (show i+1≤l.length by omega)
  rw[Nat.add_mul] at this;omega
 apply Array.toList_inj.1;rw[List.toList_toArray];refine AB f m hf l i x hi hm _ (fun k=>?_);rw[Array.getElem?_toList,Dz _ _ _ _ (by simp only[List.size_toArray];rw[bg f m hf,hf];exact hb),hf];have hk:k=m*(k / m)+k%m:=(Nat.div_add_mod k m).symm;have hmod:k%m<m:=Nat.mod_lt _ hm;by_cases h:k / m=i
 ·rw[if_pos h,if_pos (by subst h;rw[Nat.mul_comm (k / m) m];omega)];subst h;rw[Nat.mul_comm (k / m) m];congr 1;omega
 ·rw[if_neg h,if_neg]
  ·simp
  ·intro h2;apply h
   have:k / m=i:=by
    rw[Nat.div_eq_iff hm];constructor
    ·omega
    ·omega
   exact this
structure Own (w:World) (e:TypeId) (m:Nat) {α:Type} (f:α→List Value) (A:Option Addr) (N C:Nat) (xs:List α):Prop where
 len:N=xs.length
 own:w.ownsRow 0 e m (.slice A N C) N (xs.flatMap f)
section
variable {w w':World} {e:TypeId} {m:Nat} {α:Type} {f:α→List Value} {A:Option Addr} {N C:Nat} {xs:List α}
theorem Own.nil (w:World) (e:TypeId) (m:Nat) (f:α→List Value):Own w e m f none 0 0 []:=⟨rfl,by simpa using World.ownsRow_nil w 0 e m⟩
theorem aY {β:Type} {l:List β} {i:Nat} {x:β} (h:l[i]?=some x):i<l.length:=by
 rcases Nat.lt_or_ge i l.length with h' | h'
 ·exact h'
 ·rw[List.getElem?_eq_none h'] at h;cases h
theorem Own.form (h:Own w e m f A N C xs) (hN:0<N):∃ sb,A=some ⟨sb,0,none⟩∧sb<w.heap.size:=by
 rcases h.own.2 with⟨_,h'⟩ | ⟨g,cap,cur,h1,_,h2,_⟩
 ·omega
 ·injection h1 with hA _ _
  exact⟨g,hA,(Array.getElem?_eq_some_iff.1 h2).1⟩
theorem Own.get (hf:∀ x,(f x).length=m) (h:Own w e m f A N C xs) {i:Nat} {x:α} (hi:xs[i]?=some x):∃ sb,A=some ⟨sb,0,none⟩∧sb<w.heap.size∧∀ j,j<m→w.cell? ⟨sb,i*m+j,none⟩=(f x)[j]?:=by
 have hl:=aY hi;have hlen:=h.len;obtain⟨sb,rfl,hs⟩:=h.form (by omega);refine⟨sb,rfl,hs,fun j hj=>?_⟩;have hb:i*m+m≤N*m:=by
  have:=Nat.mul_le_mul_right m (show i+1≤N by omega)
  rw[Nat.add_mul] at this;omega
 rw[h.own.cellAt _ (by omega),flat_get _ m hf _ _ _ hj,hi];rfl
theorem Own.block (h:Own w e m f A N C xs):∀ a,A=some a→a.block<w.heap.size:=by
 intro a ha;subst ha;exact(h.own.lt a.block rfl).2
theorem Own.ag {S:Nat→Prop} (h:Own w e m f A N C xs) (hs:ah S w w') (hn:∀ a,A=some a→¬ S a.block):Own w' e m f A N C xs:=by
 refine⟨h.len,h.own.1,?_⟩;rcases h.own.2 with hx | ⟨g,cap,cur,h1,h0,h2,h3⟩
 ·exact .inl hx
 ·refine .inr ⟨g,cap,cur,h1,h0,?_,h3⟩;have hg:g<w.heap.size:=(Array.getElem?_eq_some_iff.1 h2).1;injection h1 with hA _ _
  rw[hs.block g hg (hn _ hA)];exact h2
theorem Own.av {g:Nat} {t:TypeId} {cs:Array Value} (h:Own w e m f A N C xs) (hb:ax w g t cs) (hne:e≠t):∀ a,A=some a→a.block≠g:=by
 intro a ha hag;subst ha;rcases h.own.2 with⟨hx,_⟩ | ⟨g',cap,cur,h1,_,h2,_⟩
 ·cases hx
 ·injection h1 with hA _ _
  injection hA with hA
  subst hA;simp only at hag;subst hag;exact hne (ax.inj (show ax w g' e cur from h2) hb).1
end
theorem za {α β:Type} (f:α→List β) (m:Nat) (hf:∀ x,(f x).length=m) (l:List α) (i j:Nat) (x x':α) (u:β) (hx:l[i]?=some x) (hj:j<m) (hx':f x'=(f x).set j u) :
  (l.flatMap f).set (i*m+j) u=(l.set i x').flatMap f:=by
 have hi:=aY hx;refine AB f m hf l i x' hi (by omega) _ (fun k=>?_);have hmod:k%m<m:=Nat.mod_lt _ (by omega);have hk:k=k / m*m+k%m:=by rw[Nat.mul_comm];exact(Nat.div_add_mod k m).symm
 have e2:=flat_get f m hf l (k / m) (k%m) hmod;rw[← hk] at e2;have hb:i*m+m≤l.length*m:=by
  have:=Nat.mul_le_mul_right m (show i+1≤l.length by omega)
  rw[Nat.add_mul] at this;omega
 rw[List.getElem?_set,bg f m hf];by_cases h1:i*m+j=k
 ·have hd:k / m=i:=by rw[Nat.div_eq_iff (by omega)];omega
  have hr:k%m=j:=by
   have:=hk
   rw[hd] at this;omega
  rw[if_pos h1,if_pos (by omega),if_pos hd,hr,hx',List.getElem?_set,if_pos rfl,hf,if_pos hj]
 ·rw[if_neg h1];by_cases hd:k / m=i
  ·rw[if_pos hd,e2,hd,hx,hx',List.getElem?_set,if_neg (by intro h;apply h1;rw[hd] at hk;omega)];rfl
  ·rw[if_neg hd]
section
variable {w w':World} {e:TypeId} {m:Nat} {α:Type} {f:α→List Value} {A:Option Addr} {N C:Nat} {xs:List α}
theorem Own.free {sb:Nat} (h:Own w e m f (some ⟨sb,0,none⟩) N C xs) (j:Nat):w.frozen? ⟨sb,j,none⟩=false:=h.own.frozenAt j
theorem Own.far {p:Addr} (h:Own w e m f A N C xs) (hp:∀ a,A=some a→a.block≠p.block) (u:Value):Own (w.setCell p u) e m f A N C xs :=
 h.ag (S:=fun b=>b=p.block) ((ah.refl (fun b=>b=p.block) w).setCell (.inl rfl) u) (fun a ha hb=>hp a ha hb)
theorem Own.store {sb:Nat} (hf:∀ x,(f x).length=m) (h:Own w e m f (some ⟨sb,0,none⟩) N C xs) (i j:Nat) (x x':α) (u:Value) (hx:xs[i]?=some x) (hj:j<m) (hx':f x'=(f x).set j u) :
  Own (w.setCell ⟨sb,i*m+j,none⟩ u) e m f (some ⟨sb,0,none⟩) N C (xs.set i x'):=by
 refine⟨by rw[List.length_set];exact h.len,?_⟩;rw[← za f m hf xs i j x x' u hx hj hx'];exact(h.own.stored _ u).1
end
def rowOf (A:Option Addr) (b:Nat):Prop:=∃ a,A=some a∧a.block=b
theorem af {A:Option Addr} {N C b:Nat}:(Value.slice A N C).ownBlock=some b↔rowOf A b:=by
 cases A with
 | none=>simp[Value.ownBlock,rowOf]
 | some a=>simp[Value.ownBlock,rowOf]
def put (w:World) (b o:Nat):List Value→World
 | []=>w
 | v::vs=>put (w.setCell ⟨b,o,none⟩ v) b (o+1) vs
def Kn (l:List Value) (o:Nat):List Value→List Value
 | []=>l
 | v::vs=>Kn (l.set o v) (o+1) vs
theorem sF:∀ (vs:List Value) (l:List Value) (o:Nat),(setRow l.toArray o vs).toList=Kn l o vs
 | [],_,_=>by simp[setRow,Kn]
 | v::vs,l,o=>by
  rw[setRow,Kn,← sF vs (l.set o v) (o+1)];simp
theorem FB {e:TypeId} {m sb N C:Nat}:∀ (vs:List Value) {w:World} {ys:List Value} (o:Nat),w.ownsRow 0 e m (.slice (some ⟨sb,0,none⟩) N C) N ys→(put w sb o vs).ownsRow 0 e m (.slice (some ⟨sb,0,none⟩) N C) N (Kn ys o vs)
 | [],_,_,_,h=>h
 | v::vs,_,_,o,h=>FB vs (o+1) (h.stored o v).1
theorem Own.put {w:World} {e:TypeId} {m:Nat} {α:Type} {f:α→List Value} {N C sb:Nat} {xs:List α} (hf:∀ x,(f x).length=m) (hm:0<m) (h:Own w e m f (some ⟨sb,0,none⟩) N C xs) {i:Nat} (hi:i<xs.length) (x:α) :
  Own (put w sb (i*m) (f x)) e m f (some ⟨sb,0,none⟩) N C (xs.set i x):=by
 refine⟨by rw[List.length_set];exact h.len,?_⟩;have h1:=FB (f x) (i*m) h.own;rw[← sF,DC f m hf hm xs i x hi] at h1;simpa using h1
theorem ah.put {S:Nat→Prop} {b:Nat} (hb:S b):∀ (vs:List Value) {w w':World} (o:Nat),ah S w w'→ah S w (put w' b o vs)
 | [],_,_,_,h=>h
 | v::vs,_,_,o,h=>ah.put hb vs (o+1) (h.set o v hb)
theorem ax.put {g b:Nat} {t:TypeId} {cs:Array Value} (hb:g≠b):∀ (vs:List Value) {w:World} (o:Nat),ax w g t cs→ax (put w b o vs) g t cs
 | [],_,_,h=>h
 | v::vs,_,o,h=>ax.put hb vs (o+1) (h.far (p:=⟨b,o,none⟩) hb v)
theorem Own.DD {e:TypeId} {m:Nat} {α:Type} {f:α→List Value} {A:Option Addr} {N C b:Nat} {xs:List α} (hb:¬ rowOf A b):∀ (vs:List Value) {w:World} (o:Nat),Own w e m f A N C xs→Own (Go.Tk.put w b o vs) e m f A N C xs
 | [],_,_,h=>h
 | v::vs,_,o,h=>Own.DD hb vs (o+1) (h.far (p:=⟨b,o,none⟩) (fun a ha hab=>hb ⟨a,ha,hab⟩) v)
theorem Ho {α:Type} (f:α→List Value) (m:Nat) (hf:∀ x,(f x).length=m) (hm:0<m) (x:α) (n:Nat):madeCells (f x).toArray (n*m)=((List.replicate n x).flatMap f).toArray:=by
 apply Array.toList_inj.1;rw[List.toList_toArray];apply List.ext_getElem?;intro k;have hk:k=k / m*m+k%m:=by rw[Nat.mul_comm];exact(Nat.div_add_mod k m).symm
 have hmod:k%m<m:=Nat.mod_lt _ hm;have e:=flat_get f m hf (List.replicate n x) (k / m) (k%m) hmod;rw[← hk] at e;rw[e];by_cases h:k<n*m
 ·have hd:k / m<n:=Nat.div_lt_of_lt_mul (by rw[Nat.mul_comm];exact h);simp only[madeCells,Array.getElem?_toList,Array.getElem?_map];rw[Array.getElem?_range,if_pos h,List.getElem?_replicate,if_pos hd];simp only[Option.map_some,Option.bind_some,List.size_toArray,hf];rw[getElem!_pos _ _ (by simp[hf,hmod])];simp[hf,hmod]
 ·have hd:¬ k / m<n:=by
   intro hd;apply h
   have:=Nat.mul_le_mul_right m (show k / m+1≤n by omega)
   rw[Nat.add_mul] at this;omega
  simp only[madeCells,Array.getElem?_toList,Array.getElem?_map];rw[Array.getElem?_range,if_neg h,List.getElem?_replicate,if_neg hd];rfl
theorem eZ {P:Program} {t e:TypeId} {z:Value} {size bytes:Nat} (ht:P.underlying t=some (.slice e)) (hi:(P.info? e).map (fun i=>(i.zero,i.size,i.bytes))=some (some z,size,bytes))
  (kl kc:IntKind) (n:Nat) (hbytes:bytes*n≤281474976710656) (h63:n≤9223372036854775807) (w:World) :
  (Instr.makeSlice t (.int kl (n:Int)) (.int kc (n:Int))).run P w=.ok (.slice (some ⟨w.heap.size,0,none⟩) n n) (w.alloc (.cells (madeCells z.cells (n*size)) e)):=by
 obtain⟨i,hi,hz,hs,hb⟩:=info_parts hi;have hb':(i.bytes:Int)*(n:Int)≤281474976710656:=by
  have h:((i.bytes*n:Nat):Int)≤281474976710656:=by rw[hb];omega
  rwa [Int.natCast_mul] at h
 have hr:=run_make (P:=P) w t e i z ht hi hz kl kc n n (by omega) (by omega) hb' (by omega);simp only[Int.toNat_natCast,hs] at hr;exact hr
end Go.Tk
namespace Go.Tk
open Go.RowKit Go.Sort
section
variable {P:Program} {ops:Array Oper} {md:Region.Mode} {C:World→Prop}
def pF (P:Program) (md:Region.Mode) (ops:Array Oper) (C:World→Prop) (n:Nat) (L:Array Bool→Act→Prop):Nat→Array Bool→Act→Prop
 | 0,listed,a=>L listed a
 | f+1,listed,a =>
  Region.ready md ops listed≠[]∧∀ i∈Region.ready md ops listed,i<n∧qOp P ops C i (pF P md ops C n L f (listed.setIfInBounds i true)) a
theorem l9 {n g:Nat} {L:Array Bool→Act→Prop} {Q':Exit→Act→World→Prop} (hL:∀ listed a w,C w→L listed a→wpAny P md ops Q' g listed a w) :
  ∀ (f:Nat) (listed:Array Bool) (a:Act) (w:World),C w→pF P md ops C n L f listed a→wpAny P md ops Q' (f+g) listed a w
 | 0,listed,a,w,hw,h=>by rw[Nat.zero_add];exact hL _ _ _ hw h
 | f+1,listed,a,w,hw,h=>by
  rw[show f+1+g=(f+g)+1 by omega];exact⟨fun h0=>absurd h0 h.1,fun i hi=>wpOp_of_qOp hw (fun a' w' hw' h'=>l9 hL f _ a' w' hw' h') (h.2 i hi).2⟩
theorem xh {n i:Nat} {oi:Oper} {v:Value} {L:Array Bool→Act→Prop} (hi:ops[i]?=some oi) (hsel:∀ (j:Nat) (o:Oper) cs b,ops[j]?=some o→o.op≠.select cs b)
  (hs:Region.sinkB md ops n=true) (hc:Region.chainB md ops n=true) (hn:n<ops.size) (hin:i<n)
  (hdone:∀ listed a,L listed a→∀ j∈Region.ready md ops listed,n≤j) :
  ∀ (f:Nat) (listed:Array Bool) (a:Act),HeadInv md ops n listed→
   (∀ j oj,ops[j]?=some oj→j≠i→listed.getD j true=false→(∀ e∈oj.after,Region.binds md e=true→e.on≠i)→oi.apart ops oj=true)→
   i∈Region.ready md ops listed→YieldsIn P ops C oi v a→
   pF P md ops C n L f (listed.setIfInBounds i true) (a.put oi.dst v)→pF P md ops C n L (f+1) listed a:=by
 intro f
 induction f with
 | zero =>
  intro listed a inv _ hr hy H;have hun:=(mem_ready.1 hr).1;refine⟨fun h=>(by rw[h] at hr;cases hr),fun j hj=>?_⟩;have hjn:j<n:=by
   rcases Nat.lt_or_ge j n with h | h
   ·exact h
   ·exact absurd hj (tail_waits hs hc hn inv _ i rfl hin hun j h)
  refine⟨hjn,?_⟩;by_cases hji:j=i
  ·subst hji;exact hy.qOp hi H
  ·have:=hdone _ _ H j (ready_mono hj hji)
   omega
 | succ f ih =>
  intro listed a inv hfree hr hy H;have hun:=(mem_ready.1 hr).1;refine⟨fun h=>(by rw[h] at hr;cases hr),fun j hj=>?_⟩;have hjn:j<n:=by
   rcases Nat.lt_or_ge j n with h | h
   ·exact h
   ·exact absurd hj (tail_waits hs hc hn inv _ i rfl hin hun j h)
  refine⟨hjn,?_⟩;by_cases hji:j=i
  ·subst hji;exact hy.qOp hi H
  ·have h1:=(H.2 j (ready_mono hj hji)).2;obtain⟨hjun,oj,hoj,hall⟩:=mem_ready.1 hj;have hnot:∀ e∈oj.after,Region.binds md e=true→e.on≠i:=fun e he hb heq=>by
    have h1:=hall e he hb;rw[heq,getD_both hun] at h1;cases h1
   have h2:=qOp_put hoj (hfree j oj hoj hji hjun hnot) (fun cs b=>hsel i oi cs b hi) (fun cs b=>hsel j oj cs b hoj) hy h1;have hfree':∀ k ok,ops[k]?=some ok→k≠i→(listed.setIfInBounds j true).getD k true=false→
     (∀ e∈ok.after,Region.binds md e=true→e.on≠i)→oi.apart ops ok=true:=fun k ok hk hki hun hno=>by
    refine hfree k ok hk hki ?_ hno;by_cases hjk:j=k
    ·subst hjk;exact hjun
    ·rw[getD_set_ne true hjk] at hun;exact hun
   refine qOp_mono (fun a' h3=>ih (listed.setIfInBounds j true) a' (inv.set hj hjn) hfree' (ready_mono hr (Ne.symm hji)) h3.1 ?_) h2;rw[Array.setIfInBounds_comm _ _ hji];exact h3.2
theorem sG {n g:Nat} {Lq:Act→Prop} (hsel:Region.noSelect ops=true) (hs:Region.sinkB md ops n=true) (hc:Region.chainB md ops n=true) (hn:n<ops.size) :
  ∀ (l:List Oper) (k:Nat) (listed:Array Bool) (a:Act),(∀ j,j<l.length→l[j]?=ops[k+j]?)→k+l.length=n→HeadInv md ops n listed→
  Region.lexHead md ops g l.length k listed=true→wpQuiet P ops C Lq l a→
  pF P md ops C n (fun listed' a'=>Region.seqB md ops g n listed'=true∧Lq a') l.length listed a
 | [],k,listed,a,_,hk,_,hB,h=>by
  have:k=n:=by simpa using hk
  subst this;exact⟨by simpa [Region.lexHead] using hB,h⟩
 | o::l,k,listed,a,hl,hk,inv,hB,h=>by
  have h0:ops[k]?=some o:=by simpa using (hl 0 (by simp)).symm
  simp only[List.length_cons,Region.lexHead,Bool.and_eq_true] at hB;obtain⟨⟨hr,hf⟩,hB'⟩:=hB;have hkn:k<n:=by simp only[List.length_cons] at hk;omega
  have hr':k∈Region.ready md ops listed:=by simpa using hr
  have hst:qOp P ops C k (wpQuiet P ops C Lq l) a:=by unfold qOp;simp only[h0];exact h
  obtain⟨v,hy,hK⟩:=yieldsIn_of_qOp h0 hst;exact xh h0 (Region.noSelect_spec hsel) hs hc hn hkn (fun listed' a' hL=>seqB_ready hL.1) l.length listed a inv (Region.free_spec h0 hf) hr' hy
   (sG hsel hs hc hn l (k+1) _ _ (fun j hj=>by have:=hl (j+1) (by simp <;> omega);simpa [Nat.add_assoc,Nat.add_comm 1 j] using this) (by simp only[List.length_cons] at hk;omega) (inv.set hr' hkn) hB' hK)
theorem mg {id:Nat} {Q:Exit→Act→World→Prop} {a:Act} {w:World} {l:List Oper} (n:Nat) (hm:P.follows .mixedOrders=true) (hB:Region.lexTailB .any l.toArray n=true) (hC:C { w with drawn:=w.drawn+1 })
  (h:wpQuiet P l.toArray C (fun a'=>∀ w',C w'→wpList P l.toArray Q (l.drop n) a' w') (l.take n) a):(Code.region id l.toArray true).wp P Q a w:=by
 simp only[Region.lexTailB,Bool.and_eq_true,decide_eq_true_eq] at hB;obtain⟨⟨⟨⟨hsel,hn⟩,hs⟩,hc⟩,hlex⟩:=hB;have hn':n<l.length:=by simpa using hn
 have htl:(l.take n).length=n:=by simp <;> omega
 have hdl:(l.drop n).length=l.toArray.size-n:=by simp
 have inv0:HeadInv .any l.toArray n (Array.replicate l.toArray.size false) :=
  ⟨by simp,fun j oj _ hl=>(by rw[getD_replicate_false] at hl;cases hl),fun t _ ht=>getD_in (by simpa using ht) (getD_replicate_false _ _)⟩
 have H:=sG (C:=C) (md:=.any) (g:=l.toArray.size-n) hsel hs hc hn (l.take n) 0 _ a (fun j hj=>by
  have hj':j<n:=by rw[htl] at hj;exact hj
  simp[hj']) (by simpa using htl) inv0 (by rw[htl];exact hlex) h
 refine wp_region_any hm ?_
 have:=l9 (Q':=Q) (g:=l.toArray.size-n) (fun listed a' w' hw' hL=>by
  have:=wpAny_of_seq (md:=.any) (Q':=Q) (l.drop n) n listed a' w' (fun j=>by simp[List.getElem?_drop]) (by rw[hdl];exact hL.1) (hL.2 w' hw')
  rwa [hdl] at this) _ _ _ _ hC H
 rw[htl,show n+(l.toArray.size-n)=l.toArray.size by omega] at this;exact this
end
def more (w:World) (p:Regrown):World:=grow (redrawn w p.d) p.os
theorem az (w:World) (p:Regrown):Same w (more w p):=ah.of_below (below_regrown w p.d p.os) _
theorem pG {w w':World} (h:Same w w'):∃ p,w'=more w p:=regrown_of_below ⟨h.os,h.tape,h.output,h.size,fun i hi=>h.block i hi id⟩
theorem Hq (w:World) (p:Regrown) (a:Addr) (h:a.block<w.heap.size):(more w p).cell? a=w.cell? a:=(az w p).cell h id
theorem AJ (w:World) (p:Regrown) (a:Addr) (h:a.block<w.heap.size):(more w p).frozen? a=w.frozen? a:=World.frozen?_of_block ((az w p).block _ h id)
theorem xW (w:World):∃ p,({ w with drawn:=w.drawn+1 }:World)=more w p:=pG (ah.drew (ah.refl _ _))
section
variable {P:Program} {w:World}
theorem eG {id:Nat} {Q:Exit→Act→World→Prop} {a:Act} {l:List Oper} (hm:P.follows .mixedOrders=true) (hB:Region.lexB .any l.toArray=true)
  (h:wpQuiet P l.toArray (fun w'=>∃ p,w'=more w p) (fun a'=>∀ w',(∃ p,w'=more w p)→Q .normal a' w') l a):(Code.region id l.toArray true).wp P Q a w :=
 wp_region_quiet (C:=fun w'=>∃ p,w'=more w p) hm hB (xW w) (by simpa using h)
theorem dZ {id:Nat} {Q:Exit→Act→World→Prop} {a:Act} {l:List Oper} (n:Nat) (hm:P.follows .mixedOrders=true) (hB:Region.lexTailB .any l.toArray n=true)
  (h:wpQuiet P l.toArray (fun w'=>∃ p,w'=more w p) (fun a'=>∀ w',(∃ p,w'=more w p)→wpList P l.toArray Q (l.drop n) a' w') (l.take n) a):(Code.region id l.toArray true).wp P Q a w :=
 mg (C:=fun w'=>∃ p,w'=more w p) n hm hB (xW w) h
theorem aW {f:FuncId} {args:Array Value} {p:Regrown} {v:Value} (h:Calls P f args (more w p) fun e w'=>e=.returned v∧Same (more w p) w') :
  Calls P f args (more w p) fun e w''=>e=.returned v∧∃ q,w''=more w q :=
 h.mono fun _ _ ⟨he,hb⟩=>⟨he,pG ((az w p).trans hb (fun _ _ h=>h))⟩
end
attribute [go_sem] Hq AJ
theorem gD {a b:Bool} (h:a=b):Ending.returned (.bool a)=.returned (.bool b):=by rw[h]
theorem fG {k:IntKind} {a b:Int} (h:a=b):Ending.returned (.int k a)=.returned (.int k b):=by rw[h]
theorem ai {P:Program} {c:Code} {Q:Exit→Act→World→Prop} {a:Act} {w:World} (h:∀ w1,w1=w→c.wp P Q a w1):c.wp P Q a w:=h w rfl
theorem ek {P:Program} {f:FuncId} {args:Array Value} {R:Ending→World→Prop} {w:World} (h:∀ w1,w1=w→Calls P f args w1 R):Calls P f args w R:=h w rfl
theorem aQ {P:Program} {ops:Array Oper} {l:List Oper} {Q:Exit→Act→World→Prop} {a:Act} {w:World} (h:∀ w1,w1=w→wpList P ops Q l a w1):wpList P ops Q l a w:=h w rfl
def Ko:Option TypeDesc→Bool
 | some (.slice _)=>true
 | _=>false
theorem DF (e:TypeId):Ko (some (.slice e))=true:=rfl
section
variable {P:Program} {t:TypeId} (w:World)
theorem xX (h:Ko (P.underlying t)=true):∃ e,P.underlying t=some (.slice e):=by
 unfold Ko at h;split at h
 ·rename_i e he;exact⟨e,he⟩
 ·cases h
theorem DI (a:Option Addr) (n c:Nat) (h:Ko (P.underlying t)=true):(binOp .eql t (.slice a n c) (.slice none 0 0)).run P w=.ok (.bool a.isNone) w:=by
 obtain⟨e,he⟩:=xX h;exact Lib.run_eql_slice_nil w t e a n c 0 0 he
theorem DJ (a:Option Addr) (n c:Nat) (h:Ko (P.underlying t)=true):(binOp .neq t (.slice a n c) (.slice none 0 0)).run P w=.ok (.bool (!a.isNone)) w:=by
 obtain⟨e,he⟩:=xX h;exact Go.run_neq_slice_nil_any w t e a n c 0 0 he
end
attribute [go_sem] DF DI DJ
end Go.Tk
namespace Go.Tk
open Go.RowKit Go.Sort
section
variable {P:Program} {ops:Array Oper} {md:Region.Mode} {C:World→Prop} {Q:Exit→Act→World→Prop}
theorem Oper.jC {o:Oper} {a:Act} {w:World} {K K':Act→World→Prop} {Q Q':Exit→Act→World→Prop} (hK:∀ a w,K a w→K' a w) (hQ:∀ e a w,Q e a w→Q' e a w)
  (h:o.wp P a w K Q):o.wp P a w K' Q':=by
 unfold Oper.wp at h ⊢;generalize (execOp a.eval o).run P w=r at h ⊢;cases r with
 | ok n w' =>
  cases n <;> simp only[Oper.upon] at h ⊢ <;> try exact hK _ _ h
  case enter f args =>
   refine h.mono fun e w'' he=>?_
   cases e with
   | returned v=>exact hK _ _ he
   | panicked c=>exact hQ _ _ _ he
   | outgrown=>obtain⟨a0,w0,h0⟩:=he;exact⟨a0,w0,hQ _ _ _ h0⟩
  case row row args=>exact h.mono fun v w'' he=>hK _ _ he
 | halt x w' =>
  cases x <;> simp only[Oper.upon] at h ⊢;exact hQ _ _ _ h
def calm:Op→Bool
 | .move _ | .assign _ | .pick .. | .load .. | .nilCheck _ | .binOp .. | .unOp .. | .convert .. | .fieldAddr .. | .field .. | .indexAddr .. | .index .. | .build .. | .slice .. | .extract ..=>true
 | .call { callee:=.builtin .len,.. } | .call { callee:=.builtin .cap,.. }=>true
 | _=>false
theorem uF {α:Type} {s:Sem α} {g:α→Value} {w w':World} {f:FuncId} {args:Array Value}:(do pure (Next.value (g (← s))):Sem Next).run P w≠.ok (.enter f args) w':=by
 rw[Sem.run_bind];generalize s.run P w=r;cases r with
 | ok a w1=>simp
 | halt x w1=>simp[Result.andThen]
theorem jU {α:Type} {s:Sem α} {k:α→Sem Next} {w w':World} {f:FuncId} {args:Array Value} (h:∀ a w1,(k a).run P w1≠.ok (.enter f args) w'):(do let a ← s;k a:Sem Next).run P w≠.ok (.enter f args) w':=by
 rw[Sem.run_bind];generalize s.run P w=r;cases r with
 | ok a w1=>simpa using h a w1
 | halt x w1=>simp[Result.andThen]
theorem xY {w w':World} {f:FuncId} {args:Array Value}:(runtimePanic .nilDeref:Sem Next).run P w≠.ok (.enter f args) w':=by
 unfold runtimePanic;refine jU fun a w1=>?_
 simp[goPanic]
theorem oL {o:Oper} {ev:Operand→Value} {w w':World} {f:FuncId} {args:Array Value} (h:calm o.op=true):(execOp ev o).run P w≠.ok (.enter f args) w':=by
 unfold execOp;cases hop:o.op <;> rw[hop] at h <;> simp only[calm] at h <;> first | cases h | skip
 all_goals try exact uF
 all_goals try (simp;done)
 all_goals try exact uF (g:=fun b:Bool=>if b=true then ev _ else ev _)
 case nilCheck x =>
  dsimp only
  split <;> try exact xY
  ·split
   ·exact xY
   ·refine jU fun a w1=>jU fun b w2=>?_
    split
    ·exact jU fun _ _=>by simp
    ·simp
   ·simp
  ·simp
 case call c =>
  obtain⟨cal,args,at'⟩:=c;cases cal with
  | value f=>cases h
  | invoke r m=>cases h
  | builtin b =>
   cases b <;> first | cases h | skip
   all_goals
    simp only[resolve,Sem.run_bind,Sem.run_pure,Result.andThen_ok,invoke,builtin];generalize Sem.run P _ w=r;cases r with
    | ok a w1=>simp
    | halt x w1=>simp[Result.andThen]
def YC (P:Program) (ops:Array Oper) (C:World→Prop) (o:Oper) (v:Value) (a:Act):Prop :=
 (Region.wanted o (yielded ops a.tmps)=true∧∀ w,C w→((execOp a.eval o).run P w=.ok (.value v) w∨((execOp a.eval o).run P w=.ok .skip w∧v=undef)))∨
 (Region.wanted o (yielded ops a.tmps)=false∧v=undef)
theorem YC.of_same {o:Oper} {v:Value} {a a':Act} (hy:YC P ops C o v a) (he:execOp a'.eval o=execOp a.eval o)
  (hw:Region.wanted o (yielded ops a'.tmps)=Region.wanted o (yielded ops a.tmps)):YC P ops C o v a':=by
 unfold YC at *
 rw[he,hw];exact hy
def opC (P:Program) (ops:Array Oper) (C:World→Prop) (Q:Exit→Act→World→Prop) (n i:Nat) (K:Act→World→Prop) (a:Act) (w:World):Prop :=
 if i<n then
  match ops[i]? with
  | none=>K a w
  | some o=>if Region.wanted o (yielded ops a.tmps) then o.wp P a w (fun a' w'=>C w'∧K a' w') (fun _ _ _=>False) else K (a.put o.dst undef) w
 else wpOp P ops Q i K a w
def fB (P:Program) (md:Region.Mode) (ops:Array Oper) (C:World→Prop) (Q:Exit→Act→World→Prop) (n:Nat):Nat→Array Bool→Act→World→Prop
 | 0,listed,a,w=>Region.ready md ops listed=[]∧Q .normal a w
 | f+1,listed,a,w=>(Region.ready md ops listed=[]→Q .normal a w)∧∀ i∈Region.ready md ops listed,opC P ops C Q n i (fB P md ops C Q n f (listed.setIfInBounds i true)) a w
theorem AL {n i:Nat} {K K':Act→World→Prop} {a:Act} {w:World} (hK:∀ a w,K a w→K' a w) (h:opC P ops C Q n i K a w):opC P ops C Q n i K' a w:=by
 unfold opC at *
 split at h
 ·rename_i hin;rw[if_pos hin];cases ho:ops[i]? with
  | none=>rw[ho] at h;exact hK _ _ h
  | some o =>
   rw[ho] at h
   dsimp only at h ⊢
   split at h
   ·rename_i hw;rw[if_pos hw];exact Oper.jC (fun a w h=>⟨h.1,hK _ _ h.2⟩) (fun _ _ _ h=>h) h
   ·rename_i hw;rw[if_neg hw];exact hK _ _ h
 ·rename_i hin;rw[if_neg hin];exact wpOp_mono hK h
theorem fe {n:Nat}:∀ (f:Nat) (listed:Array Bool) (a:Act) (w:World),fB P md ops C Q n f listed a w→wpAny P md ops Q f listed a w
 | 0,_,_,_,h=>h
 | f+1,listed,a,w,h=>⟨h.1,fun i hi=>by
  have h2:=h.2 i hi;unfold opC at h2;split at h2
  ·unfold wpOp;cases ho:ops[i]? with
   | none=>rw[ho] at h2;exact fe f _ _ _ h2
   | some o =>
    rw[ho] at h2
    dsimp only at h2 ⊢
    split at h2
    ·rename_i hw;rw[if_pos hw];exact .inl (Oper.jC (fun a w h=>fe f _ _ _ h.2) (fun _ _ _ h=>h.elim) h2)
    ·rename_i hw;rw[if_neg hw];exact fe f _ _ _ h2
  ·exact wpOp_mono (fun a w h=>fe f _ _ _ h) h2⟩
theorem nC {n i:Nat} {oi:Oper} {v:Value} {a:Act} {w:World} {K:Act→World→Prop} (hi:ops[i]?=some oi) (hin:i<n) (hC:C w) (hy:YC P ops C oi v a) (hK:K (a.put oi.dst v) w):opC P ops C Q n i K a w:=by
 unfold opC;rw[if_pos hin];simp only[hi];rcases hy with⟨hw,hv⟩ | ⟨hw,rfl⟩
 ·rw[if_pos hw];unfold Oper.wp;rcases hv w hC with h | ⟨h,rfl⟩
  ·rw[h];exact⟨hC,hK⟩
  ·rw[h];exact⟨hC,hK⟩
 ·rw[if_neg (by rw[hw];simp)];exact hK
theorem put_defers (a:Act) (d:Option Tmp) (v:Value) (ds:List Deferred):({ (a.put d v) with defers:=ds }:Act)=({ a with defers:=ds }:Act).put d v:=by
 cases d <;> rfl
theorem AO (a:Act) (d:Option Tmp) (v:Value):(a.put d v).defers=a.defers:=by cases d <;> rfl
theorem FC {n j:Nat} {oi oj:Oper} {v:Value} {a:Act} {w:World} {K:Act→World→Prop} (hj:ops[j]?=some oj) (hjn:j<n) (hap:oi.apart ops oj=true)
  (hsi:∀ cs b,oi.op≠.select cs b) (hsj:∀ cs b,oj.op≠.select cs b) (hC:C w) (hy:YC P ops C oi v a) (h:opC P ops C Q n j K (a.put oi.dst v) w) :
  opC P ops C Q n j (fun a' w'=>C w'∧YC P ops C oi v a'∧K (a'.put oi.dst v) w') a w:=by
 obtain⟨h1,h2,h3⟩:=Oper.apart_spec hap;have keep:∀ (a:Act),YC P ops C oi v a→∀ u,YC P ops C oi v (a.put oj.dst u):=fun a hy u =>
  hy.of_same (execOp_put oi hsi a oj.dst u h3) (wanted_put oi a oj.dst u h3)
 have Vy:∀ (a:Act) (ds:List Deferred),YC P ops C oi v a→YC P ops C oi v { a with defers:=ds }:=fun a ds hy=>hy.of_same rfl rfl
 unfold opC at *
 rw[if_pos hjn] at h ⊢;simp only[hj] at h ⊢;rw[wanted_put oj a oi.dst v h1] at h;split
 ·rename_i hw;rw[if_pos hw] at h;unfold Oper.wp at h ⊢;rw[execOp_put oj hsj a oi.dst v h1] at h;generalize (execOp a.eval oj).run P w=r at h ⊢;cases r with
  | ok nx w' =>
   cases nx <;> simp only[Oper.upon] at h ⊢
   case value u=>exact⟨h.1,h.1,keep a hy u,by rw[← Act.put_comm a v u h2];exact h.2⟩
   case skip=>exact⟨h.1,h.1,keep a hy _,by rw[← Act.put_comm a v undef h2];exact h.2⟩
   case defer d =>
    refine⟨h.1,h.1,keep _ (Vy a _ hy) _,?_⟩;have h4:=h.2;rw[AO,put_defers] at h4;rw[← Act.put_comm _ v undef h2];exact h4
   case enter f args =>
    refine h.mono fun e w'' he=>?_
    cases e with
    | returned u=>exact⟨he.1,he.1,keep a hy u,by rw[← Act.put_comm a v u h2];exact he.2⟩
    | panicked c=>exact he.elim
    | outgrown=>obtain⟨_,_,h0⟩:=he;exact h0.elim
   case row row args=>exact h.mono fun u w'' he=>⟨he.1,he.1,keep a hy u,by rw[← Act.put_comm a v u h2];exact he.2⟩
  | halt x w' =>
   cases x <;> simp only[Oper.upon] at h
 ·rename_i hw;rw[if_neg hw] at h;exact⟨hC,keep a hy _,by rw[← Act.put_comm a v undef h2];exact h⟩
theorem jc {n i:Nat} {oi:Oper} {v:Value} (hi:ops[i]?=some oi) (hsel:∀ (j:Nat) (o:Oper) cs b,ops[j]?=some o→o.op≠.select cs b)
  (hs:Region.sinkB md ops n=true) (hc:Region.chainB md ops n=true) (hn:n<ops.size) (ab0:n+1=ops.size) (hin:i<n) :
  ∀ (f:Nat) (listed:Array Bool) (a:Act) (w:World),HeadInv md ops n listed→
   (∀ j oj,ops[j]?=some oj→j≠i→listed.getD j true=false→(∀ e∈oj.after,Region.binds md e=true→e.on≠i)→oi.apart ops oj=true)→
   i∈Region.ready md ops listed→C w→YC P ops C oi v a→
   fB P md ops C Q n f (listed.setIfInBounds i true) (a.put oi.dst v) w→fB P md ops C Q n (f+1) listed a w:=by
 intro f
 induction f with
 | zero =>
  intro listed a w _ _ hr hC hy H;refine⟨fun h=>(by rw[h] at hr;cases hr),fun j hj=>?_⟩;by_cases hji:j=i
  ·subst hji;exact nC hi hin hC hy H
  ·have:=ready_mono hj hji
   rw[H.1] at this;cases this
 | succ f ih =>
  intro listed a w inv hfree hr hC hy H;have hun:=(mem_ready.1 hr).1;refine⟨fun h=>(by rw[h] at hr;cases hr),fun j hj=>?_⟩;have hjn:j<n:=by
   rcases Nat.lt_or_ge j n with h | h
   ·exact h
   ·exact absurd hj (tail_waits hs hc hn inv _ i rfl hin hun j h)
  by_cases hji:j=i
  ·subst hji;exact nC hi hin hC hy H
  ·have h1:=H.2 j (ready_mono hj hji);obtain⟨hjun,oj,hoj,hall⟩:=mem_ready.1 hj;have hnot:∀ e∈oj.after,Region.binds md e=true→e.on≠i:=fun e he hb heq=>by
    have h1:=hall e he hb;rw[heq,getD_both hun] at h1;cases h1
   have h2:=FC hoj hjn (hfree j oj hoj hji hjun hnot) (fun cs b=>hsel i oi cs b hi) (fun cs b=>hsel j oj cs b hoj) hC hy h1;have hfree':∀ k ok,ops[k]?=some ok→k≠i→(listed.setIfInBounds j true).getD k true=false→
     (∀ e∈ok.after,Region.binds md e=true→e.on≠i)→oi.apart ops ok=true:=fun k ok hk hki hun hno=>by
    refine hfree k ok hk hki ?_ hno;by_cases hjk:j=k
    ·subst hjk;exact hjun
    ·rw[getD_set_ne true hjk] at hun;exact hun
   refine AL (fun a' w' h3=>ih (listed.setIfInBounds j true) a' w' (inv.set hj hjn) hfree' (ready_mono hr (Ne.symm hji)) h3.1 h3.2.1 ?_) h2;rw[Array.setIfInBounds_comm _ _ hji];exact h3.2.2
def kD (P:Program) (ops:Array Oper) (C:World→Prop) (Q:Exit→Act→World→Prop):List Oper→Act→World→Prop
 | [],a,w=>Q .normal a w
 | [o],a,w=>wpList P ops Q [o] a w
 | o::o'::rest,a,w=>if Region.wanted o (yielded ops a.tmps) then o.wp P a w (fun a' w'=>C w'∧kD P ops C Q (o'::rest) a' w') (fun _ _ _=>False) else kD P ops C Q (o'::rest) (a.put o.dst undef) w
def pick (l:List Oper) (is:List Nat):List Oper:=is.map fun i=>l.getD i default
def Hr (md:Region.Mode) (ops:Array Oper) (n:Nat):List Nat→Array Bool→Bool
 | [],_=>false
 | [e],listed=>decide (Region.ready md ops listed=[e])&&decide (e=n)&&decide (Region.ready md ops (listed.setIfInBounds e true)=[])
 | e::e'::r,listed=>decide (Region.ready md ops listed=[e])&&decide (e<n)&&Hr md ops n (e'::r) (listed.setIfInBounds e true)
theorem uG {n:Nat}:∀ (es:List Nat) (listed:Array Bool) (a:Act) (w:World),Hr md ops n es listed=true→(∀ e∈es,e<ops.size)→
  kD P ops C Q (pick ops.toList es) a w→fB P md ops C Q n es.length listed a w
 | [],_,_,_,h,_,_=>by simp[Hr] at h
 | [e],listed,a,w,h,hlt,hw=>by
  simp only[Hr,Bool.and_eq_true,decide_eq_true_eq] at h;have hel:e<ops.size:=hlt e (by simp);have ho:ops[e]?=some ops[e]:=Array.getElem?_eq_getElem hel;refine⟨fun h0=>(by rw[h.1.1] at h0;cases h0),fun i hi=>?_⟩;rw[h.1.1] at hi;obtain rfl:i=e:=by simpa using hi
  have hp:pick ops.toList [i]=[ops[i]]:=by simp[pick,ho]
  rw[hp] at hw;simp only[kD,wpList] at hw;unfold opC;rw[if_neg (by omega)];unfold wpOp;simp only[ho];split at hw
  ·rename_i hwt;rw[if_pos hwt];rcases hw with hw | hw
   ·exact .inl (Oper.jC (fun a' w' hq=>⟨h.2,hq⟩) (fun _ _ _ h=>h) hw)
   ·exact .inr hw
  ·rename_i hwt;rw[if_neg hwt];exact⟨h.2,hw⟩
 | e::e'::r,listed,a,w,h,hlt,hw=>by
  simp only[Hr,Bool.and_eq_true,decide_eq_true_eq] at h;have hel:e<ops.size:=hlt e (by simp);have ho:ops[e]?=some ops[e]:=Array.getElem?_eq_getElem hel;have aab:e'<ops.size:=hlt e' (by simp);have ho':ops[e']?=some ops[e']:=Array.getElem?_eq_getElem aab;refine⟨fun h0=>(by rw[h.1.1] at h0;cases h0),fun i hi=>?_⟩;rw[h.1.1] at hi;obtain rfl:i=e:=by simpa using hi
  have hp:pick ops.toList (i::e'::r)=ops[i]::ops[e']::pick ops.toList r:=by simp[pick,ho,ho']
  have hp':pick ops.toList (e'::r)=ops[e']::pick ops.toList r:=by simp[pick,ho']
  rw[hp] at hw;simp only[kD] at hw;rw[← hp'] at hw;have ih:=fun a' w'=>uG (e'::r) (listed.setIfInBounds i true) a' w' h.2 (fun e he=>hlt e (List.mem_cons_of_mem _ he))
  unfold opC;rw[if_pos h.1.2];simp only[ho];split at hw
  ·rename_i hwt;rw[if_pos hwt];exact Oper.jC (fun a' w' hq=>⟨hq.1,ih a' w' hq.2⟩) (fun _ _ _ h=>h) hw
  ·rename_i hwt;rw[if_neg hwt];exact ih _ _ hw
def Kq (md:Region.Mode) (ops:Array Oper) (n:Nat) (es:List Nat):List Nat→Array Bool→Bool
 | [],listed=>Hr md ops n es listed
 | i::r,listed=>decide (i<n)&&(match ops[i]? with | some o=>calm o.op | none=>false)&&(Region.ready md ops listed).contains i&&Region.free md ops listed i&&Kq md ops n es r (listed.setIfInBounds i true)
theorem oM {n:Nat} {es:List Nat} (hsel:Region.noSelect ops=true) (hs:Region.sinkB md ops n=true) (hc:Region.chainB md ops n=true) (hn1:n+1=ops.size) (hes:∀ e∈es,e<ops.size) {w:World} (hC:C w) :
  ∀ (is:List Nat) (listed:Array Bool) (a:Act),Kq md ops n es is listed=true→HeadInv md ops n listed→
   wpQuiet P ops C (fun a'=>kD P ops C Q (pick ops.toList es) a' w) (pick ops.toList is) a→fB P md ops C Q n (is.length+es.length) listed a w
 | [],listed,a,hB,_,h=>by
  rw[List.length_nil,Nat.zero_add];exact uG es listed a w hB hes h
 | i::r,listed,a,hB,inv,h=>by
  simp only[Kq,Bool.and_eq_true,decide_eq_true_eq] at hB;obtain⟨⟨⟨⟨hin,hcalm⟩,hr⟩,hf⟩,hB'⟩:=hB;have hel:i<ops.size:=by omega
  have ho:ops[i]?=some ops[i]:=Array.getElem?_eq_getElem hel;simp only[ho] at hcalm;have hr':i∈Region.ready md ops listed:=by simpa using hr
  have hp:pick ops.toList (i::r)=ops[i]::pick ops.toList r:=by simp[pick,ho]
  rw[hp] at h;rw[List.length_cons,show r.length+1+es.length=(r.length+es.length)+1 by omega];simp only[wpQuiet] at h;split at h
  ·rename_i hw;obtain⟨v,hv,hK⟩:=h;refine jc ho (Region.noSelect_spec hsel) hs hc (by omega) hn1 hin _ listed a w inv (Region.free_spec ho hf) hr' hC (v:=v) ?_ (oM hsel hs hc hn1 hes hC r _ _ hB' (inv.set hr' hin) hK);refine .inl ⟨hw,fun w hw'=>?_⟩;have h3:=hv w hw';unfold Oper.quietAt at h3;have hne:=fun w' f args=>oL (P:=P) (ev:=a.eval) (w:=w) (w':=w') (f:=f) (args:=args) hcalm
   generalize (execOp a.eval ops[i]).run P w=res at h3 hne ⊢;cases res with
   | ok nx w' =>
    cases nx <;> simp only[Oper.quietUpon] at h3
    case value u=>obtain⟨rfl,rfl⟩:=h3;exact .inl rfl
    case skip=>obtain⟨rfl,rfl⟩:=h3;exact .inr ⟨rfl,rfl⟩
    case enter f args=>exact absurd rfl (hne w' f args)
   | halt x w'=>simp only[Oper.quietUpon] at h3
  ·rename_i hw;exact jc ho (Region.noSelect_spec hsel) hs hc (by omega) hn1 hin _ listed a w inv (Region.free_spec ho hf) hr' hC (v:=undef) (.inr ⟨by simpa using hw,rfl⟩) (oM hsel hs hc hn1 hes hC r _ _ hB' (inv.set hr' hin) h)
theorem Ry {id:Nat} {a:Act} {w:World} {l:List Oper} (C:World→Prop) (is es:List Nat) (hm:P.follows .mixedOrders=true)
  (hB:(Region.noSelect l.toArray&&Region.sinkB .any l.toArray (l.length-1)&&Region.chainB .any l.toArray (l.length-1)&&decide (0<l.length)&&es.all (fun e=>decide (e<l.length))&&decide (is.length+es.length=l.length)&&
   Kq .any l.toArray (l.length-1) es is (Array.replicate l.length false))=true)
  (hC:C w.drew) (h:wpQuiet P l.toArray C (fun a'=>kD P l.toArray C Q (pick l es) a' w.drew) (pick l is) a):(Code.region id l.toArray true).wp P Q a w:=by
 simp only[Bool.and_eq_true,decide_eq_true_eq] at hB;obtain⟨⟨⟨⟨⟨⟨hsel,hs⟩,hc⟩,hl0⟩,hes⟩,hlen⟩,aac⟩:=hB;have hes':∀ e∈es,e<l.toArray.size:=fun e he=>by
  have:=List.all_eq_true.1 hes e he
  simpa using this
 have inv0:HeadInv .any l.toArray (l.length-1) (Array.replicate l.length false) :=
  ⟨by simp,fun j oj _ hl=>(by rw[getD_replicate_false] at hl;cases hl),fun t _ ht=>getD_in (by simpa using ht) (getD_replicate_false _ _)⟩
 have H:=oM (P:=P) (md:=.any) (ops:=l.toArray) (C:=C) (Q:=Q) hsel hs hc (by simp <;> omega) hes' hC is _ a aac inv0 (by simpa using h);refine wp_region_any hm ?_
 have:=fe _ _ _ _ H
 rw[hlen] at this;simpa using this
theorem jV {o o':Oper} {rest:List Oper} {a:Act} {w:World} (hg:o.guard=none)
  (h:∀ K:Act→World→Prop,(∀ a w,C w→kD P ops C Q (o'::rest) a w→K a w)→o.wp P a w K (fun _ _ _=>False)) :
  kD P ops C Q (o::o'::rest) a w:=by
 have h1:=h (fun a w=>C w∧kD P ops C Q (o'::rest) a w) (fun a w hc hw=>⟨hc,hw⟩);unfold kD;rw[if_pos (by simp[Region.wanted,hg])];exact h1
theorem DK {o:Oper} {a:Act} {w:World} (h:wpList P ops Q [o] a w):kD P ops C Q [o] a w:=h
end
structure aZ (S:Nat→Prop) (w0:World) where
 w:World
 ag:ah S w0 w
instance aZ.inh (S:Nat→Prop) (w0:World):Inhabited (aZ S w0):=⟨⟨w0,ah.refl S w0⟩⟩
def FD {S:Nat→Prop} {w0:World} (p:aZ S w0):World:=p.w
theorem aZ.cell {S:Nat→Prop} {w0:World} (p:aZ S w0) (a:Addr) (h:a.block<w0.heap.size) (hs:¬ S a.block):(FD p).cell? a=w0.cell? a:=p.ag.cell h hs
theorem aZ.frozen {S:Nat→Prop} {w0:World} (p:aZ S w0) (a:Addr) (h:a.block<w0.heap.size) (hs:¬ S a.block):(FD p).frozen? a=w0.frozen? a:=World.frozen?_of_block (p.ag.block _ h hs)
theorem aZ.bu {S:Nat→Prop} {w0 w:World} (h:ah S w0 w):∃ p:aZ S w0,w=FD p:=⟨⟨w,h⟩,rfl⟩
attribute [go_sem] aZ.cell aZ.frozen
theorem Oi {P:Program} {Q:Exit→Act→World→Prop} {id:Nat} {a:Act} {w:World} {l:List Oper} (S:Nat→Prop) (is es:List Nat) (hm:P.follows .mixedOrders=true)
  (hB:(Region.noSelect l.toArray&&Region.sinkB .any l.toArray (l.length-1)&&Region.chainB .any l.toArray (l.length-1)&&decide (0<l.length)&&es.all (fun e=>decide (e<l.length))&&decide (is.length+es.length=l.length)&&
   Kq .any l.toArray (l.length-1) es is (Array.replicate l.length false))=true)
  (h:wpQuiet P l.toArray (fun w'=>∃ p:aZ S w,w'=FD p) (fun a'=>kD P l.toArray (fun w'=>∃ p:aZ S w,w'=FD p) Q (pick l es) a' w.drew) (pick l is) a):(Code.region id l.toArray true).wp P Q a w :=
 Ry (fun w'=>∃ p:aZ S w,w'=FD p) is es hm hB (aZ.bu (ah.drew (ah.refl S w))) h
theorem sH {w:World} {nb:Nat} {e:TypeId} {l:List Value} (h:ax w nb e l.toArray):∀ j u,l[j]?=some u→w.cell? ((⟨nb,0,none⟩:Addr).add j)=some u:=by
 intro j u hj;have hadd:(⟨nb,0,none⟩:Addr).add j=⟨nb,j,none⟩:=by unfold Addr.add;split <;> simp_all
 rw[hadd,h.cell];simpa using hj
theorem Own.append {P:Program} {o:Oper} {a:Act} {w:World} {K:Act→World→Prop} {Q:Exit→Act→World→Prop} {e:TypeId} {m:Nat} {α:Type} {f:α→List Value} {A:Option Addr} {N C:Nat} {xs:List α}
  (s x:Operand) (t:TypeId) (ho:o.op=.call { callee:=.builtin .append,args:=#[s,x],argTypes:=#[t,t] }) (ht:P.underlying t=some (.slice e))
  {z:Value} {bytes:Nat} (hinfo:(P.info? e).map (fun i=>(i.zero,i.size,i.bytes))=some (some z,m,bytes)) (hzs:z.cells.size=m) (hm:0<m)
  (hs:a.eval s=.slice A N C) (h:Own w e m f A N C xs) (hf:∀ x,(f x).length=m) (x0:α) (nb cx:Nat) (hx:a.eval x=.slice (some ⟨nb,0,none⟩) 1 cx) (hnb:ax w nb e (f x0).toArray)
  (h1:∀ u∈f x0,u.oneCell'=true) (h63:xs.length+1≤maxLen) (hb:(xs.length+1)*bytes≤140737488355328)
  (hK:∀ g cap w',Own w' e m f (some ⟨g,0,none⟩) (N+1) cap (xs++[x0])→w.grownBy w' (Value.slice A N C).ownBlock→((Value.slice A N C).ownBlock=some g∨g=w.heap.size)→K (a.put o.dst (.slice (some ⟨g,0,none⟩) (N+1) cap)) w') :
  o.wp P a w K Q:=by
 obtain⟨i,hi,hz,hsz,hby⟩:=info_parts hinfo;obtain rfl:=h.len;refine wp_append_lies w s x t ho 0 e i z m bytes ht hi hz hsz hby hzs hm _ _ _ hs h.own ⟨nb,0,none⟩ 1 cx (f x0) hx (by rw[hf,Nat.one_mul]) (sH hnb) h1 (by omega) h63 hb (Nat.zero_le _) w.heap.size rfl ?_;intro g cap w' hown hg hat _;refine hK g cap w' ⟨by simp,?_⟩ hg hat;simpa using hown
theorem Own.aR {P:Program} {ops:Array Oper} {rest:List Oper} {o:Oper} {a:Act} {w:World} {Q:Exit→Act→World→Prop} {e:TypeId} {m:Nat} {α:Type} {f:α→List Value} {A:Option Addr} {N C:Nat} {xs:List α} (hgd:o.guard=none)
  (s x:Operand) (t:TypeId) (ho:o.op=.call { callee:=.builtin .append,args:=#[s,x],argTypes:=#[t,t] }) (ht:P.underlying t=some (.slice e))
  {z:Value} {bytes:Nat} (hinfo:(P.info? e).map (fun i=>(i.zero,i.size,i.bytes))=some (some z,m,bytes)) (hzs:z.cells.size=m) (hm:0<m)
  (hs:a.eval s=.slice A N C) (h:Own w e m f A N C xs) (hf:∀ x,(f x).length=m) (x0:α) (nb cx:Nat) (hx:a.eval x=.slice (some ⟨nb,0,none⟩) 1 cx) (hnb:ax w nb e (f x0).toArray)
  (h1:∀ u∈f x0,u.oneCell'=true) (h63:xs.length+1≤maxLen) (hb:(xs.length+1)*bytes≤140737488355328)
  (hK:∀ g cap w',Own w' e m f (some ⟨g,0,none⟩) (N+1) cap (xs++[x0])→w.grownBy w' (Value.slice A N C).ownBlock→((Value.slice A N C).ownBlock=some g∨g=w.heap.size)→wpList P ops Q rest (a.put o.dst (.slice (some ⟨g,0,none⟩) (N+1) cap)) w') :
  wpList P ops Q (o::rest) a w :=
 wpList_plain hgd fun _ hk=>Own.append s x t ho ht hinfo hzs hm hs h hf x0 nb cx hx hnb h1 h63 hb fun g cap w' a b c=>hk _ _ (hK g cap w' a b c)
end Go.Tk
namespace Go.Tk
open Go.RowKit Go.ChangeShapes Go.WideShapes Go.Deep
def eU (x:Int):List Value:=[.int .i64 x]
theorem fu (x:Int):(eU x).length=1:=rfl
abbrev IL (w:World) (A:Option Addr) (n:Nat) (xs:List Int):Prop:=Sl w 1 eU A n xs
abbrev Row1 (w:World) (e:TypeId) {α:Type} (c:α→Value) (A:Option Addr) (N C:Nat) (xs:List α):Prop:=Own w e 1 (fun x=>[c x]) A N C xs
abbrev gq (w:World) (e:TypeId) (A:Option Addr) (N C:Nat) (xs:List Int):Prop:=Own w e 1 eU A N C xs
section
variable {w w':World} {e:TypeId} {α:Type} {c:α→Value} {A:Option Addr} {N C n:Nat} {xs:List α}
theorem Sl.dQ {xs:List Int} (h:IL w A n xs) {i:Nat} {x:Int} (hi:xs[i]?=some x):∃ b off,A=some ⟨b,off,none⟩∧b<w.heap.size∧w.cell? ⟨b,off+i,none⟩=some (.int .i64 x):=by
 obtain⟨b,off,h1,h2,h3⟩:=h.get i x hi;refine⟨b,off,h1,h2,?_⟩
 have:=h3 0 (by omega)
 simpa [eU] using this
theorem Sl.same {m:Nat} {f:α→List Value} (h:Sl w m f A n xs) (hs:Same w w'):Sl w' m f A n xs:=h.later (hs.AA (Nat.le_refl _) (fun _ _=>id))
theorem Own.sl {m:Nat} {f:α→List Value} (hf:∀ x,(f x).length=m) (h:Own w e m f A N C xs):Sl w m f A N xs :=
 ⟨h.len,fun i x hi=>by
  obtain⟨sb,rfl,h1,h2⟩:=h.get hf hi
  exact⟨sb,0,rfl,h1,fun j hj=>by rw[Nat.zero_add];exact h2 j hj⟩⟩
theorem Own.il {xs:List Int} (h:gq w e A N C xs):IL w A N xs:=h.sl fu
theorem Own.dQ (h:Row1 w e c A N C xs) {i:Nat} {x:α} (hi:xs[i]?=some x):∃ sb,A=some ⟨sb,0,none⟩∧sb<w.heap.size∧w.cell? ⟨sb,i,none⟩=some (c x):=by
 obtain⟨sb,h1,h2,h3⟩:=Own.get (m:=1) (f:=fun x=>[c x]) (fun _=>rfl) h hi;refine⟨sb,h1,h2,?_⟩
 have:=h3 0 (by omega)
 simpa using this
theorem Own.l5 {sb:Nat} (h:Row1 w e c (some ⟨sb,0,none⟩) N C xs) {i:Nat} (hi:i<xs.length) (x':α):Row1 (w.setCell ⟨sb,i,none⟩ (c x')) e c (some ⟨sb,0,none⟩) N C (xs.set i x'):=by
 have:=Own.store (m:=1) (f:=fun x=>[c x]) (fun _=>rfl) h i 0 (xs[i]) x' (c x') (List.getElem?_eq_getElem hi) (by omega) rfl
 simpa using this
theorem Own.Vz (h:Row1 w e c A N C xs) (hN:0<xs.length):∃ sb,A=some ⟨sb,0,none⟩∧sb<w.heap.size:=h.form (by have:=h.len;omega)
theorem Own.mh (w:World) (e:TypeId) {m:Nat} (f:α→List Value) (hf:∀ x,(f x).length=m) (hm:0<m) (x:α) (n:Nat) (hmax:n≤maxLen) {cs:Array Value} (hcs:cs=madeCells (f x).toArray (n*m)) :
  Own (w.alloc (.cells cs e)) e m f (some ⟨w.heap.size,0,none⟩) n n (List.replicate n x):=by
 subst hcs;rw[Ho f m hf hm];refine⟨by simp,by rw[bg f m hf];simp,.inr ⟨w.heap.size,n,_,rfl,Nat.zero_le _,heap_alloc_new w _,Nat.le_refl _,hmax,?_,?_⟩⟩
 ·rw[List.size_toArray,bg f m hf,List.length_replicate]
 ·rw[List.toList_toArray];apply List.take_of_length_le;rw[bg f m hf,List.length_replicate];exact Nat.le_refl _
theorem Own.lit (w:World) (e:TypeId) {m:Nat} (f:α→List Value) (hf:∀ x,(f x).length=m) (xs:List α) (hmax:xs.length≤maxLen) {cs:Array Value} (hcs:cs=(xs.flatMap f).toArray) :
  Own (w.alloc (.cells cs e)) e m f (some ⟨w.heap.size,0,none⟩) xs.length xs.length xs:=by
 subst hcs;refine⟨rfl,bg f m hf xs,.inr ⟨w.heap.size,xs.length,_,rfl,Nat.zero_le _,heap_alloc_new w _,Nat.le_refl _,hmax,?_,?_⟩⟩
 ·rw[List.size_toArray,bg f m hf]
 ·rw[List.toList_toArray];apply List.take_of_length_le;rw[bg f m hf];exact Nat.le_refl _
def bQ (B:Nat) (A:Option Addr):Prop:=∀ b,rowOf A b→B≤b
theorem aS (B:Nat):bQ B none:=by rintro b ⟨a,h,_⟩;cases h
theorem bR {B b off:Nat} (h:B≤b):bQ B (some ⟨b,off,none⟩):=by rintro b' ⟨a,ha,rfl⟩;injection ha with ha;subst ha;exact h
end
theorem Own.pop {w:World} {e:TypeId} {m:Nat} {α:Type} {f:α→List Value} {A:Option Addr} {N C:Nat} {xs:List α} {x:α} (hf:∀ x,(f x).length=m) (h:Own w e m f A N C (xs++[x])):Own w e m f A xs.length C xs:=by
 have hl:=h.len;simp at hl;refine⟨rfl,bg f m hf xs,?_⟩;rcases h.own.2 with⟨_,h0⟩ | ⟨g,cap,cur,h1,h0,h2,h3,h4,h5,h6⟩
 ·omega
 ·injection h1 with hA _ hC
  subst hA hC;refine .inr ⟨g,_,cur,rfl,h0,h2,by omega,h4,h5,?_⟩;have h7:=congrArg (List.take (xs.length*m)) h6;rw[List.take_take,hl,Nat.min_eq_left (Nat.mul_le_mul_right m (by omega)),List.flatMap_append,List.take_append_of_le_length (by rw[bg f m hf];exact Nat.le_refl _)] at h7;rw[h7];exact List.take_of_length_le (by rw[bg f m hf];exact Nat.le_refl _)
theorem Own.VA {w:World} {e:TypeId} {α:Type} {c:α→Value} {A:Option Addr} {N C:Nat} {xs:List α} {x:α} (h:Row1 w e c A N C (xs++[x])):Row1 w e c A xs.length C xs :=
 Own.pop (m:=1) (f:=fun x=>[c x]) (fun _=>rfl) h
theorem Own.aL {w:World} {e e':TypeId} {m m':Nat} {α β:Type} {f:α→List Value} {f':β→List Value} {A A':Option Addr} {N C N' C':Nat} {xs:List α} {ys:List β} (h:Own w e m f A N C xs) (h':Own w e' m' f' A' N' C' ys) (hne:e≠e') :
  ∀ b,rowOf A b→¬ rowOf A' b:=by
 rintro b ⟨a,ha,hb⟩ ⟨a',ha',hb'⟩;subst ha ha';rcases h.own.2 with⟨h0,_⟩ | ⟨g,cap,cur,h1,_,h2,_⟩
 ·cases h0
 ·rcases h'.own.2 with⟨h0,_⟩ | ⟨g',cap',cur',h1',_,h2',_⟩
  ·cases h0
  ·injection h1 with hA _ _
   injection hA with hA
   injection h1' with hA' _ _
   injection hA' with hA'
   subst hA hA';simp only at hb hb';subst hb hb';exact hne (ax.inj (show ax w g' e cur from h2) (show ax w g' e' cur' from h2')).1
end Go.Tk
namespace Go.Tk
open Go.RowKit
theorem sZ {P:Program} {w:World} {t ty e:TypeId} {m:Nat} {α:Type} {f:α→List Value} {A:Option Addr} {N C:Nat} {xs:List α} (ht:P.underlying t=some (.slice e))
  {z:Value} {bytes:Nat} (hinfo:(P.info? e).map (fun i=>(i.zero,i.size,i.bytes))=some (some z,m,bytes)) (h:Own w e m f A N C xs) (ao:Option Addr) (c:Nat) :
  (Builtin.append_ #[t,t] ty #[.slice A N C,.slice ao 0 c]).run P w=.ok (.slice A N C) w:=by
 obtain⟨i,hi,hz,hsz,hby⟩:=info_parts hinfo;obtain rfl:=h.len;rcases h.own.2 with⟨h1,h2⟩ | ⟨g,cap,cur,h1,_,_,hnc,_⟩
 ·simp only[Value.slice.injEq] at h1;obtain⟨rfl,h0,rfl⟩:=h1;rw[h0];cases ao <;> simp[Builtin.append_,run_underlying ht,sizeOf,typeInfo,hi,Builtin.lenOf,Builtin.firstCells,loadCells,loadCellsFrom]
 ·cases h1;cases ao <;> simp[Builtin.append_,run_underlying ht,sizeOf,typeInfo,hi,Builtin.lenOf,Builtin.firstCells,hnc,storeCells,loadCells,loadCellsFrom]
theorem Own.bT {P:Program} {o:Oper} {a:Act} {w:World} {K:Act→World→Prop} {Q:Exit→Act→World→Prop} {e:TypeId} {m:Nat} {α:Type} {f:α→List Value} {A:Option Addr} {N C:Nat} {xs:List α}
  (s x:Operand) (t:TypeId) (ho:o.op=.call { callee:=.builtin .append,args:=#[s,x],argTypes:=#[t,t] }) (ht:P.underlying t=some (.slice e))
  {z:Value} {bytes:Nat} (hinfo:(P.info? e).map (fun i=>(i.zero,i.size,i.bytes))=some (some z,m,bytes)) (hzs:z.cells.size=m) (hm:0<m)
  (hs:a.eval s=.slice A N C) (h:Own w e m f A N C xs) (hf:∀ x,(f x).length=m) (ys:List α) (ao:Option Addr) (cx:Nat) (hx:a.eval x=.slice ao ys.length cx)
  (hne:ys≠[]→∃ ad,ao=some ad∧∀ j u,(ys.flatMap f)[j]?=some u→w.cell? (ad.add j)=some u)
  (h1:∀ y∈ys,∀ u∈f y,u.oneCell'=true) (h63:xs.length+ys.length≤maxLen) (hb:(xs.length+ys.length)*bytes≤140737488355328)
  (hK:∀ A' C' w',Own w' e m f A' (xs++ys).length C' (xs++ys)→w.grownBy w' (Value.slice A N C).ownBlock→(∀ b,rowOf A' b→rowOf A b∨b=w.heap.size)→K (a.put o.dst (.slice A' (xs++ys).length C')) w') :
  o.wp P a w K Q:=by
 obtain⟨i,hi,hz,hsz,hby⟩:=info_parts hinfo;obtain rfl:=h.len;cases ys with
 | nil =>
  have hr:=sZ (P:=P) (ty:=o.type) ht hinfo h ao cx;have hx':a.eval x=.slice ao 0 cx:=hx;unfold Oper.wp execOp;simp only[ho,resolve,invoke,builtin,Sem.run_bind,Sem.run_pure,Result.andThen_ok,List.map_toArray,List.map_cons,List.map_nil,hs,hx',hr];have hk:K (a.put o.dst (.slice A xs.length C)) w:=by simpa using hK A C w (by simpa using h) (World.grownBy.refl _ _) (fun b hb=>.inl hb)
  exact hk
 | cons y ys =>
  obtain⟨ad,rfl,hc⟩:=hne (by simp);refine wp_append_lies w s x t ho 0 e i z m bytes ht hi hz hsz hby hzs hm _ _ _ hs h.own ad (y::ys).length cx ((y::ys).flatMap f) hx (bg f m hf _) hc (fun u hu=>?_) (by simp) h63 hb (Nat.zero_le _) w.heap.size rfl ?_
  ·obtain⟨y',hy',hu'⟩:=List.mem_flatMap.1 hu;exact h1 y' hy' u hu'
  ·intro g cap w' hown hg hat _;rw[← List.length_append] at hown ⊢;refine hK _ _ w' ⟨rfl,?_⟩ hg ?_
   ·simpa using hown
   ·rintro b ⟨a',ha,rfl⟩;injection ha with ha
    subst ha;rcases hat with h | h
    ·exact .inl (af.1 h)
    ·exact .inr h
end Go.Tk
namespace Go.Tk
open Go.RowKit
theorem Own.cap {w:World} {e:TypeId} {m:Nat} {α:Type} {f:α→List Value} {A:Option Addr} {N C:Nat} {xs:List α} (h:Own w e m f A N C xs):N≤C:=by
 rcases h.own.2 with⟨h1,h2⟩ | ⟨g,cap,cur,h1,_,_,hnc,_⟩
 ·cases h1;omega
 ·cases h1;exact hnc
theorem uH {w:World} {sb m:Nat} {α:Type} {f:α→List Value} (hf:∀ x,(f x).length=m) (hm:0<m) {xs:List α} (hc:∀ (i:Nat) (x:α),xs[i]?=some x→∀ j,j<m→w.cell? ⟨sb,i*m+j,none⟩=(f x)[j]?) (o:Nat) (ys:List α) (hy:∀ i x,ys[i]?=some x→xs[o+i]?=some x) :
  ∀ j u,(ys.flatMap f)[j]?=some u→w.cell? ((⟨sb,o*m,none⟩:Addr).add j)=some u:=by
 intro j u hj;have hj':=hj;rw[show j=j / m*m+j%m from by rw[Nat.mul_comm];exact(Nat.div_add_mod j m).symm,flat_get f m hf _ _ _ (Nat.mod_lt _ hm)] at hj';cases hx:ys[j / m]? with
 | none=>rw[hx] at hj';cases hj'
 | some x =>
  rw[hx] at hj';have h2:=hc (o+j / m) x (hy _ _ hx) (j%m) (Nat.mod_lt _ hm);have hadd:(⟨sb,o*m,none⟩:Addr).add j=⟨sb,(o+j / m)*m+j%m,none⟩:=by
   have:(o+j / m)*m+j%m=o*m+j:=by
    have:=Nat.div_add_mod j m
    rw[Nat.add_mul,Nat.mul_comm (j / m)];omega
   rw[this];unfold Addr.add;split <;> simp_all
  rw[hadd,h2];exact hj'
end Go.Tk
namespace Go.Tk
open Go.RowKit
section
variable {P:Program} {ops:Array Oper} {C:World→Prop} {Q:Exit→Act→World→Prop}
theorem iC:∀ (l rest:List Oper) (a:Act) (w:World),C w→wpQuiet P ops C (fun a'=>∀ w',C w'→wpList P ops Q rest a' w') l a→wpList P ops Q (l++rest) a w
 | [],_,_,w,hC,h=>h w hC
 | o::l,rest,a,w,hC,h=>by
  simp only[wpQuiet] at h;simp only[List.cons_append,wpList];split
  ·rename_i hw;rw[if_pos hw] at h;obtain⟨v,hv,hK⟩:=h;left;have h3:=hv w hC;unfold Oper.quietAt at h3;unfold Oper.wp;generalize (execOp a.eval o).run P w=res at h3 ⊢;cases res with
   | ok nx w' =>
    cases nx <;> simp only[Oper.quietUpon] at h3 <;> simp only[Oper.upon]
    case value u =>
     obtain⟨rfl,rfl⟩:=h3;exact iC l rest _ _ hC hK
    case skip =>
     obtain⟨rfl,rfl⟩:=h3;exact iC l rest _ _ hC hK
    case enter f args =>
     obtain⟨rfl,h4⟩:=h3;refine h4.mono fun e w'' he=>?_
     obtain⟨rfl,hC'⟩:=he;exact iC l rest _ _ hC' hK
   | halt x w'=>simp only[Oper.quietUpon] at h3
  ·rename_i hw;rw[if_neg hw] at h;exact iC l rest _ _ hC h
end
theorem jW {P:Program} {ops:Array Oper} {Q:Exit→Act→World→Prop} {l:List Oper} {a:Act} {w:World} (n:Nat)
  (h:wpQuiet P ops (fun w'=>w'=w) (fun a'=>wpList P ops Q (l.drop n) a' w) (l.take n) a):wpList P ops Q l a w:=by
 have:=iC (C:=fun w'=>w'=w) (Q:=Q) (P:=P) (ops:=ops) (l.take n) (l.drop n) a w rfl (by
  have mono:∀ (l:List Oper) (a:Act) (K K':Act→Prop),(∀ a,K a→K' a)→wpQuiet P ops (fun w'=>w'=w) K l a→wpQuiet P ops (fun w'=>w'=w) K' l a:=by
   intro l
   induction l with
   | nil=>intro a K K' hk h;exact hk _ h
   | cons o l ih =>
    intro a K K' hk h;simp only[wpQuiet] at h ⊢;split
    ·rename_i hw;rw[if_pos hw] at h;exact Oper.quiet_mono (fun a h=>ih a K K' hk h) h
    ·rename_i hw;rw[if_neg hw] at h;exact ih _ K K' hk h
  exact mono _ _ _ _ (fun a h w' hw'=>hw' ▸ h) h)
 rwa [List.take_append_drop] at this
theorem aV {P:Program} {Q:Exit→Act→World→Prop} {id:Nat} {l:List Oper} {a:Act} {w:World} (n:Nat)
  (h:wpQuiet P l.toArray (fun w'=>w'=w) (fun a'=>wpList P l.toArray Q (l.drop n) a' w) (l.take n) a):(Code.region id l.toArray false).wp P Q a w :=
 wp_region_lit (jW n h)
end Go.Tk
namespace Go.Tk
open Go.RowKit Go.Sort
section
variable {P:Program} {ops:Array Oper} {md:Region.Mode} {C:World→Prop} {Q:Exit→Act→World→Prop}
def cB (P:Program) (ops:Array Oper) (C:World→Prop) (o:Oper) (a:Act) (w:World) (K:Act→World→Prop):Prop :=
 if Region.wanted o (yielded ops a.tmps) then o.wp P a w (fun a' w'=>C w'∧K a' w') (fun _ _ _=>False) else K (a.put o.dst undef) w
def cK (P:Program) (ops:Array Oper) (C:World→Prop) (Q:Exit→Act→World→Prop):List (List Nat×Nat)→Act→World→Prop
 | [],a,w=>Q .normal a w
 | [(is,e)],a,w=>wpQuiet P ops C (fun a'=>wpList P ops Q (pick ops.toList [e]) a' w) (pick ops.toList is) a
 | (is,e)::x::r,a,w=>wpQuiet P ops C (fun a'=>cB P ops C (ops.toList.getD e default) a' w (cK P ops C Q (x::r))) (pick ops.toList is) a
def DL (ops:Array Oper) (i:Nat):Bool:=match ops[i]? with | some o=>calm o.op | none=>false
def Kr (md:Region.Mode) (ops:Array Oper) (n:Nat) (K:Array Bool→Bool):List Nat→Array Bool→Bool
 | [],listed=>K listed
 | i::r,listed=>decide (i<n)&&DL ops i&&(Region.ready md ops listed).contains i&&Region.free md ops listed i&&Kr md ops n K r (listed.setIfInBounds i true)
def Rz (md:Region.Mode) (ops:Array Oper) (n:Nat):List (List Nat×Nat)→Array Bool→Bool
 | [],_=>false
 | [(is,e)],listed=>Kr md ops n (fun listed=>decide (Region.ready md ops listed=[e])&&decide (e=n)&&decide (Region.ready md ops (listed.setIfInBounds e true)=[])) is listed
 | (is,e)::x::r,listed=>Kr md ops n (fun listed=>decide (Region.ready md ops listed=[e])&&decide (e<n)&&Rz md ops n (x::r) (listed.setIfInBounds e true)) is listed
def xZ:List (List Nat×Nat)→Nat
 | []=>0
 | (is,_)::r=>is.length+(1+xZ r)
theorem jr {n g:Nat} {B:Array Bool→Bool} {w:World} {L:Act→Prop} (hsel:Region.noSelect ops=true) (hs:Region.sinkB md ops n=true) (hc:Region.chainB md ops n=true) (hn1:n+1=ops.size) (hC:C w)
  (hL:∀ listed a,B listed=true→HeadInv md ops n listed→L a→fB P md ops C Q n g listed a w) :
  ∀ (is:List Nat) (listed:Array Bool) (a:Act),Kr md ops n B is listed=true→HeadInv md ops n listed→wpQuiet P ops C L (pick ops.toList is) a→fB P md ops C Q n (is.length+g) listed a w
 | [],listed,a,hB,inv,h=>by
  rw[List.length_nil,Nat.zero_add];exact hL listed a hB inv h
 | i::r,listed,a,hB,inv,h=>by
  simp only[Kr,Bool.and_eq_true,decide_eq_true_eq] at hB;obtain⟨⟨⟨⟨hin,hcalm⟩,hr⟩,hf⟩,hB'⟩:=hB;have hel:i<ops.size:=by omega
  have ho:ops[i]?=some ops[i]:=Array.getElem?_eq_getElem hel;simp only[DL,ho] at hcalm;have hr':i∈Region.ready md ops listed:=by simpa using hr
  have hp:pick ops.toList (i::r)=ops[i]::pick ops.toList r:=by simp[pick,ho]
  rw[hp] at h;rw[List.length_cons,show r.length+1+g=(r.length+g)+1 by omega];simp only[wpQuiet] at h;split at h
  ·rename_i hw;obtain⟨v,hv,hK⟩:=h;refine jc ho (Region.noSelect_spec hsel) hs hc (by omega) hn1 hin _ listed a w inv (Region.free_spec ho hf) hr' hC (v:=v) ?_ (jr hsel hs hc hn1 hC hL r _ _ hB' (inv.set hr' hin) hK);refine .inl ⟨hw,fun w hw'=>?_⟩;have h3:=hv w hw';unfold Oper.quietAt at h3;have hne:=fun w' f args=>oL (P:=P) (ev:=a.eval) (w:=w) (w':=w') (f:=f) (args:=args) hcalm
   generalize (execOp a.eval ops[i]).run P w=res at h3 hne ⊢;cases res with
   | ok nx w' =>
    cases nx <;> simp only[Oper.quietUpon] at h3
    case value u=>obtain⟨rfl,rfl⟩:=h3;exact .inl rfl
    case skip=>obtain⟨rfl,rfl⟩:=h3;exact .inr ⟨rfl,rfl⟩
    case enter f args=>exact absurd rfl (hne w' f args)
   | halt x w'=>simp only[Oper.quietUpon] at h3
  ·rename_i hw;exact jc ho (Region.noSelect_spec hsel) hs hc (by omega) hn1 hin _ listed a w inv (Region.free_spec ho hf) hr' hC (v:=undef) (.inr ⟨by simpa using hw,rfl⟩) (jr hsel hs hc hn1 hC hL r _ _ hB' (inv.set hr' hin) h)
theorem qK {n:Nat} (hsel:Region.noSelect ops=true) (hs:Region.sinkB md ops n=true) (hc:Region.chainB md ops n=true) (hn1:n+1=ops.size) :
  ∀ (ph:List (List Nat×Nat)) (listed:Array Bool) (a:Act) (w:World),Rz md ops n ph listed=true→HeadInv md ops n listed→C w→cK P ops C Q ph a w→fB P md ops C Q n (xZ ph) listed a w
 | [],_,_,_,h,_,_,_=>by simp[Rz] at h
 | [(is,e)],listed,a,w,h,inv,hC,hw=>by
  simp only[Rz] at h;simp only[cK] at hw;refine jr hsel hs hc hn1 hC (g:=1+xZ []) (fun listed a hB inv hw=>?_) is listed a h inv hw;simp only[Bool.and_eq_true,decide_eq_true_eq] at hB;have hel:e<ops.size:=by omega
  have ho:ops[e]?=some ops[e]:=Array.getElem?_eq_getElem hel;refine⟨fun h0=>(by rw[hB.1.1] at h0;cases h0),fun i hi=>?_⟩;rw[hB.1.1] at hi;obtain rfl:i=e:=by simpa using hi
  have hp:pick ops.toList [i]=[ops[i]]:=by simp[pick,ho]
  rw[hp] at hw;simp only[wpList] at hw;unfold opC;rw[if_neg (by omega)];unfold wpOp;simp only[ho];split at hw
  ·rename_i hwt;rw[if_pos hwt];rcases hw with hw | hw
   ·exact .inl (Oper.jC (fun a' w' hq=>⟨hB.2,hq⟩) (fun _ _ _ h=>h) hw)
   ·exact .inr hw
  ·rename_i hwt;rw[if_neg hwt];exact⟨hB.2,hw⟩
 | (is,e)::x::r,listed,a,w,h,inv,hC,hw=>by
  simp only[Rz] at h;simp only[cK] at hw;refine jr hsel hs hc hn1 hC (g:=1+xZ (x::r)) (fun listed a hB inv hw=>?_) is listed a h inv hw;simp only[Bool.and_eq_true,decide_eq_true_eq] at hB;have hel:e<ops.size:=by omega
  have ho:ops[e]?=some ops[e]:=Array.getElem?_eq_getElem hel;have hre:e∈Region.ready md ops listed:=by rw[hB.1.1];simp
  rw[Nat.add_comm 1];refine⟨fun h0=>(by rw[hB.1.1] at h0;cases h0),fun i hi=>?_⟩;rw[hB.1.1] at hi;obtain rfl:i=e:=by simpa using hi
  have hg:ops.toList.getD i default=ops[i]:=by simp[ho]
  rw[hg] at hw;unfold cB at hw;unfold opC;rw[if_pos hB.1.2];simp only[ho];split at hw
  ·rename_i hwt;rw[if_pos hwt];exact Oper.jC (fun a' w' hq=>⟨hq.1,qK hsel hs hc hn1 (x::r) _ _ _ hB.2 (inv.set hre hB.1.2) hq.1 hq.2⟩) (fun _ _ _ h=>h) hw
  ·rename_i hwt;rw[if_neg hwt];exact qK hsel hs hc hn1 (x::r) _ _ _ hB.2 (inv.set hre hB.1.2) hC hw
theorem VB {id:Nat} {a:Act} {w:World} {l:List Oper} (C:World→Prop) (ph:List (List Nat×Nat)) (hm:P.follows .mixedOrders=true)
  (hB:(Region.noSelect l.toArray&&Region.sinkB .any l.toArray (l.length-1)&&Region.chainB .any l.toArray (l.length-1)&&decide (0<l.length)&&decide (xZ ph=l.length)&&
   Rz .any l.toArray (l.length-1) ph (Array.replicate l.length false))=true)
  (hC:C w.drew) (h:cK P l.toArray C Q ph a w.drew):(Code.region id l.toArray true).wp P Q a w:=by
 simp only[Bool.and_eq_true,decide_eq_true_eq] at hB;obtain⟨⟨⟨⟨⟨hsel,hs⟩,hc⟩,hl0⟩,hlen⟩,RD⟩:=hB;have inv0:HeadInv .any l.toArray (l.length-1) (Array.replicate l.length false) :=
  ⟨by simp,fun j oj _ hl=>(by rw[getD_replicate_false] at hl;cases hl),fun t _ ht=>getD_in (by simpa using ht) (getD_replicate_false _ _)⟩
 have H:=qK (P:=P) (md:=.any) (ops:=l.toArray) (C:=C) (Q:=Q) hsel hs hc (by simp <;> omega) ph _ a w.drew RD inv0 hC h;refine wp_region_any hm ?_
 have:=fe _ _ _ _ H
 rw[hlen] at this;simpa using this
theorem aa {o:Oper} {a:Act} {w:World} {K:Act→World→Prop} (hg:o.guard=none)
  (h:∀ K':Act→World→Prop,(∀ a w,C w→K a w→K' a w)→o.wp P a w K' (fun _ _ _=>False)):cB P ops C o a w K:=by
 have h1:=h (fun a w=>C w∧K a w) (fun a w hc hw=>⟨hc,hw⟩);unfold cB;rw[if_pos (by simp[Region.wanted,hg])];exact h1
end
theorem aJ {P:Program} {Q:Exit→Act→World→Prop} {id:Nat} {a:Act} {w:World} {l:List Oper} (S:Nat→Prop) (ph:List (List Nat×Nat)) (hm:P.follows .mixedOrders=true)
  (hB:(Region.noSelect l.toArray&&Region.sinkB .any l.toArray (l.length-1)&&Region.chainB .any l.toArray (l.length-1)&&decide (0<l.length)&&decide (xZ ph=l.length)&&
   Rz .any l.toArray (l.length-1) ph (Array.replicate l.length false))=true)
  (h:cK P l.toArray (fun w'=>∃ p:aZ S w,w'=FD p) Q ph a w.drew):(Code.region id l.toArray true).wp P Q a w :=
 VB (fun w'=>∃ p:aZ S w,w'=FD p) ph hm hB (aZ.bu (ah.drew (ah.refl S w))) h
inductive PT where
 | last (e:Nat)
 | q (is:List Nat) (t:PT)
 | step (e:Nat) (t:PT)
 | fork (i:Nat) (t:PT) (j:Nat) (u:PT)
def mo:PT→Nat
 | .last _=>1
 | .q is t=>is.length+mo t
 | .step _ t=>1+mo t
 | .fork _ t _ _=>1+mo t
section
variable {P:Program} {ops:Array Oper} {md:Region.Mode} {C:World→Prop} {Q:Exit→Act→World→Prop}
def Dk (P:Program) (ops:Array Oper) (C:World→Prop) (Q:Exit→Act→World→Prop):PT→Act→World→Prop
 | .last e,a,w=>wpList P ops Q (pick ops.toList [e]) a w
 | .q is t,a,w=>wpQuiet P ops C (fun a'=>Dk P ops C Q t a' w) (pick ops.toList is) a
 | .step e t,a,w=>cB P ops C (ops.toList.getD e default) a w (Dk P ops C Q t)
 | .fork i t j u,a,w=>cB P ops C (ops.toList.getD i default) a w (Dk P ops C Q t)∧cB P ops C (ops.toList.getD j default) a w (Dk P ops C Q u)
def Kt (md:Region.Mode) (ops:Array Oper) (n:Nat):PT→Array Bool→Bool
 | .last e,listed=>decide (Region.ready md ops listed=[e])&&decide (e=n)&&decide (Region.ready md ops (listed.setIfInBounds e true)=[])
 | .q is t,listed=>Kr md ops n (Kt md ops n t) is listed
 | .step e t,listed=>decide (Region.ready md ops listed=[e])&&decide (e<n)&&Kt md ops n t (listed.setIfInBounds e true)
 | .fork i t j u,listed=>decide (Region.ready md ops listed=[i,j])&&decide (i<n)&&decide (j<n)&&decide (mo t=mo u)&&Kt md ops n t (listed.setIfInBounds i true)&&Kt md ops n u (listed.setIfInBounds j true)
theorem tO {n e:Nat} {a:Act} {w:World} {K:Act→World→Prop} {K':Act→World→Prop} (he:e<n) (hel:e<ops.size) (hC:C w) (hw:cB P ops C (ops.toList.getD e default) a w K)
  (hK:∀ a w,C w→K a w→K' a w):opC P ops C Q n e K' a w:=by
 have ho:ops[e]?=some ops[e]:=Array.getElem?_eq_getElem hel;have hg:ops.toList.getD e default=ops[e]:=by simp[ho]
 rw[hg] at hw;unfold cB at hw;unfold opC;rw[if_pos he];simp only[ho];split at hw
 ·rename_i hwt;rw[if_pos hwt];exact Oper.jC (fun a' w' hq=>⟨hq.1,hK _ _ hq.1 hq.2⟩) (fun _ _ _ h=>h) hw
 ·rename_i hwt;rw[if_neg hwt];exact hK _ _ hC hw
theorem kE {n:Nat} (hsel:Region.noSelect ops=true) (hs:Region.sinkB md ops n=true) (hc:Region.chainB md ops n=true) (hn1:n+1=ops.size) :
  ∀ (t:PT) (listed:Array Bool) (a:Act) (w:World),Kt md ops n t listed=true→HeadInv md ops n listed→C w→Dk P ops C Q t a w→fB P md ops C Q n (mo t) listed a w
 | .last e,listed,a,w,hB,inv,hC,hw=>by
  simp only[Kt] at hB;simp only[Dk] at hw;simp only[Bool.and_eq_true,decide_eq_true_eq] at hB;have hel:e<ops.size:=by omega
  have ho:ops[e]?=some ops[e]:=Array.getElem?_eq_getElem hel;refine⟨fun h0=>(by rw[hB.1.1] at h0;cases h0),fun i hi=>?_⟩;rw[hB.1.1] at hi;obtain rfl:i=e:=by simpa using hi
  have hp:pick ops.toList [i]=[ops[i]]:=by simp[pick,ho]
  rw[hp] at hw;simp only[wpList] at hw;unfold opC;rw[if_neg (by omega)];unfold wpOp;simp only[ho];split at hw
  ·rename_i hwt;rw[if_pos hwt];rcases hw with hw | hw
   ·exact .inl (Oper.jC (fun a' w' hq=>⟨hB.2,hq⟩) (fun _ _ _ h=>h) hw)
   ·exact .inr hw
  ·rename_i hwt;rw[if_neg hwt];exact⟨hB.2,hw⟩
 | .q is t,listed,a,w,hB,inv,hC,hw=>by
  simp only[Kt] at hB;simp only[Dk] at hw;exact jr hsel hs hc hn1 hC (g:=mo t) (fun listed a hB inv hw=>kE hsel hs hc hn1 t listed a w hB inv hC hw) is listed a hB inv hw
 | .step e t,listed,a,w,hB,inv,hC,hw=>by
  simp only[Kt,Bool.and_eq_true,decide_eq_true_eq] at hB;simp only[Dk] at hw;have hel:e<ops.size:=by omega
  have hre:e∈Region.ready md ops listed:=by rw[hB.1.1];simp
  rw[mo,Nat.add_comm 1];refine⟨fun h0=>(by rw[hB.1.1] at h0;cases h0),fun i hi=>?_⟩;rw[hB.1.1] at hi;obtain rfl:i=e:=by simpa using hi
  exact tO hB.1.2 hel hC hw (fun a w hC hw=>kE hsel hs hc hn1 t _ a w hB.2 (inv.set hre hB.1.2) hC hw)
 | .fork i t j u,listed,a,w,hB,inv,hC,hw=>by
  simp only[Kt,Bool.and_eq_true,decide_eq_true_eq] at hB;simp only[Dk] at hw;obtain⟨⟨⟨⟨⟨hr,hi⟩,hj⟩,hl⟩,RF⟩,hBu⟩:=hB;rw[mo,Nat.add_comm 1];refine⟨fun h0=>(by rw[hr] at h0;cases h0),fun k hk=>?_⟩;have hk':=hk;rw[hr] at hk';simp only[List.mem_cons,List.not_mem_nil,or_false] at hk';rcases hk' with rfl | rfl
  ·exact tO hi (by omega) hC hw.1 (fun a w hC hw=>kE hsel hs hc hn1 t _ a w RF (inv.set hk hi) hC hw)
  ·exact tO hj (by omega) hC hw.2 (fun a w hC hw=>by rw[hl];exact kE hsel hs hc hn1 u _ a w hBu (inv.set hk hj) hC hw)
theorem aad {id:Nat} {a:Act} {w:World} {l:List Oper} (C:World→Prop) (t:PT) (hm:P.follows .mixedOrders=true)
  (hB:(Region.noSelect l.toArray&&Region.sinkB .any l.toArray (l.length-1)&&Region.chainB .any l.toArray (l.length-1)&&decide (0<l.length)&&decide (mo t=l.length)&&
   Kt .any l.toArray (l.length-1) t (Array.replicate l.length false))=true)
  (hC:C w.drew) (h:Dk P l.toArray C Q t a w.drew):(Code.region id l.toArray true).wp P Q a w:=by
 simp only[Bool.and_eq_true,decide_eq_true_eq] at hB;obtain⟨⟨⟨⟨⟨hsel,hs⟩,hc⟩,hl0⟩,hlen⟩,RD⟩:=hB;have inv0:HeadInv .any l.toArray (l.length-1) (Array.replicate l.length false) :=
  ⟨by simp,fun j oj _ hl=>(by rw[getD_replicate_false] at hl;cases hl),fun t _ ht=>getD_in (by simpa using ht) (getD_replicate_false _ _)⟩
 have H:=kE (P:=P) (md:=.any) (ops:=l.toArray) (C:=C) (Q:=Q) hsel hs hc (by simp <;> omega) t _ a w.drew RD inv0 hC h;refine wp_region_any hm ?_
 have:=fe _ _ _ _ H
 rw[hlen] at this;simpa using this
end
theorem AP {P:Program} {Q:Exit→Act→World→Prop} {id:Nat} {a:Act} {w:World} {l:List Oper} (S:Nat→Prop) (t:PT) (hm:P.follows .mixedOrders=true)
  (hB:(Region.noSelect l.toArray&&Region.sinkB .any l.toArray (l.length-1)&&Region.chainB .any l.toArray (l.length-1)&&decide (0<l.length)&&decide (mo t=l.length)&&
   Kt .any l.toArray (l.length-1) t (Array.replicate l.length false))=true)
  (h:Dk P l.toArray (fun w'=>∃ p:aZ S w,w'=FD p) Q t a w.drew):(Code.region id l.toArray true).wp P Q a w :=
 aad (fun w'=>∃ p:aZ S w,w'=FD p) t hm hB (aZ.bu (ah.drew (ah.refl S w))) h
end Go.Tk
namespace Go.Proofs.YtiomgckodmecbaaGreat
open Go.Shelf
structure uI.n6 (P:Program) (ρ:Ren):Prop where
 mixed:P.follows .mixedOrders=true
 f6:Bears P (ρ.f 6) (SlBodyZ.n6 ρ)
 f8:Bears P (ρ.f 8) (SlBodyZ.n8 ρ)
 f11:Bears P (ρ.f 11) (SlBodyZ.n11 ρ)
 t0:P.underlying (ρ.t 0)=some (TypeDesc.tuple #[])
 a0:∀ w,(isAgg (ρ.t 0)).run P w=.ok false w
 z0:∀ w,(Go.sizeOf (ρ.t 0)).run P w=.ok 1 w
 v0:∀ w,(zeroValue (ρ.t 0)).run P w=.ok (Value.tuple #[]) w
 t24:P.underlying (ρ.t 24)=some (TypeDesc.slice (ρ.t 26))
 a24:∀ w,(isAgg (ρ.t 24)).run P w=.ok false w
 z24:∀ w,(Go.sizeOf (ρ.t 24)).run P w=.ok 1 w
 v24:∀ w,(zeroValue (ρ.t 24)).run P w=.ok (Value.slice none 0 0) w
 t26:P.underlying (ρ.t 26)=some (TypeDesc.int IntKind.u32)
 a26:∀ w,(isAgg (ρ.t 26)).run P w=.ok false w
 z26:∀ w,(Go.sizeOf (ρ.t 26)).run P w=.ok 1 w
 v26:∀ w,(zeroValue (ρ.t 26)).run P w=.ok (Value.int IntKind.u32 0) w
 t28:P.underlying (ρ.t 28)=some (TypeDesc.func #[ρ.t 33] #[] false)
 a28:∀ w,(isAgg (ρ.t 28)).run P w=.ok false w
 z28:∀ w,(Go.sizeOf (ρ.t 28)).run P w=.ok 1 w
 v28:∀ w,(zeroValue (ρ.t 28)).run P w=.ok (Value.nilFunc) w
 i26:(P.info? (ρ.t 26)).map (fun i=>(i.zero,i.size,i.bytes))=some (some (.int .u32 0),1,4)
structure uI.n8 (P:Program) (ρ:Ren):Prop where
 mixed:P.follows .mixedOrders=true
 f8:Bears P (ρ.f 8) (SlBodyZ.n8 ρ)
 f11:Bears P (ρ.f 11) (SlBodyZ.n11 ρ)
 t0:P.underlying (ρ.t 0)=some (TypeDesc.tuple #[])
 a0:∀ w,(isAgg (ρ.t 0)).run P w=.ok false w
 z0:∀ w,(Go.sizeOf (ρ.t 0)).run P w=.ok 1 w
 v0:∀ w,(zeroValue (ρ.t 0)).run P w=.ok (Value.tuple #[]) w
 t24:P.underlying (ρ.t 24)=some (TypeDesc.slice (ρ.t 26))
 a24:∀ w,(isAgg (ρ.t 24)).run P w=.ok false w
 z24:∀ w,(Go.sizeOf (ρ.t 24)).run P w=.ok 1 w
 v24:∀ w,(zeroValue (ρ.t 24)).run P w=.ok (Value.slice none 0 0) w
 t26:P.underlying (ρ.t 26)=some (TypeDesc.int IntKind.u32)
 a26:∀ w,(isAgg (ρ.t 26)).run P w=.ok false w
 z26:∀ w,(Go.sizeOf (ρ.t 26)).run P w=.ok 1 w
 v26:∀ w,(zeroValue (ρ.t 26)).run P w=.ok (Value.int IntKind.u32 0) w
 t28:P.underlying (ρ.t 28)=some (TypeDesc.func #[ρ.t 33] #[] false)
 a28:∀ w,(isAgg (ρ.t 28)).run P w=.ok false w
 z28:∀ w,(Go.sizeOf (ρ.t 28)).run P w=.ok 1 w
 v28:∀ w,(zeroValue (ρ.t 28)).run P w=.ok (Value.nilFunc) w
 i26:(P.info? (ρ.t 26)).map (fun i=>(i.zero,i.size,i.bytes))=some (some (.int .u32 0),1,4)
structure uI.n11 (P:Program) (ρ:Ren):Prop where
 mixed:P.follows .mixedOrders=true
 f11:Bears P (ρ.f 11) (SlBodyZ.n11 ρ)
 t0:P.underlying (ρ.t 0)=some (TypeDesc.tuple #[])
 a0:∀ w,(isAgg (ρ.t 0)).run P w=.ok false w
 z0:∀ w,(Go.sizeOf (ρ.t 0)).run P w=.ok 1 w
 v0:∀ w,(zeroValue (ρ.t 0)).run P w=.ok (Value.tuple #[]) w
 t24:P.underlying (ρ.t 24)=some (TypeDesc.slice (ρ.t 26))
 a24:∀ w,(isAgg (ρ.t 24)).run P w=.ok false w
 z24:∀ w,(Go.sizeOf (ρ.t 24)).run P w=.ok 1 w
 v24:∀ w,(zeroValue (ρ.t 24)).run P w=.ok (Value.slice none 0 0) w
 t26:P.underlying (ρ.t 26)=some (TypeDesc.int IntKind.u32)
 a26:∀ w,(isAgg (ρ.t 26)).run P w=.ok false w
 z26:∀ w,(Go.sizeOf (ρ.t 26)).run P w=.ok 1 w
 v26:∀ w,(zeroValue (ρ.t 26)).run P w=.ok (Value.int IntKind.u32 0) w
 t28:P.underlying (ρ.t 28)=some (TypeDesc.func #[ρ.t 33] #[] false)
 a28:∀ w,(isAgg (ρ.t 28)).run P w=.ok false w
 z28:∀ w,(Go.sizeOf (ρ.t 28)).run P w=.ok 1 w
 v28:∀ w,(zeroValue (ρ.t 28)).run P w=.ok (Value.nilFunc) w
 i26:(P.info? (ρ.t 26)).map (fun i=>(i.zero,i.size,i.bytes))=some (some (.int .u32 0),1,4)
end Go.Proofs.YtiomgckodmecbaaGreat
namespace Go.Proofs.YtiomgckodmecbaaGreat
open Go.Shelf
structure bf.n5 (P:Program) (ρ:Ren):Prop where
 mixed:P.follows .mixedOrders=true
 f5:Bears P (ρ.f 5) (SlBodyM.n5 ρ)
 f7:Bears P (ρ.f 7) (SlBodyM.n7 ρ)
 f8:P.funcs[ρ.f 8]?=some (SlBodyM.n8 ρ)
 f10:Bears P (ρ.f 10) (SlBodyM.n10 ρ)
 f11:Bears P (ρ.f 11) (SlBodyM.n11 ρ)
 f12:Bears P (ρ.f 12) (SlBodyM.n12 ρ)
 f13:Bears P (ρ.f 13) (SlBodyM.n13 ρ)
 f14:Bears P (ρ.f 14) (SlBodyM.n14 ρ)
 f15:Bears P (ρ.f 15) (SlBodyM.n15 ρ)
 f16:Bears P (ρ.f 16) (SlBodyM.n16 ρ)
 f17:Bears P (ρ.f 17) (SlBodyM.n17 ρ)
 f18:Bears P (ρ.f 18) (SlBodyM.n18 ρ)
 f19:P.funcs[ρ.f 19]?=some (SlBodyM.n19 ρ)
 f20:P.funcs[ρ.f 20]?=some (SlBodyM.n20 ρ)
 f30:Bears P (ρ.f 30) (SlBodyM.n30 ρ)
 f31:P.funcs[ρ.f 31]?=some (SlBodyM.n31 ρ)
 f32:P.funcs[ρ.f 32]?=some (SlBodyM.n32 ρ)
 f33:Bears P (ρ.f 33) (SlBodyM.n33 ρ)
 f34:Bears P (ρ.f 34) (SlBodyM.n34 ρ)
 f35:Bears P (ρ.f 35) (SlBodyM.n35 ρ)
 f40:Bears P (ρ.f 40) (SlBodyM.n40 ρ)
 t0:P.underlying (ρ.t 0)=some (TypeDesc.tuple #[])
 a0:∀ w,(isAgg (ρ.t 0)).run P w=.ok false w
 z0:∀ w,(Go.sizeOf (ρ.t 0)).run P w=.ok 1 w
 v0:∀ w,(zeroValue (ρ.t 0)).run P w=.ok (Value.tuple #[]) w
 t3:P.underlying (ρ.t 3)=some (TypeDesc.int IntKind.i64)
 a3:∀ w,(isAgg (ρ.t 3)).run P w=.ok false w
 z3:∀ w,(Go.sizeOf (ρ.t 3)).run P w=.ok 1 w
 v3:∀ w,(zeroValue (ρ.t 3)).run P w=.ok (Value.int IntKind.i64 0) w
 t4:P.underlying (ρ.t 4)=some (TypeDesc.bool)
 a4:∀ w,(isAgg (ρ.t 4)).run P w=.ok false w
 z4:∀ w,(Go.sizeOf (ρ.t 4)).run P w=.ok 1 w
 v4:∀ w,(zeroValue (ρ.t 4)).run P w=.ok (Value.bool false) w
 t5:P.underlying (ρ.t 5)=some (TypeDesc.int IntKind.u8)
 a5:∀ w,(isAgg (ρ.t 5)).run P w=.ok false w
 z5:∀ w,(Go.sizeOf (ρ.t 5)).run P w=.ok 1 w
 v5:∀ w,(zeroValue (ρ.t 5)).run P w=.ok (Value.int IntKind.u8 0) w
 t9:P.underlying (ρ.t 9)=some (TypeDesc.string)
 a9:∀ w,(isAgg (ρ.t 9)).run P w=.ok false w
 z9:∀ w,(Go.sizeOf (ρ.t 9)).run P w=.ok 1 w
 v9:∀ w,(zeroValue (ρ.t 9)).run P w=.ok (Value.string { data:=#[] }) w
 t22:P.underlying (ρ.t 22)=some (TypeDesc.slice (ρ.t 25))
 a22:∀ w,(isAgg (ρ.t 22)).run P w=.ok false w
 z22:∀ w,(Go.sizeOf (ρ.t 22)).run P w=.ok 1 w
 v22:∀ w,(zeroValue (ρ.t 22)).run P w=.ok (Value.slice none 0 0) w
 t23:P.underlying (ρ.t 23)=some (TypeDesc.slice (ρ.t 25))
 a23:∀ w,(isAgg (ρ.t 23)).run P w=.ok false w
 z23:∀ w,(Go.sizeOf (ρ.t 23)).run P w=.ok 1 w
 v23:∀ w,(zeroValue (ρ.t 23)).run P w=.ok (Value.slice none 0 0) w
 t25:P.underlying (ρ.t 25)=some (TypeDesc.int IntKind.u32)
 a25:∀ w,(isAgg (ρ.t 25)).run P w=.ok false w
 z25:∀ w,(Go.sizeOf (ρ.t 25)).run P w=.ok 1 w
 v25:∀ w,(zeroValue (ρ.t 25)).run P w=.ok (Value.int IntKind.u32 0) w
 t32:P.underlying (ρ.t 32)=some (TypeDesc.int IntKind.u64)
 a32:∀ w,(isAgg (ρ.t 32)).run P w=.ok false w
 z32:∀ w,(Go.sizeOf (ρ.t 32)).run P w=.ok 1 w
 v32:∀ w,(zeroValue (ρ.t 32)).run P w=.ok (Value.int IntKind.u64 0) w
 t35:P.underlying (ρ.t 35)=some (TypeDesc.int IntKind.i64)
 a35:∀ w,(isAgg (ρ.t 35)).run P w=.ok false w
 z35:∀ w,(Go.sizeOf (ρ.t 35)).run P w=.ok 1 w
 v35:∀ w,(zeroValue (ρ.t 35)).run P w=.ok (Value.int IntKind.i64 0) w
 t36:P.underlying (ρ.t 36)=some (TypeDesc.tuple #[ρ.t 3,ρ.t 35])
 a36:∀ w,(isAgg (ρ.t 36)).run P w=.ok false w
 z36:∀ w,(Go.sizeOf (ρ.t 36)).run P w=.ok 1 w
 v36:∀ w,(zeroValue (ρ.t 36)).run P w=.ok (Value.tuple #[Value.int IntKind.i64 0,Value.int IntKind.i64 0]) w
 t41:P.underlying (ρ.t 41)=some (TypeDesc.tuple #[ρ.t 3,ρ.t 4])
 a41:∀ w,(isAgg (ρ.t 41)).run P w=.ok false w
 z41:∀ w,(Go.sizeOf (ρ.t 41)).run P w=.ok 1 w
 v41:∀ w,(zeroValue (ρ.t 41)).run P w=.ok (Value.tuple #[Value.int IntKind.i64 0,Value.bool false]) w
 t44:P.underlying (ρ.t 44)=some (TypeDesc.int IntKind.u32)
 a44:∀ w,(isAgg (ρ.t 44)).run P w=.ok false w
 z44:∀ w,(Go.sizeOf (ρ.t 44)).run P w=.ok 1 w
 v44:∀ w,(zeroValue (ρ.t 44)).run P w=.ok (Value.int IntKind.u32 0) w
 t46:P.underlying (ρ.t 46)=some (TypeDesc.int IntKind.u64)
 a46:∀ w,(isAgg (ρ.t 46)).run P w=.ok false w
 z46:∀ w,(Go.sizeOf (ρ.t 46)).run P w=.ok 1 w
 v46:∀ w,(zeroValue (ρ.t 46)).run P w=.ok (Value.int IntKind.u64 0) w
 t53:P.underlying (ρ.t 53)=some (TypeDesc.int IntKind.u64)
 a53:∀ w,(isAgg (ρ.t 53)).run P w=.ok false w
 z53:∀ w,(Go.sizeOf (ρ.t 53)).run P w=.ok 1 w
 v53:∀ w,(zeroValue (ρ.t 53)).run P w=.ok (Value.int IntKind.u64 0) w
 t57:P.underlying (ρ.t 57)=some (TypeDesc.pointer (ρ.t 3))
 a57:∀ w,(isAgg (ρ.t 57)).run P w=.ok false w
 z57:∀ w,(Go.sizeOf (ρ.t 57)).run P w=.ok 1 w
 v57:∀ w,(zeroValue (ρ.t 57)).run P w=.ok (Value.pointer none) w
 t63:P.underlying (ρ.t 63)=some (TypeDesc.pointer (ρ.t 53))
 a63:∀ w,(isAgg (ρ.t 63)).run P w=.ok false w
 z63:∀ w,(Go.sizeOf (ρ.t 63)).run P w=.ok 1 w
 v63:∀ w,(zeroValue (ρ.t 63)).run P w=.ok (Value.pointer none) w
 t64:P.underlying (ρ.t 64)=some (TypeDesc.tuple #[ρ.t 3,ρ.t 3])
 a64:∀ w,(isAgg (ρ.t 64)).run P w=.ok false w
 z64:∀ w,(Go.sizeOf (ρ.t 64)).run P w=.ok 1 w
 v64:∀ w,(zeroValue (ρ.t 64)).run P w=.ok (Value.tuple #[Value.int IntKind.i64 0,Value.int IntKind.i64 0]) w
structure bf.n7 (P:Program) (ρ:Ren):Prop where
 mixed:P.follows .mixedOrders=true
 f7:Bears P (ρ.f 7) (SlBodyM.n7 ρ)
 f8:P.funcs[ρ.f 8]?=some (SlBodyM.n8 ρ)
 f10:Bears P (ρ.f 10) (SlBodyM.n10 ρ)
 f11:Bears P (ρ.f 11) (SlBodyM.n11 ρ)
 f12:Bears P (ρ.f 12) (SlBodyM.n12 ρ)
 f13:Bears P (ρ.f 13) (SlBodyM.n13 ρ)
 f14:Bears P (ρ.f 14) (SlBodyM.n14 ρ)
 f15:Bears P (ρ.f 15) (SlBodyM.n15 ρ)
 f16:Bears P (ρ.f 16) (SlBodyM.n16 ρ)
 f17:Bears P (ρ.f 17) (SlBodyM.n17 ρ)
 f18:Bears P (ρ.f 18) (SlBodyM.n18 ρ)
 f19:P.funcs[ρ.f 19]?=some (SlBodyM.n19 ρ)
 f20:P.funcs[ρ.f 20]?=some (SlBodyM.n20 ρ)
 f30:Bears P (ρ.f 30) (SlBodyM.n30 ρ)
 f31:P.funcs[ρ.f 31]?=some (SlBodyM.n31 ρ)
 f32:P.funcs[ρ.f 32]?=some (SlBodyM.n32 ρ)
 f33:Bears P (ρ.f 33) (SlBodyM.n33 ρ)
 f34:Bears P (ρ.f 34) (SlBodyM.n34 ρ)
 f35:Bears P (ρ.f 35) (SlBodyM.n35 ρ)
 f40:Bears P (ρ.f 40) (SlBodyM.n40 ρ)
 t0:P.underlying (ρ.t 0)=some (TypeDesc.tuple #[])
 a0:∀ w,(isAgg (ρ.t 0)).run P w=.ok false w
 z0:∀ w,(Go.sizeOf (ρ.t 0)).run P w=.ok 1 w
 v0:∀ w,(zeroValue (ρ.t 0)).run P w=.ok (Value.tuple #[]) w
 t3:P.underlying (ρ.t 3)=some (TypeDesc.int IntKind.i64)
 a3:∀ w,(isAgg (ρ.t 3)).run P w=.ok false w
 z3:∀ w,(Go.sizeOf (ρ.t 3)).run P w=.ok 1 w
 v3:∀ w,(zeroValue (ρ.t 3)).run P w=.ok (Value.int IntKind.i64 0) w
 t4:P.underlying (ρ.t 4)=some (TypeDesc.bool)
 a4:∀ w,(isAgg (ρ.t 4)).run P w=.ok false w
 z4:∀ w,(Go.sizeOf (ρ.t 4)).run P w=.ok 1 w
 v4:∀ w,(zeroValue (ρ.t 4)).run P w=.ok (Value.bool false) w
 t5:P.underlying (ρ.t 5)=some (TypeDesc.int IntKind.u8)
 a5:∀ w,(isAgg (ρ.t 5)).run P w=.ok false w
 z5:∀ w,(Go.sizeOf (ρ.t 5)).run P w=.ok 1 w
 v5:∀ w,(zeroValue (ρ.t 5)).run P w=.ok (Value.int IntKind.u8 0) w
 t9:P.underlying (ρ.t 9)=some (TypeDesc.string)
 a9:∀ w,(isAgg (ρ.t 9)).run P w=.ok false w
 z9:∀ w,(Go.sizeOf (ρ.t 9)).run P w=.ok 1 w
 v9:∀ w,(zeroValue (ρ.t 9)).run P w=.ok (Value.string { data:=#[] }) w
 t22:P.underlying (ρ.t 22)=some (TypeDesc.slice (ρ.t 25))
 a22:∀ w,(isAgg (ρ.t 22)).run P w=.ok false w
 z22:∀ w,(Go.sizeOf (ρ.t 22)).run P w=.ok 1 w
 v22:∀ w,(zeroValue (ρ.t 22)).run P w=.ok (Value.slice none 0 0) w
 t25:P.underlying (ρ.t 25)=some (TypeDesc.int IntKind.u32)
 a25:∀ w,(isAgg (ρ.t 25)).run P w=.ok false w
 z25:∀ w,(Go.sizeOf (ρ.t 25)).run P w=.ok 1 w
 v25:∀ w,(zeroValue (ρ.t 25)).run P w=.ok (Value.int IntKind.u32 0) w
 t32:P.underlying (ρ.t 32)=some (TypeDesc.int IntKind.u64)
 a32:∀ w,(isAgg (ρ.t 32)).run P w=.ok false w
 z32:∀ w,(Go.sizeOf (ρ.t 32)).run P w=.ok 1 w
 v32:∀ w,(zeroValue (ρ.t 32)).run P w=.ok (Value.int IntKind.u64 0) w
 t35:P.underlying (ρ.t 35)=some (TypeDesc.int IntKind.i64)
 a35:∀ w,(isAgg (ρ.t 35)).run P w=.ok false w
 z35:∀ w,(Go.sizeOf (ρ.t 35)).run P w=.ok 1 w
 v35:∀ w,(zeroValue (ρ.t 35)).run P w=.ok (Value.int IntKind.i64 0) w
 t36:P.underlying (ρ.t 36)=some (TypeDesc.tuple #[ρ.t 3,ρ.t 35])
 a36:∀ w,(isAgg (ρ.t 36)).run P w=.ok false w
 z36:∀ w,(Go.sizeOf (ρ.t 36)).run P w=.ok 1 w
 v36:∀ w,(zeroValue (ρ.t 36)).run P w=.ok (Value.tuple #[Value.int IntKind.i64 0,Value.int IntKind.i64 0]) w
 t41:P.underlying (ρ.t 41)=some (TypeDesc.tuple #[ρ.t 3,ρ.t 4])
 a41:∀ w,(isAgg (ρ.t 41)).run P w=.ok false w
 z41:∀ w,(Go.sizeOf (ρ.t 41)).run P w=.ok 1 w
 v41:∀ w,(zeroValue (ρ.t 41)).run P w=.ok (Value.tuple #[Value.int IntKind.i64 0,Value.bool false]) w
 t44:P.underlying (ρ.t 44)=some (TypeDesc.int IntKind.u32)
 a44:∀ w,(isAgg (ρ.t 44)).run P w=.ok false w
 z44:∀ w,(Go.sizeOf (ρ.t 44)).run P w=.ok 1 w
 v44:∀ w,(zeroValue (ρ.t 44)).run P w=.ok (Value.int IntKind.u32 0) w
 t46:P.underlying (ρ.t 46)=some (TypeDesc.int IntKind.u64)
 a46:∀ w,(isAgg (ρ.t 46)).run P w=.ok false w
 z46:∀ w,(Go.sizeOf (ρ.t 46)).run P w=.ok 1 w
 v46:∀ w,(zeroValue (ρ.t 46)).run P w=.ok (Value.int IntKind.u64 0) w
 t53:P.underlying (ρ.t 53)=some (TypeDesc.int IntKind.u64)
 a53:∀ w,(isAgg (ρ.t 53)).run P w=.ok false w
 z53:∀ w,(Go.sizeOf (ρ.t 53)).run P w=.ok 1 w
 v53:∀ w,(zeroValue (ρ.t 53)).run P w=.ok (Value.int IntKind.u64 0) w
 t57:P.underlying (ρ.t 57)=some (TypeDesc.pointer (ρ.t 3))
 a57:∀ w,(isAgg (ρ.t 57)).run P w=.ok false w
 z57:∀ w,(Go.sizeOf (ρ.t 57)).run P w=.ok 1 w
 v57:∀ w,(zeroValue (ρ.t 57)).run P w=.ok (Value.pointer none) w
 t63:P.underlying (ρ.t 63)=some (TypeDesc.pointer (ρ.t 53))
 a63:∀ w,(isAgg (ρ.t 63)).run P w=.ok false w
 z63:∀ w,(Go.sizeOf (ρ.t 63)).run P w=.ok 1 w
 v63:∀ w,(zeroValue (ρ.t 63)).run P w=.ok (Value.pointer none) w
 t64:P.underlying (ρ.t 64)=some (TypeDesc.tuple #[ρ.t 3,ρ.t 3])
 a64:∀ w,(isAgg (ρ.t 64)).run P w=.ok false w
 z64:∀ w,(Go.sizeOf (ρ.t 64)).run P w=.ok 1 w
 v64:∀ w,(zeroValue (ρ.t 64)).run P w=.ok (Value.tuple #[Value.int IntKind.i64 0,Value.int IntKind.i64 0]) w
structure bf.n8 (P:Program) (ρ:Ren):Prop where
 mixed:P.follows .mixedOrders=true
 f8:P.funcs[ρ.f 8]?=some (SlBodyM.n8 ρ)
 f19:P.funcs[ρ.f 19]?=some (SlBodyM.n19 ρ)
 f20:P.funcs[ρ.f 20]?=some (SlBodyM.n20 ρ)
 t3:P.underlying (ρ.t 3)=some (TypeDesc.int IntKind.i64)
 a3:∀ w,(isAgg (ρ.t 3)).run P w=.ok false w
 z3:∀ w,(Go.sizeOf (ρ.t 3)).run P w=.ok 1 w
 v3:∀ w,(zeroValue (ρ.t 3)).run P w=.ok (Value.int IntKind.i64 0) w
 t4:P.underlying (ρ.t 4)=some (TypeDesc.bool)
 a4:∀ w,(isAgg (ρ.t 4)).run P w=.ok false w
 z4:∀ w,(Go.sizeOf (ρ.t 4)).run P w=.ok 1 w
 v4:∀ w,(zeroValue (ρ.t 4)).run P w=.ok (Value.bool false) w
 t5:P.underlying (ρ.t 5)=some (TypeDesc.int IntKind.u8)
 a5:∀ w,(isAgg (ρ.t 5)).run P w=.ok false w
 z5:∀ w,(Go.sizeOf (ρ.t 5)).run P w=.ok 1 w
 v5:∀ w,(zeroValue (ρ.t 5)).run P w=.ok (Value.int IntKind.u8 0) w
 t9:P.underlying (ρ.t 9)=some (TypeDesc.string)
 a9:∀ w,(isAgg (ρ.t 9)).run P w=.ok false w
 z9:∀ w,(Go.sizeOf (ρ.t 9)).run P w=.ok 1 w
 v9:∀ w,(zeroValue (ρ.t 9)).run P w=.ok (Value.string { data:=#[] }) w
 t32:P.underlying (ρ.t 32)=some (TypeDesc.int IntKind.u64)
 a32:∀ w,(isAgg (ρ.t 32)).run P w=.ok false w
 z32:∀ w,(Go.sizeOf (ρ.t 32)).run P w=.ok 1 w
 v32:∀ w,(zeroValue (ρ.t 32)).run P w=.ok (Value.int IntKind.u64 0) w
 t44:P.underlying (ρ.t 44)=some (TypeDesc.int IntKind.u32)
 a44:∀ w,(isAgg (ρ.t 44)).run P w=.ok false w
 z44:∀ w,(Go.sizeOf (ρ.t 44)).run P w=.ok 1 w
 v44:∀ w,(zeroValue (ρ.t 44)).run P w=.ok (Value.int IntKind.u32 0) w
 t46:P.underlying (ρ.t 46)=some (TypeDesc.int IntKind.u64)
 a46:∀ w,(isAgg (ρ.t 46)).run P w=.ok false w
 z46:∀ w,(Go.sizeOf (ρ.t 46)).run P w=.ok 1 w
 v46:∀ w,(zeroValue (ρ.t 46)).run P w=.ok (Value.int IntKind.u64 0) w
structure bf.n10 (P:Program) (ρ:Ren):Prop where
 mixed:P.follows .mixedOrders=true
 f10:Bears P (ρ.f 10) (SlBodyM.n10 ρ)
 f16:Bears P (ρ.f 16) (SlBodyM.n16 ρ)
 f35:Bears P (ρ.f 35) (SlBodyM.n35 ρ)
 t0:P.underlying (ρ.t 0)=some (TypeDesc.tuple #[])
 a0:∀ w,(isAgg (ρ.t 0)).run P w=.ok false w
 z0:∀ w,(Go.sizeOf (ρ.t 0)).run P w=.ok 1 w
 v0:∀ w,(zeroValue (ρ.t 0)).run P w=.ok (Value.tuple #[]) w
 t3:P.underlying (ρ.t 3)=some (TypeDesc.int IntKind.i64)
 a3:∀ w,(isAgg (ρ.t 3)).run P w=.ok false w
 z3:∀ w,(Go.sizeOf (ρ.t 3)).run P w=.ok 1 w
 v3:∀ w,(zeroValue (ρ.t 3)).run P w=.ok (Value.int IntKind.i64 0) w
 t4:P.underlying (ρ.t 4)=some (TypeDesc.bool)
 a4:∀ w,(isAgg (ρ.t 4)).run P w=.ok false w
 z4:∀ w,(Go.sizeOf (ρ.t 4)).run P w=.ok 1 w
 v4:∀ w,(zeroValue (ρ.t 4)).run P w=.ok (Value.bool false) w
 t22:P.underlying (ρ.t 22)=some (TypeDesc.slice (ρ.t 25))
 a22:∀ w,(isAgg (ρ.t 22)).run P w=.ok false w
 z22:∀ w,(Go.sizeOf (ρ.t 22)).run P w=.ok 1 w
 v22:∀ w,(zeroValue (ρ.t 22)).run P w=.ok (Value.slice none 0 0) w
 t25:P.underlying (ρ.t 25)=some (TypeDesc.int IntKind.u32)
 a25:∀ w,(isAgg (ρ.t 25)).run P w=.ok false w
 z25:∀ w,(Go.sizeOf (ρ.t 25)).run P w=.ok 1 w
 v25:∀ w,(zeroValue (ρ.t 25)).run P w=.ok (Value.int IntKind.u32 0) w
structure bf.n11 (P:Program) (ρ:Ren):Prop where
 mixed:P.follows .mixedOrders=true
 f11:Bears P (ρ.f 11) (SlBodyM.n11 ρ)
 f16:Bears P (ρ.f 16) (SlBodyM.n16 ρ)
 f30:Bears P (ρ.f 30) (SlBodyM.n30 ρ)
 f35:Bears P (ρ.f 35) (SlBodyM.n35 ρ)
 t0:P.underlying (ρ.t 0)=some (TypeDesc.tuple #[])
 a0:∀ w,(isAgg (ρ.t 0)).run P w=.ok false w
 z0:∀ w,(Go.sizeOf (ρ.t 0)).run P w=.ok 1 w
 v0:∀ w,(zeroValue (ρ.t 0)).run P w=.ok (Value.tuple #[]) w
 t3:P.underlying (ρ.t 3)=some (TypeDesc.int IntKind.i64)
 a3:∀ w,(isAgg (ρ.t 3)).run P w=.ok false w
 z3:∀ w,(Go.sizeOf (ρ.t 3)).run P w=.ok 1 w
 v3:∀ w,(zeroValue (ρ.t 3)).run P w=.ok (Value.int IntKind.i64 0) w
 t4:P.underlying (ρ.t 4)=some (TypeDesc.bool)
 a4:∀ w,(isAgg (ρ.t 4)).run P w=.ok false w
 z4:∀ w,(Go.sizeOf (ρ.t 4)).run P w=.ok 1 w
 v4:∀ w,(zeroValue (ρ.t 4)).run P w=.ok (Value.bool false) w
 t22:P.underlying (ρ.t 22)=some (TypeDesc.slice (ρ.t 25))
 a22:∀ w,(isAgg (ρ.t 22)).run P w=.ok false w
 z22:∀ w,(Go.sizeOf (ρ.t 22)).run P w=.ok 1 w
 v22:∀ w,(zeroValue (ρ.t 22)).run P w=.ok (Value.slice none 0 0) w
 t25:P.underlying (ρ.t 25)=some (TypeDesc.int IntKind.u32)
 a25:∀ w,(isAgg (ρ.t 25)).run P w=.ok false w
 z25:∀ w,(Go.sizeOf (ρ.t 25)).run P w=.ok 1 w
 v25:∀ w,(zeroValue (ρ.t 25)).run P w=.ok (Value.int IntKind.u32 0) w
structure bf.n12 (P:Program) (ρ:Ren):Prop where
 mixed:P.follows .mixedOrders=true
 f8:P.funcs[ρ.f 8]?=some (SlBodyM.n8 ρ)
 f12:Bears P (ρ.f 12) (SlBodyM.n12 ρ)
 f19:P.funcs[ρ.f 19]?=some (SlBodyM.n19 ρ)
 f20:P.funcs[ρ.f 20]?=some (SlBodyM.n20 ρ)
 f31:P.funcs[ρ.f 31]?=some (SlBodyM.n31 ρ)
 f32:P.funcs[ρ.f 32]?=some (SlBodyM.n32 ρ)
 t0:P.underlying (ρ.t 0)=some (TypeDesc.tuple #[])
 a0:∀ w,(isAgg (ρ.t 0)).run P w=.ok false w
 z0:∀ w,(Go.sizeOf (ρ.t 0)).run P w=.ok 1 w
 v0:∀ w,(zeroValue (ρ.t 0)).run P w=.ok (Value.tuple #[]) w
 t3:P.underlying (ρ.t 3)=some (TypeDesc.int IntKind.i64)
 a3:∀ w,(isAgg (ρ.t 3)).run P w=.ok false w
 z3:∀ w,(Go.sizeOf (ρ.t 3)).run P w=.ok 1 w
 v3:∀ w,(zeroValue (ρ.t 3)).run P w=.ok (Value.int IntKind.i64 0) w
 t4:P.underlying (ρ.t 4)=some (TypeDesc.bool)
 a4:∀ w,(isAgg (ρ.t 4)).run P w=.ok false w
 z4:∀ w,(Go.sizeOf (ρ.t 4)).run P w=.ok 1 w
 v4:∀ w,(zeroValue (ρ.t 4)).run P w=.ok (Value.bool false) w
 t5:P.underlying (ρ.t 5)=some (TypeDesc.int IntKind.u8)
 a5:∀ w,(isAgg (ρ.t 5)).run P w=.ok false w
 z5:∀ w,(Go.sizeOf (ρ.t 5)).run P w=.ok 1 w
 v5:∀ w,(zeroValue (ρ.t 5)).run P w=.ok (Value.int IntKind.u8 0) w
 t9:P.underlying (ρ.t 9)=some (TypeDesc.string)
 a9:∀ w,(isAgg (ρ.t 9)).run P w=.ok false w
 z9:∀ w,(Go.sizeOf (ρ.t 9)).run P w=.ok 1 w
 v9:∀ w,(zeroValue (ρ.t 9)).run P w=.ok (Value.string { data:=#[] }) w
 t22:P.underlying (ρ.t 22)=some (TypeDesc.slice (ρ.t 25))
 a22:∀ w,(isAgg (ρ.t 22)).run P w=.ok false w
 z22:∀ w,(Go.sizeOf (ρ.t 22)).run P w=.ok 1 w
 v22:∀ w,(zeroValue (ρ.t 22)).run P w=.ok (Value.slice none 0 0) w
 t25:P.underlying (ρ.t 25)=some (TypeDesc.int IntKind.u32)
 a25:∀ w,(isAgg (ρ.t 25)).run P w=.ok false w
 z25:∀ w,(Go.sizeOf (ρ.t 25)).run P w=.ok 1 w
 v25:∀ w,(zeroValue (ρ.t 25)).run P w=.ok (Value.int IntKind.u32 0) w
 t32:P.underlying (ρ.t 32)=some (TypeDesc.int IntKind.u64)
 a32:∀ w,(isAgg (ρ.t 32)).run P w=.ok false w
 z32:∀ w,(Go.sizeOf (ρ.t 32)).run P w=.ok 1 w
 v32:∀ w,(zeroValue (ρ.t 32)).run P w=.ok (Value.int IntKind.u64 0) w
 t44:P.underlying (ρ.t 44)=some (TypeDesc.int IntKind.u32)
 a44:∀ w,(isAgg (ρ.t 44)).run P w=.ok false w
 z44:∀ w,(Go.sizeOf (ρ.t 44)).run P w=.ok 1 w
 v44:∀ w,(zeroValue (ρ.t 44)).run P w=.ok (Value.int IntKind.u32 0) w
 t46:P.underlying (ρ.t 46)=some (TypeDesc.int IntKind.u64)
 a46:∀ w,(isAgg (ρ.t 46)).run P w=.ok false w
 z46:∀ w,(Go.sizeOf (ρ.t 46)).run P w=.ok 1 w
 v46:∀ w,(zeroValue (ρ.t 46)).run P w=.ok (Value.int IntKind.u64 0) w
 t53:P.underlying (ρ.t 53)=some (TypeDesc.int IntKind.u64)
 a53:∀ w,(isAgg (ρ.t 53)).run P w=.ok false w
 z53:∀ w,(Go.sizeOf (ρ.t 53)).run P w=.ok 1 w
 v53:∀ w,(zeroValue (ρ.t 53)).run P w=.ok (Value.int IntKind.u64 0) w
 t63:P.underlying (ρ.t 63)=some (TypeDesc.pointer (ρ.t 53))
 a63:∀ w,(isAgg (ρ.t 63)).run P w=.ok false w
 z63:∀ w,(Go.sizeOf (ρ.t 63)).run P w=.ok 1 w
 v63:∀ w,(zeroValue (ρ.t 63)).run P w=.ok (Value.pointer none) w
structure bf.n13 (P:Program) (ρ:Ren):Prop where
 mixed:P.follows .mixedOrders=true
 f13:Bears P (ρ.f 13) (SlBodyM.n13 ρ)
 f16:Bears P (ρ.f 16) (SlBodyM.n16 ρ)
 f33:Bears P (ρ.f 33) (SlBodyM.n33 ρ)
 f34:Bears P (ρ.f 34) (SlBodyM.n34 ρ)
 f35:Bears P (ρ.f 35) (SlBodyM.n35 ρ)
 f40:Bears P (ρ.f 40) (SlBodyM.n40 ρ)
 t0:P.underlying (ρ.t 0)=some (TypeDesc.tuple #[])
 a0:∀ w,(isAgg (ρ.t 0)).run P w=.ok false w
 z0:∀ w,(Go.sizeOf (ρ.t 0)).run P w=.ok 1 w
 v0:∀ w,(zeroValue (ρ.t 0)).run P w=.ok (Value.tuple #[]) w
 t3:P.underlying (ρ.t 3)=some (TypeDesc.int IntKind.i64)
 a3:∀ w,(isAgg (ρ.t 3)).run P w=.ok false w
 z3:∀ w,(Go.sizeOf (ρ.t 3)).run P w=.ok 1 w
 v3:∀ w,(zeroValue (ρ.t 3)).run P w=.ok (Value.int IntKind.i64 0) w
 t4:P.underlying (ρ.t 4)=some (TypeDesc.bool)
 a4:∀ w,(isAgg (ρ.t 4)).run P w=.ok false w
 z4:∀ w,(Go.sizeOf (ρ.t 4)).run P w=.ok 1 w
 v4:∀ w,(zeroValue (ρ.t 4)).run P w=.ok (Value.bool false) w
 t22:P.underlying (ρ.t 22)=some (TypeDesc.slice (ρ.t 25))
 a22:∀ w,(isAgg (ρ.t 22)).run P w=.ok false w
 z22:∀ w,(Go.sizeOf (ρ.t 22)).run P w=.ok 1 w
 v22:∀ w,(zeroValue (ρ.t 22)).run P w=.ok (Value.slice none 0 0) w
 t25:P.underlying (ρ.t 25)=some (TypeDesc.int IntKind.u32)
 a25:∀ w,(isAgg (ρ.t 25)).run P w=.ok false w
 z25:∀ w,(Go.sizeOf (ρ.t 25)).run P w=.ok 1 w
 v25:∀ w,(zeroValue (ρ.t 25)).run P w=.ok (Value.int IntKind.u32 0) w
 t35:P.underlying (ρ.t 35)=some (TypeDesc.int IntKind.i64)
 a35:∀ w,(isAgg (ρ.t 35)).run P w=.ok false w
 z35:∀ w,(Go.sizeOf (ρ.t 35)).run P w=.ok 1 w
 v35:∀ w,(zeroValue (ρ.t 35)).run P w=.ok (Value.int IntKind.i64 0) w
 t57:P.underlying (ρ.t 57)=some (TypeDesc.pointer (ρ.t 3))
 a57:∀ w,(isAgg (ρ.t 57)).run P w=.ok false w
 z57:∀ w,(Go.sizeOf (ρ.t 57)).run P w=.ok 1 w
 v57:∀ w,(zeroValue (ρ.t 57)).run P w=.ok (Value.pointer none) w
 t64:P.underlying (ρ.t 64)=some (TypeDesc.tuple #[ρ.t 3,ρ.t 3])
 a64:∀ w,(isAgg (ρ.t 64)).run P w=.ok false w
 z64:∀ w,(Go.sizeOf (ρ.t 64)).run P w=.ok 1 w
 v64:∀ w,(zeroValue (ρ.t 64)).run P w=.ok (Value.tuple #[Value.int IntKind.i64 0,Value.int IntKind.i64 0]) w
structure bf.n14 (P:Program) (ρ:Ren):Prop where
 mixed:P.follows .mixedOrders=true
 f14:Bears P (ρ.f 14) (SlBodyM.n14 ρ)
 t0:P.underlying (ρ.t 0)=some (TypeDesc.tuple #[])
 a0:∀ w,(isAgg (ρ.t 0)).run P w=.ok false w
 z0:∀ w,(Go.sizeOf (ρ.t 0)).run P w=.ok 1 w
 v0:∀ w,(zeroValue (ρ.t 0)).run P w=.ok (Value.tuple #[]) w
 t3:P.underlying (ρ.t 3)=some (TypeDesc.int IntKind.i64)
 a3:∀ w,(isAgg (ρ.t 3)).run P w=.ok false w
 z3:∀ w,(Go.sizeOf (ρ.t 3)).run P w=.ok 1 w
 v3:∀ w,(zeroValue (ρ.t 3)).run P w=.ok (Value.int IntKind.i64 0) w
 t4:P.underlying (ρ.t 4)=some (TypeDesc.bool)
 a4:∀ w,(isAgg (ρ.t 4)).run P w=.ok false w
 z4:∀ w,(Go.sizeOf (ρ.t 4)).run P w=.ok 1 w
 v4:∀ w,(zeroValue (ρ.t 4)).run P w=.ok (Value.bool false) w
 t22:P.underlying (ρ.t 22)=some (TypeDesc.slice (ρ.t 25))
 a22:∀ w,(isAgg (ρ.t 22)).run P w=.ok false w
 z22:∀ w,(Go.sizeOf (ρ.t 22)).run P w=.ok 1 w
 v22:∀ w,(zeroValue (ρ.t 22)).run P w=.ok (Value.slice none 0 0) w
 t25:P.underlying (ρ.t 25)=some (TypeDesc.int IntKind.u32)
 a25:∀ w,(isAgg (ρ.t 25)).run P w=.ok false w
 z25:∀ w,(Go.sizeOf (ρ.t 25)).run P w=.ok 1 w
 v25:∀ w,(zeroValue (ρ.t 25)).run P w=.ok (Value.int IntKind.u32 0) w
structure bf.n15 (P:Program) (ρ:Ren):Prop where
 mixed:P.follows .mixedOrders=true
 f15:Bears P (ρ.f 15) (SlBodyM.n15 ρ)
 f16:Bears P (ρ.f 16) (SlBodyM.n16 ρ)
 f35:Bears P (ρ.f 35) (SlBodyM.n35 ρ)
 t0:P.underlying (ρ.t 0)=some (TypeDesc.tuple #[])
 a0:∀ w,(isAgg (ρ.t 0)).run P w=.ok false w
 z0:∀ w,(Go.sizeOf (ρ.t 0)).run P w=.ok 1 w
 v0:∀ w,(zeroValue (ρ.t 0)).run P w=.ok (Value.tuple #[]) w
 t3:P.underlying (ρ.t 3)=some (TypeDesc.int IntKind.i64)
 a3:∀ w,(isAgg (ρ.t 3)).run P w=.ok false w
 z3:∀ w,(Go.sizeOf (ρ.t 3)).run P w=.ok 1 w
 v3:∀ w,(zeroValue (ρ.t 3)).run P w=.ok (Value.int IntKind.i64 0) w
 t4:P.underlying (ρ.t 4)=some (TypeDesc.bool)
 a4:∀ w,(isAgg (ρ.t 4)).run P w=.ok false w
 z4:∀ w,(Go.sizeOf (ρ.t 4)).run P w=.ok 1 w
 v4:∀ w,(zeroValue (ρ.t 4)).run P w=.ok (Value.bool false) w
 t22:P.underlying (ρ.t 22)=some (TypeDesc.slice (ρ.t 25))
 a22:∀ w,(isAgg (ρ.t 22)).run P w=.ok false w
 z22:∀ w,(Go.sizeOf (ρ.t 22)).run P w=.ok 1 w
 v22:∀ w,(zeroValue (ρ.t 22)).run P w=.ok (Value.slice none 0 0) w
 t25:P.underlying (ρ.t 25)=some (TypeDesc.int IntKind.u32)
 a25:∀ w,(isAgg (ρ.t 25)).run P w=.ok false w
 z25:∀ w,(Go.sizeOf (ρ.t 25)).run P w=.ok 1 w
 v25:∀ w,(zeroValue (ρ.t 25)).run P w=.ok (Value.int IntKind.u32 0) w
structure bf.n16 (P:Program) (ρ:Ren):Prop where
 mixed:P.follows .mixedOrders=true
 f16:Bears P (ρ.f 16) (SlBodyM.n16 ρ)
 f35:Bears P (ρ.f 35) (SlBodyM.n35 ρ)
 t4:P.underlying (ρ.t 4)=some (TypeDesc.bool)
 a4:∀ w,(isAgg (ρ.t 4)).run P w=.ok false w
 z4:∀ w,(Go.sizeOf (ρ.t 4)).run P w=.ok 1 w
 v4:∀ w,(zeroValue (ρ.t 4)).run P w=.ok (Value.bool false) w
 t25:P.underlying (ρ.t 25)=some (TypeDesc.int IntKind.u32)
 a25:∀ w,(isAgg (ρ.t 25)).run P w=.ok false w
 z25:∀ w,(Go.sizeOf (ρ.t 25)).run P w=.ok 1 w
 v25:∀ w,(zeroValue (ρ.t 25)).run P w=.ok (Value.int IntKind.u32 0) w
structure bf.n17 (P:Program) (ρ:Ren):Prop where
 mixed:P.follows .mixedOrders=true
 f16:Bears P (ρ.f 16) (SlBodyM.n16 ρ)
 f17:Bears P (ρ.f 17) (SlBodyM.n17 ρ)
 f35:Bears P (ρ.f 35) (SlBodyM.n35 ρ)
 t0:P.underlying (ρ.t 0)=some (TypeDesc.tuple #[])
 a0:∀ w,(isAgg (ρ.t 0)).run P w=.ok false w
 z0:∀ w,(Go.sizeOf (ρ.t 0)).run P w=.ok 1 w
 v0:∀ w,(zeroValue (ρ.t 0)).run P w=.ok (Value.tuple #[]) w
 t3:P.underlying (ρ.t 3)=some (TypeDesc.int IntKind.i64)
 a3:∀ w,(isAgg (ρ.t 3)).run P w=.ok false w
 z3:∀ w,(Go.sizeOf (ρ.t 3)).run P w=.ok 1 w
 v3:∀ w,(zeroValue (ρ.t 3)).run P w=.ok (Value.int IntKind.i64 0) w
 t4:P.underlying (ρ.t 4)=some (TypeDesc.bool)
 a4:∀ w,(isAgg (ρ.t 4)).run P w=.ok false w
 z4:∀ w,(Go.sizeOf (ρ.t 4)).run P w=.ok 1 w
 v4:∀ w,(zeroValue (ρ.t 4)).run P w=.ok (Value.bool false) w
 t22:P.underlying (ρ.t 22)=some (TypeDesc.slice (ρ.t 25))
 a22:∀ w,(isAgg (ρ.t 22)).run P w=.ok false w
 z22:∀ w,(Go.sizeOf (ρ.t 22)).run P w=.ok 1 w
 v22:∀ w,(zeroValue (ρ.t 22)).run P w=.ok (Value.slice none 0 0) w
 t25:P.underlying (ρ.t 25)=some (TypeDesc.int IntKind.u32)
 a25:∀ w,(isAgg (ρ.t 25)).run P w=.ok false w
 z25:∀ w,(Go.sizeOf (ρ.t 25)).run P w=.ok 1 w
 v25:∀ w,(zeroValue (ρ.t 25)).run P w=.ok (Value.int IntKind.u32 0) w
structure bf.n18 (P:Program) (ρ:Ren):Prop where
 mixed:P.follows .mixedOrders=true
 f16:Bears P (ρ.f 16) (SlBodyM.n16 ρ)
 f18:Bears P (ρ.f 18) (SlBodyM.n18 ρ)
 f35:Bears P (ρ.f 35) (SlBodyM.n35 ρ)
 t0:P.underlying (ρ.t 0)=some (TypeDesc.tuple #[])
 a0:∀ w,(isAgg (ρ.t 0)).run P w=.ok false w
 z0:∀ w,(Go.sizeOf (ρ.t 0)).run P w=.ok 1 w
 v0:∀ w,(zeroValue (ρ.t 0)).run P w=.ok (Value.tuple #[]) w
 t3:P.underlying (ρ.t 3)=some (TypeDesc.int IntKind.i64)
 a3:∀ w,(isAgg (ρ.t 3)).run P w=.ok false w
 z3:∀ w,(Go.sizeOf (ρ.t 3)).run P w=.ok 1 w
 v3:∀ w,(zeroValue (ρ.t 3)).run P w=.ok (Value.int IntKind.i64 0) w
 t4:P.underlying (ρ.t 4)=some (TypeDesc.bool)
 a4:∀ w,(isAgg (ρ.t 4)).run P w=.ok false w
 z4:∀ w,(Go.sizeOf (ρ.t 4)).run P w=.ok 1 w
 v4:∀ w,(zeroValue (ρ.t 4)).run P w=.ok (Value.bool false) w
 t22:P.underlying (ρ.t 22)=some (TypeDesc.slice (ρ.t 25))
 a22:∀ w,(isAgg (ρ.t 22)).run P w=.ok false w
 z22:∀ w,(Go.sizeOf (ρ.t 22)).run P w=.ok 1 w
 v22:∀ w,(zeroValue (ρ.t 22)).run P w=.ok (Value.slice none 0 0) w
 t25:P.underlying (ρ.t 25)=some (TypeDesc.int IntKind.u32)
 a25:∀ w,(isAgg (ρ.t 25)).run P w=.ok false w
 z25:∀ w,(Go.sizeOf (ρ.t 25)).run P w=.ok 1 w
 v25:∀ w,(zeroValue (ρ.t 25)).run P w=.ok (Value.int IntKind.u32 0) w
structure bf.n20 (P:Program) (ρ:Ren):Prop where
 mixed:P.follows .mixedOrders=true
 f20:P.funcs[ρ.f 20]?=some (SlBodyM.n20 ρ)
 t3:P.underlying (ρ.t 3)=some (TypeDesc.int IntKind.i64)
 a3:∀ w,(isAgg (ρ.t 3)).run P w=.ok false w
 z3:∀ w,(Go.sizeOf (ρ.t 3)).run P w=.ok 1 w
 v3:∀ w,(zeroValue (ρ.t 3)).run P w=.ok (Value.int IntKind.i64 0) w
 t4:P.underlying (ρ.t 4)=some (TypeDesc.bool)
 a4:∀ w,(isAgg (ρ.t 4)).run P w=.ok false w
 z4:∀ w,(Go.sizeOf (ρ.t 4)).run P w=.ok 1 w
 v4:∀ w,(zeroValue (ρ.t 4)).run P w=.ok (Value.bool false) w
 t5:P.underlying (ρ.t 5)=some (TypeDesc.int IntKind.u8)
 a5:∀ w,(isAgg (ρ.t 5)).run P w=.ok false w
 z5:∀ w,(Go.sizeOf (ρ.t 5)).run P w=.ok 1 w
 v5:∀ w,(zeroValue (ρ.t 5)).run P w=.ok (Value.int IntKind.u8 0) w
 t9:P.underlying (ρ.t 9)=some (TypeDesc.string)
 a9:∀ w,(isAgg (ρ.t 9)).run P w=.ok false w
 z9:∀ w,(Go.sizeOf (ρ.t 9)).run P w=.ok 1 w
 v9:∀ w,(zeroValue (ρ.t 9)).run P w=.ok (Value.string { data:=#[] }) w
 t32:P.underlying (ρ.t 32)=some (TypeDesc.int IntKind.u64)
 a32:∀ w,(isAgg (ρ.t 32)).run P w=.ok false w
 z32:∀ w,(Go.sizeOf (ρ.t 32)).run P w=.ok 1 w
 v32:∀ w,(zeroValue (ρ.t 32)).run P w=.ok (Value.int IntKind.u64 0) w
 t46:P.underlying (ρ.t 46)=some (TypeDesc.int IntKind.u64)
 a46:∀ w,(isAgg (ρ.t 46)).run P w=.ok false w
 z46:∀ w,(Go.sizeOf (ρ.t 46)).run P w=.ok 1 w
 v46:∀ w,(zeroValue (ρ.t 46)).run P w=.ok (Value.int IntKind.u64 0) w
structure bf.n30 (P:Program) (ρ:Ren):Prop where
 mixed:P.follows .mixedOrders=true
 f16:Bears P (ρ.f 16) (SlBodyM.n16 ρ)
 f30:Bears P (ρ.f 30) (SlBodyM.n30 ρ)
 f35:Bears P (ρ.f 35) (SlBodyM.n35 ρ)
 t0:P.underlying (ρ.t 0)=some (TypeDesc.tuple #[])
 a0:∀ w,(isAgg (ρ.t 0)).run P w=.ok false w
 z0:∀ w,(Go.sizeOf (ρ.t 0)).run P w=.ok 1 w
 v0:∀ w,(zeroValue (ρ.t 0)).run P w=.ok (Value.tuple #[]) w
 t3:P.underlying (ρ.t 3)=some (TypeDesc.int IntKind.i64)
 a3:∀ w,(isAgg (ρ.t 3)).run P w=.ok false w
 z3:∀ w,(Go.sizeOf (ρ.t 3)).run P w=.ok 1 w
 v3:∀ w,(zeroValue (ρ.t 3)).run P w=.ok (Value.int IntKind.i64 0) w
 t4:P.underlying (ρ.t 4)=some (TypeDesc.bool)
 a4:∀ w,(isAgg (ρ.t 4)).run P w=.ok false w
 z4:∀ w,(Go.sizeOf (ρ.t 4)).run P w=.ok 1 w
 v4:∀ w,(zeroValue (ρ.t 4)).run P w=.ok (Value.bool false) w
 t22:P.underlying (ρ.t 22)=some (TypeDesc.slice (ρ.t 25))
 a22:∀ w,(isAgg (ρ.t 22)).run P w=.ok false w
 z22:∀ w,(Go.sizeOf (ρ.t 22)).run P w=.ok 1 w
 v22:∀ w,(zeroValue (ρ.t 22)).run P w=.ok (Value.slice none 0 0) w
 t25:P.underlying (ρ.t 25)=some (TypeDesc.int IntKind.u32)
 a25:∀ w,(isAgg (ρ.t 25)).run P w=.ok false w
 z25:∀ w,(Go.sizeOf (ρ.t 25)).run P w=.ok 1 w
 v25:∀ w,(zeroValue (ρ.t 25)).run P w=.ok (Value.int IntKind.u32 0) w
structure bf.n31 (P:Program) (ρ:Ren):Prop where
 mixed:P.follows .mixedOrders=true
 f8:P.funcs[ρ.f 8]?=some (SlBodyM.n8 ρ)
 f19:P.funcs[ρ.f 19]?=some (SlBodyM.n19 ρ)
 f20:P.funcs[ρ.f 20]?=some (SlBodyM.n20 ρ)
 f31:P.funcs[ρ.f 31]?=some (SlBodyM.n31 ρ)
 t3:P.underlying (ρ.t 3)=some (TypeDesc.int IntKind.i64)
 a3:∀ w,(isAgg (ρ.t 3)).run P w=.ok false w
 z3:∀ w,(Go.sizeOf (ρ.t 3)).run P w=.ok 1 w
 v3:∀ w,(zeroValue (ρ.t 3)).run P w=.ok (Value.int IntKind.i64 0) w
 t4:P.underlying (ρ.t 4)=some (TypeDesc.bool)
 a4:∀ w,(isAgg (ρ.t 4)).run P w=.ok false w
 z4:∀ w,(Go.sizeOf (ρ.t 4)).run P w=.ok 1 w
 v4:∀ w,(zeroValue (ρ.t 4)).run P w=.ok (Value.bool false) w
 t5:P.underlying (ρ.t 5)=some (TypeDesc.int IntKind.u8)
 a5:∀ w,(isAgg (ρ.t 5)).run P w=.ok false w
 z5:∀ w,(Go.sizeOf (ρ.t 5)).run P w=.ok 1 w
 v5:∀ w,(zeroValue (ρ.t 5)).run P w=.ok (Value.int IntKind.u8 0) w
 t9:P.underlying (ρ.t 9)=some (TypeDesc.string)
 a9:∀ w,(isAgg (ρ.t 9)).run P w=.ok false w
 z9:∀ w,(Go.sizeOf (ρ.t 9)).run P w=.ok 1 w
 v9:∀ w,(zeroValue (ρ.t 9)).run P w=.ok (Value.string { data:=#[] }) w
 t32:P.underlying (ρ.t 32)=some (TypeDesc.int IntKind.u64)
 a32:∀ w,(isAgg (ρ.t 32)).run P w=.ok false w
 z32:∀ w,(Go.sizeOf (ρ.t 32)).run P w=.ok 1 w
 v32:∀ w,(zeroValue (ρ.t 32)).run P w=.ok (Value.int IntKind.u64 0) w
 t44:P.underlying (ρ.t 44)=some (TypeDesc.int IntKind.u32)
 a44:∀ w,(isAgg (ρ.t 44)).run P w=.ok false w
 z44:∀ w,(Go.sizeOf (ρ.t 44)).run P w=.ok 1 w
 v44:∀ w,(zeroValue (ρ.t 44)).run P w=.ok (Value.int IntKind.u32 0) w
 t46:P.underlying (ρ.t 46)=some (TypeDesc.int IntKind.u64)
 a46:∀ w,(isAgg (ρ.t 46)).run P w=.ok false w
 z46:∀ w,(Go.sizeOf (ρ.t 46)).run P w=.ok 1 w
 v46:∀ w,(zeroValue (ρ.t 46)).run P w=.ok (Value.int IntKind.u64 0) w
structure bf.n32 (P:Program) (ρ:Ren):Prop where
 mixed:P.follows .mixedOrders=true
 f32:P.funcs[ρ.f 32]?=some (SlBodyM.n32 ρ)
 t0:P.underlying (ρ.t 0)=some (TypeDesc.tuple #[])
 a0:∀ w,(isAgg (ρ.t 0)).run P w=.ok false w
 z0:∀ w,(Go.sizeOf (ρ.t 0)).run P w=.ok 1 w
 v0:∀ w,(zeroValue (ρ.t 0)).run P w=.ok (Value.tuple #[]) w
 t32:P.underlying (ρ.t 32)=some (TypeDesc.int IntKind.u64)
 a32:∀ w,(isAgg (ρ.t 32)).run P w=.ok false w
 z32:∀ w,(Go.sizeOf (ρ.t 32)).run P w=.ok 1 w
 v32:∀ w,(zeroValue (ρ.t 32)).run P w=.ok (Value.int IntKind.u64 0) w
 t46:P.underlying (ρ.t 46)=some (TypeDesc.int IntKind.u64)
 a46:∀ w,(isAgg (ρ.t 46)).run P w=.ok false w
 z46:∀ w,(Go.sizeOf (ρ.t 46)).run P w=.ok 1 w
 v46:∀ w,(zeroValue (ρ.t 46)).run P w=.ok (Value.int IntKind.u64 0) w
 t53:P.underlying (ρ.t 53)=some (TypeDesc.int IntKind.u64)
 a53:∀ w,(isAgg (ρ.t 53)).run P w=.ok false w
 z53:∀ w,(Go.sizeOf (ρ.t 53)).run P w=.ok 1 w
 v53:∀ w,(zeroValue (ρ.t 53)).run P w=.ok (Value.int IntKind.u64 0) w
 t63:P.underlying (ρ.t 63)=some (TypeDesc.pointer (ρ.t 53))
 a63:∀ w,(isAgg (ρ.t 63)).run P w=.ok false w
 z63:∀ w,(Go.sizeOf (ρ.t 63)).run P w=.ok 1 w
 v63:∀ w,(zeroValue (ρ.t 63)).run P w=.ok (Value.pointer none) w
structure bf.n33 (P:Program) (ρ:Ren):Prop where
 mixed:P.follows .mixedOrders=true
 f16:Bears P (ρ.f 16) (SlBodyM.n16 ρ)
 f33:Bears P (ρ.f 33) (SlBodyM.n33 ρ)
 f34:Bears P (ρ.f 34) (SlBodyM.n34 ρ)
 f35:Bears P (ρ.f 35) (SlBodyM.n35 ρ)
 f40:Bears P (ρ.f 40) (SlBodyM.n40 ρ)
 t0:P.underlying (ρ.t 0)=some (TypeDesc.tuple #[])
 a0:∀ w,(isAgg (ρ.t 0)).run P w=.ok false w
 z0:∀ w,(Go.sizeOf (ρ.t 0)).run P w=.ok 1 w
 v0:∀ w,(zeroValue (ρ.t 0)).run P w=.ok (Value.tuple #[]) w
 t3:P.underlying (ρ.t 3)=some (TypeDesc.int IntKind.i64)
 a3:∀ w,(isAgg (ρ.t 3)).run P w=.ok false w
 z3:∀ w,(Go.sizeOf (ρ.t 3)).run P w=.ok 1 w
 v3:∀ w,(zeroValue (ρ.t 3)).run P w=.ok (Value.int IntKind.i64 0) w
 t4:P.underlying (ρ.t 4)=some (TypeDesc.bool)
 a4:∀ w,(isAgg (ρ.t 4)).run P w=.ok false w
 z4:∀ w,(Go.sizeOf (ρ.t 4)).run P w=.ok 1 w
 v4:∀ w,(zeroValue (ρ.t 4)).run P w=.ok (Value.bool false) w
 t22:P.underlying (ρ.t 22)=some (TypeDesc.slice (ρ.t 25))
 a22:∀ w,(isAgg (ρ.t 22)).run P w=.ok false w
 z22:∀ w,(Go.sizeOf (ρ.t 22)).run P w=.ok 1 w
 v22:∀ w,(zeroValue (ρ.t 22)).run P w=.ok (Value.slice none 0 0) w
 t25:P.underlying (ρ.t 25)=some (TypeDesc.int IntKind.u32)
 a25:∀ w,(isAgg (ρ.t 25)).run P w=.ok false w
 z25:∀ w,(Go.sizeOf (ρ.t 25)).run P w=.ok 1 w
 v25:∀ w,(zeroValue (ρ.t 25)).run P w=.ok (Value.int IntKind.u32 0) w
 t57:P.underlying (ρ.t 57)=some (TypeDesc.pointer (ρ.t 3))
 a57:∀ w,(isAgg (ρ.t 57)).run P w=.ok false w
 z57:∀ w,(Go.sizeOf (ρ.t 57)).run P w=.ok 1 w
 v57:∀ w,(zeroValue (ρ.t 57)).run P w=.ok (Value.pointer none) w
 t64:P.underlying (ρ.t 64)=some (TypeDesc.tuple #[ρ.t 3,ρ.t 3])
 a64:∀ w,(isAgg (ρ.t 64)).run P w=.ok false w
 z64:∀ w,(Go.sizeOf (ρ.t 64)).run P w=.ok 1 w
 v64:∀ w,(zeroValue (ρ.t 64)).run P w=.ok (Value.tuple #[Value.int IntKind.i64 0,Value.int IntKind.i64 0]) w
structure bf.n34 (P:Program) (ρ:Ren):Prop where
 mixed:P.follows .mixedOrders=true
 f16:Bears P (ρ.f 16) (SlBodyM.n16 ρ)
 f34:Bears P (ρ.f 34) (SlBodyM.n34 ρ)
 f35:Bears P (ρ.f 35) (SlBodyM.n35 ρ)
 f40:Bears P (ρ.f 40) (SlBodyM.n40 ρ)
 t0:P.underlying (ρ.t 0)=some (TypeDesc.tuple #[])
 a0:∀ w,(isAgg (ρ.t 0)).run P w=.ok false w
 z0:∀ w,(Go.sizeOf (ρ.t 0)).run P w=.ok 1 w
 v0:∀ w,(zeroValue (ρ.t 0)).run P w=.ok (Value.tuple #[]) w
 t3:P.underlying (ρ.t 3)=some (TypeDesc.int IntKind.i64)
 a3:∀ w,(isAgg (ρ.t 3)).run P w=.ok false w
 z3:∀ w,(Go.sizeOf (ρ.t 3)).run P w=.ok 1 w
 v3:∀ w,(zeroValue (ρ.t 3)).run P w=.ok (Value.int IntKind.i64 0) w
 t4:P.underlying (ρ.t 4)=some (TypeDesc.bool)
 a4:∀ w,(isAgg (ρ.t 4)).run P w=.ok false w
 z4:∀ w,(Go.sizeOf (ρ.t 4)).run P w=.ok 1 w
 v4:∀ w,(zeroValue (ρ.t 4)).run P w=.ok (Value.bool false) w
 t22:P.underlying (ρ.t 22)=some (TypeDesc.slice (ρ.t 25))
 a22:∀ w,(isAgg (ρ.t 22)).run P w=.ok false w
 z22:∀ w,(Go.sizeOf (ρ.t 22)).run P w=.ok 1 w
 v22:∀ w,(zeroValue (ρ.t 22)).run P w=.ok (Value.slice none 0 0) w
 t25:P.underlying (ρ.t 25)=some (TypeDesc.int IntKind.u32)
 a25:∀ w,(isAgg (ρ.t 25)).run P w=.ok false w
 z25:∀ w,(Go.sizeOf (ρ.t 25)).run P w=.ok 1 w
 v25:∀ w,(zeroValue (ρ.t 25)).run P w=.ok (Value.int IntKind.u32 0) w
 t57:P.underlying (ρ.t 57)=some (TypeDesc.pointer (ρ.t 3))
 a57:∀ w,(isAgg (ρ.t 57)).run P w=.ok false w
 z57:∀ w,(Go.sizeOf (ρ.t 57)).run P w=.ok 1 w
 v57:∀ w,(zeroValue (ρ.t 57)).run P w=.ok (Value.pointer none) w
 t64:P.underlying (ρ.t 64)=some (TypeDesc.tuple #[ρ.t 3,ρ.t 3])
 a64:∀ w,(isAgg (ρ.t 64)).run P w=.ok false w
 z64:∀ w,(Go.sizeOf (ρ.t 64)).run P w=.ok 1 w
 v64:∀ w,(zeroValue (ρ.t 64)).run P w=.ok (Value.tuple #[Value.int IntKind.i64 0,Value.int IntKind.i64 0]) w
structure bf.n35 (P:Program) (ρ:Ren):Prop where
 mixed:P.follows .mixedOrders=true
 f35:Bears P (ρ.f 35) (SlBodyM.n35 ρ)
 t4:P.underlying (ρ.t 4)=some (TypeDesc.bool)
 a4:∀ w,(isAgg (ρ.t 4)).run P w=.ok false w
 z4:∀ w,(Go.sizeOf (ρ.t 4)).run P w=.ok 1 w
 v4:∀ w,(zeroValue (ρ.t 4)).run P w=.ok (Value.bool false) w
 t25:P.underlying (ρ.t 25)=some (TypeDesc.int IntKind.u32)
 a25:∀ w,(isAgg (ρ.t 25)).run P w=.ok false w
 z25:∀ w,(Go.sizeOf (ρ.t 25)).run P w=.ok 1 w
 v25:∀ w,(zeroValue (ρ.t 25)).run P w=.ok (Value.int IntKind.u32 0) w
structure bf.n40 (P:Program) (ρ:Ren):Prop where
 mixed:P.follows .mixedOrders=true
 f16:Bears P (ρ.f 16) (SlBodyM.n16 ρ)
 f35:Bears P (ρ.f 35) (SlBodyM.n35 ρ)
 f40:Bears P (ρ.f 40) (SlBodyM.n40 ρ)
 t0:P.underlying (ρ.t 0)=some (TypeDesc.tuple #[])
 a0:∀ w,(isAgg (ρ.t 0)).run P w=.ok false w
 z0:∀ w,(Go.sizeOf (ρ.t 0)).run P w=.ok 1 w
 v0:∀ w,(zeroValue (ρ.t 0)).run P w=.ok (Value.tuple #[]) w
 t3:P.underlying (ρ.t 3)=some (TypeDesc.int IntKind.i64)
 a3:∀ w,(isAgg (ρ.t 3)).run P w=.ok false w
 z3:∀ w,(Go.sizeOf (ρ.t 3)).run P w=.ok 1 w
 v3:∀ w,(zeroValue (ρ.t 3)).run P w=.ok (Value.int IntKind.i64 0) w
 t4:P.underlying (ρ.t 4)=some (TypeDesc.bool)
 a4:∀ w,(isAgg (ρ.t 4)).run P w=.ok false w
 z4:∀ w,(Go.sizeOf (ρ.t 4)).run P w=.ok 1 w
 v4:∀ w,(zeroValue (ρ.t 4)).run P w=.ok (Value.bool false) w
 t22:P.underlying (ρ.t 22)=some (TypeDesc.slice (ρ.t 25))
 a22:∀ w,(isAgg (ρ.t 22)).run P w=.ok false w
 z22:∀ w,(Go.sizeOf (ρ.t 22)).run P w=.ok 1 w
 v22:∀ w,(zeroValue (ρ.t 22)).run P w=.ok (Value.slice none 0 0) w
 t25:P.underlying (ρ.t 25)=some (TypeDesc.int IntKind.u32)
 a25:∀ w,(isAgg (ρ.t 25)).run P w=.ok false w
 z25:∀ w,(Go.sizeOf (ρ.t 25)).run P w=.ok 1 w
 v25:∀ w,(zeroValue (ρ.t 25)).run P w=.ok (Value.int IntKind.u32 0) w
 t57:P.underlying (ρ.t 57)=some (TypeDesc.pointer (ρ.t 3))
 a57:∀ w,(isAgg (ρ.t 57)).run P w=.ok false w
 z57:∀ w,(Go.sizeOf (ρ.t 57)).run P w=.ok 1 w
 v57:∀ w,(zeroValue (ρ.t 57)).run P w=.ok (Value.pointer none) w
open Go.Sort
abbrev aK:Int→Value:=fun x=>Value.int .u32 x
theorem gF {w:World} {blk off sb so n t:Nat} {d:Array Int} (h:Holds (Value.int .u32) w blk off d) (hne:sb≠blk):Holds (Value.int .u32) (putRow (Value.int .i64) (Sort.ahead w n) sb so (one t)) blk off d:=fun j hj =>
 ⟨by rw[cell?_putRow_other _ _ _ _ _ _ (Or.inl (Ne.symm hne))];exact(h j hj).1,by rw[frozen?_putRow];exact(h j hj).2⟩
end Go.Proofs.YtiomgckodmecbaaGreat
namespace Go.Proofs.YtiomgckodmecbaaGreat
open Go.RowKit Go.Maps Go.Sort Go.Shelf
variable {P:Program} {ρ:Ren}
def bU.apAssign (ρ : Ren) : Code := (Code.region 2 #[{ dst := some 5, op := Op.assign (Operand.tmp 7), type := ρ.t 26, pos := "iter.go:51", after := #[], guard := none }] false)
def bU.apBody (ρ : Ren) : Code := (Code.block 1 (Code.region 3 #[{ dst := some 8, op := Op.load (ρ.t 24) (Operand.tmp 2), type := ρ.t 24, pos := "iter.go:52", after := #[], guard := none }, { dst := some 9, op := Op.move (Operand.tmp 5), type := ρ.t 26, pos := "iter.go:52", after := #[], guard := none }, { dst := some 10, op := Op.buildSlice (ρ.t 24) 1 #[(0, Operand.tmp 9)], type := ρ.t 24, pos := "iter.go:52", after := #[{ on := 1, ground := Ground.data }], guard := none }, { dst := some 11, op := Op.call { callee := Callee.builtin Builtin.append, args := #[Operand.tmp 8, Operand.tmp 10], argTypes := #[ρ.t 24, ρ.t 24] }, type := ρ.t 24, pos := "iter.go:52", after := #[{ on := 0, ground := Ground.data }, { on := 2, ground := Ground.data }], guard := none }, { dst := none, op := Op.store (ρ.t 24) (Operand.tmp 2) (Operand.tmp 11), type := ρ.t 0, pos := "iter.go:52", after := #[{ on := 3, ground := Ground.data }, { on := 3, ground := Ground.chain }, { on := 0, ground := Ground.phase }, { on := 1, ground := Ground.phase }, { on := 2, ground := Ground.phase }, { on := 3, ground := Ground.phase }], guard := none }] false))
def bU.apRec (ρ:Ren) (fn:FuncId) (sv:Value) (Bs D:Nat) (st:LoopState) (pend:Option Code):Loop :=
  { state:=st,pending:=pend,fn,tmps:=#[.slice none 0 0,sv,.pointer (some ⟨Bs,0,none⟩),undef,.slice none 0 0,undef,sv,undef,undef,undef,undef,undef,undef],params:=#[7],assign:=bU.apAssign ρ,body:=bU.apBody ρ,defers:=D }
structure bU.ApAt (ρ:Ren) (w0:World) (fn:FuncId) (sv:Value) (Bs l D:Nat) (ss:List Int) (W:World):Prop where
  box:∃ v,W.heap[Bs]?=some (.cells #[v] (ρ.t 24) (0,0))∧W.ownsRow w0.heap.size (ρ.t 26) 1 v ss.length (ss.map aK)∧(v=.slice none 0 0↔ss=[])
  L:W.heap[l]?=some (.loop (bU.apRec ρ fn sv Bs D .ready none))
  K:W.heap[D]?=some (.deferred (some []))
  below:Below w0.heap.size w0 W
theorem bU.ap_abides (ρ:Ren) (w0:World) (fn:FuncId) (sv:Value) (Bs l D B:Nat) (hB:w0.heap.size≤B):AbidesFrom B (bU.ApAt ρ w0 fn sv Bs l D):=fun s W W' row h hg hrow=>by
  have hrow':∀ r,row=some r→∃ o:Obj,W.heap[r]?=some o∧o.isWalk=true:=fun r e=>(hrow r e).2
  obtain⟨v,hv,hr,hn⟩:=h.box
  exact⟨⟨v,(grownBy_keeps hg hrow' hv rfl).trans hv,ownsRow_abides_a hr hg hrow',hn⟩,(grownBy_keeps hg hrow' h.L rfl).trans h.L,(grownBy_keeps hg hrow' h.K rfl).trans h.K,
    h.below.grown hg h.below.size (fun k e=>Nat.le_trans hB (hrow k e).1)⟩
theorem bU.apYield (L:uI.n11 P ρ) (F:Fence) (m:Nat) (w0:World) (fn:FuncId) (hfn:F.fn fn) (sv:Value) (Bs l D:Nat) (hBl:Bs≠l) (hDl:D≠l) (hDB:D≠Bs) (h0B:w0.heap.size≤Bs) (h0l:w0.heap.size≤l)
    (N:Nat) (hN:N≤maxLen) (hNb:N*4≤140737488355328) (ss:List Int) (x:Int) (W:World) (h:bU.ApAt ρ w0 fn sv Bs l D ss W) (hlen:ss.length<N) :
    YieldAt F m P l #[aK x] W fun e W'=>e=.returned (.bool true)∧bU.ApAt ρ w0 fn sv Bs l D (ss++[x]) W'∧KeepsWalks W W':=by
  have mixed:=L.mixed;have t0:=L.t0;have a0:=L.a0;have z0:=L.z0;have v0:=L.v0;have t24:=L.t24;have a24:=L.a24;have z24:=L.z24;have v24:=L.v24;have t26:=L.t26;have a26:=L.a26;have z26:=L.z26;have v26:=L.v26;have t28:=L.t28;have a28:=L.a28;have z28:=L.z28;have v28:=L.v28;have hne:ρ.t 24≠ρ.t 26:=fun e=>by have h:=L.t24;rw[e,L.t26] at h;cases h
  have u0:=run_underlying L.t0;have u24:=run_underlying L.t24;have u26:=run_underlying L.t26;have u28:=run_underlying L.t28;obtain⟨i0,hi,hz0,hz1,hz2⟩:=info_parts L.i26;obtain⟨v,hv,hrow,_⟩:=h.box;refine⟨fn,#[.slice none 0 0,sv,.pointer (some ⟨Bs,0,none⟩),undef,.slice none 0 0,undef,sv,aK x,undef,undef,undef,undef,undef],bU.apAssign ρ,bU.apBody ρ,by simpa [bU.apRec] using run_yield (P:=P) (args:=#[aK x]) h.L rfl,roundIn_of_wpIn hfn ?_⟩;have hl:l<W.heap.size:=(Array.getElem?_eq_some_iff.1 h.L).1;have hbr:=run_beginRound (P:=P) h.L rfl;obtain⟨W2,hW2⟩:∃ W2,W.putObj l (.loop { bU.apRec ρ fn sv Bs D .ready none with state:=.busy })=W2:=⟨_,rfl⟩;rw[hW2] at hbr;have hg2:W.grownBy W2 (some l):=by rw[← hW2];exact grownBy_putObj_a _ _ _
  have hk2:KeepsWalks W W2:=by rw[← hW2];exact KeepsWalks.putObj _ h.L rfl
  have hv2:W2.heap[Bs]?=some (.cells #[v] (ρ.t 24) (0,0)):=by rw[← hW2];exact(World.putObj_heap_other hBl).trans hv
  have hK2:W2.heap[D]?=some (.deferred (some [])):=by rw[← hW2];exact(World.putObj_heap_other hDl).trans h.K
  have hL2:W2.heap[l]?=some (.loop { bU.apRec ρ fn sv Bs D .ready none with state:=.busy }):=by rw[← hW2];exact World.putObj_heap_same hl
  have hrow2:W2.ownsRow w0.heap.size (ρ.t 26) 1 v ss.length (ss.map aK):=hrow.kept hg2 (ownsRow_ne_a hrow h.L (fun cur e=>by first | cases e | exact hne (Obj.cells.inj e).2.1));have hb2:Below w0.heap.size w0 W2:=h.below.grown hg2 h.below.size (fun k e=>by cases e;exact h0l);obtain⟨hc2,hf2⟩:=cell_of_box_a hv2;have hBlt:Bs<W2.heap.size:=(Array.getElem?_eq_some_iff.1 hv2).1;have hl2:l<W2.heap.size:=(Array.getElem?_eq_some_iff.1 hL2).1;have hDlt:D<W2.heap.size:=(Array.getElem?_eq_some_iff.1 hK2).1;have ne_of:∀ {j:Nat} {o:Obj},W2.heap[j]?=some o→(∀ cur,o≠.cells cur (ρ.t 26) (0,0))→some j≠v.ownBlock:=fun hj hno=>by
    rcases ownsRow_ne_a hrow2 hj hno with e | e
    · rw[e];simp
    · exact fun e'=>e e'.symm
  clear hW2;unfold bU.apAssign
  gi_wp2_with gi_round_op_a
  unfold bU.apBody
  gi_wp2_with (first
    | (gi_at_builtin;refine wpListIn_append_own _ rfl _ _ (ρ.t 24) rfl w0.heap.size (ρ.t 26) i0 (.int .u32 0) 1 4 L.t24 hi hz0 hz1 hz2 rfl (by decide) _ _ _ rfl (hrow2.alloc _) ⟨W2.heap.size,0,none⟩ 1 1 [aK x] rfl rfl (cell_one_new _ _ _) (by simp[Value.oneCell',aK]) (by omega) (by omega) (by have:=hb2.size;simp <;> omega) ?_;intro v' w3 hown' hg3 hnil3
       have hv3:w3.heap[Bs]?=some (.cells #[v] (ρ.t 24) (0,0)):=(hg3.block Bs (by simp <;> omega) (ne_of hv2 (fun cur e=>by first | cases e | exact hne (Obj.cells.inj e).2.1))).trans ((Below.heap_alloc _ _ Bs hBlt).trans hv2);obtain⟨hc3,hf3⟩:=cell_of_box_a hv3;obtain⟨g',cap',cur',rfl,hbase',hgb',hr1,hr2,hr3,hr4⟩:∃ g' cap' cur',v'=.slice (some ⟨g',0,none⟩) (ss.length+1) cap'∧w0.heap.size≤g'∧w3.heap[g']?=some (.cells cur' (ρ.t 26) (0,0))∧ss.length+1≤cap'∧cap'≤maxLen∧cur'.size=cap'*1∧cur'.toList.take ((ss.length+1)*1)=ss.map aK++[aK x]:=by
         rcases hown'.2 with⟨_,h0⟩ | h'
         · exact absurd h0 (by omega)
         · exact h'
       go_frame)
    | gi_round_op_a)
  have hg3':(W2.alloc (.cells #[aK x] (ρ.t 26))).grownBy w3 v.ownBlock:=hg3;have hL3:w3.heap[l]?=some (.loop { bU.apRec ρ fn sv Bs D .ready none with state:=.busy }):=(hg3'.block l (by simp <;> omega) (ne_of hL2 (fun cur e=>by first | cases e | exact hne (Obj.cells.inj e).2.1))).trans ((Below.heap_alloc _ _ l hl2).trans hL2);have hK3:w3.heap[D]?=some (.deferred (some [])):=(hg3'.block D (by simp <;> omega) (ne_of hK2 (fun cur e=>by first | cases e | exact hne (Obj.cells.inj e).2.1))).trans ((Below.heap_alloc _ _ D hDlt).trans hK2);obtain⟨w4,hw4⟩:∃ w4,w3.setCell ⟨Bs,0,none⟩ (.slice (some ⟨g',0,none⟩) (ss.length+1) cap')=w4:=⟨_,rfl⟩;rw[hw4];have hg4:w3.grownBy w4 (some Bs):=by rw[← hw4];exact grownBy_setCell0_a _ _ _
  have hv4:w4.heap[Bs]?=some (.cells #[.slice (some ⟨g',0,none⟩) (ss.length+1) cap'] (ρ.t 24) (0,0)):=by rw[← hw4];exact heap_setCell_box_a _ hv3
  have hL4:w4.heap[l]?=some (.loop { bU.apRec ρ fn sv Bs D .ready none with state:=.busy }):=(hg4.block l (Array.getElem?_eq_some_iff.1 hL3).1 (fun e=>hBl (by cases e;rfl))).trans hL3;have hK4:w4.heap[D]?=some (.deferred (some [])):=(hg4.block D (Array.getElem?_eq_some_iff.1 hK3).1 (fun e=>hDB (by cases e;rfl))).trans hK3;have hrow4:=hown'.kept hg4 (ownsRow_ne_a hown' hv3 (fun cur e=>by first | cases e | exact hne (Obj.cells.inj e).2.1));have hl4:l<w4.heap.size:=(Array.getElem?_eq_some_iff.1 hL4).1;have hb3:Below w0.heap.size w0 w3:=(hb2.alloc hb2.size _).grown hg3' (by have:=hb2.size;simp <;> omega) (fun k e=>(hrow2.lt k e).1);have hb4:Below w0.heap.size w0 w4:=hb3.grown hg4 hb3.size (fun k e=>by cases e;exact h0B);have hk4:KeepsWalks W w4:=((hk2.trans (KeepsWalks.alloc _ _)).trans (KeepsWalks.of_grownBy hg3' (ownsRow_not_walk_a (hrow2.alloc _)))).trans (by rw[← hw4];exact KeepsWalks.setCell _ _ _);clear hw4;refine⟨_,_,run_endRound none hL4,rfl,⟨⟨_,(World.putObj_heap_other hBl).trans hv4,?_,by simp⟩,World.putObj_heap_same hl4,(World.putObj_heap_other hDl).trans hK4,hb4.grown (grownBy_putObj_a _ _ _) hb4.size (fun k e=>by cases e;exact h0l)⟩,hk4.trans (KeepsWalks.putObj _ hL4 rfl)⟩
  have:=hrow4.kept (grownBy_putObj_a w4 l (.loop { { bU.apRec ρ fn sv Bs D .ready none with state:=.busy } with state:=if (none:Option Code).isNone then .ready else .done,pending:=none })) (ownsRow_ne_a hrow4 hL4 (fun cur e=>by first | cases e | exact hne (Obj.cells.inj e).2.1))
  simpa using this
theorem bU.appendSeq_in (L:uI.n11 P ρ) (F:Fence) (n:Nat) (h11:F.fn (ρ.f 11)) (hro:F.round=none) (hn:2≤n) (g:Nat) (lb:Array Value) (hFg:F.fn g) (eg:∀ args w,(callFunc g args).run P w=.ok (.enter g args) w)
    (S:List Int→Prop) (N:Nat) (hN:N≤maxLen) (hNb:N*4≤140737488355328) (w:World) (hseq:SeqGives F (n-1) P g lb aK S N w) :
    CallsIn F n P (ρ.f 11) #[.slice none 0 0,.func (.func g) #[] lb] w fun e w'=>∃ (v:Value) (ss:List Int),e=.returned v∧S ss∧w'.ownsRow w.heap.size (ρ.t 26) 1 v ss.length (ss.map aK)∧(v=.slice none 0 0↔ss=[])∧Below w.heap.size w w':=by
  have h1:1≤n:=by omega
  have mixed:=L.mixed;have t0:=L.t0;have a0:=L.a0;have z0:=L.z0;have v0:=L.v0;have t24:=L.t24;have a24:=L.a24;have z24:=L.z24;have v24:=L.v24;have t26:=L.t26;have a26:=L.a26;have z26:=L.z26;have v26:=L.v26;have t28:=L.t28;have a28:=L.a28;have z28:=L.z28;have v28:=L.v28;have hne:ρ.t 24≠ρ.t 26:=fun e=>by have h:=L.t24;rw[e,L.t26] at h;cases h
  have u0:=run_underlying L.t0;have u24:=run_underlying L.t24;have u26:=run_underlying L.t26;have u28:=run_underlying L.t28;obtain⟨_,_,FG⟩:=L.f11;refine callsIn_of_wp_marks FG rfl h11 ?_ hro;simp only[SlBodyZ.n11_ntmps ρ,List.size_toArray,List.length_cons,List.length_nil,Nat.reduceAdd,Nat.reduceSub,Array.replicate_succ,Array.replicate_zero,List.push_toArray,List.append_toArray,List.nil_append,List.cons_append]
  gi_wp2
  refine wpIn_rangeFunc ?_;intro fn hfn;rw[hro];obtain⟨W0,hW0⟩:∃ W0,w.alloc (.cells #[.slice none 0 0] (ρ.t 24))=W0:=⟨_,rfl⟩;have hs0:W0.heap.size=w.heap.size+1:=by rw[← hW0];simp
  have hv0:W0.heap[w.heap.size]?=some (.cells #[.slice none 0 0] (ρ.t 24) (0,0)):=by rw[← hW0];exact World.alloc_heap_new w _
  have hb0:Below w.heap.size w W0:=by rw[← hW0];exact(Below.refl _ w).alloc (Nat.le_refl _) _
  rw[hW0];obtain⟨W1,hW1⟩:∃ W1,(W0.alloc (.deferred (some []))).alloc (.loop (bU.apRec ρ fn (.func (.func g) #[] lb) w.heap.size W0.heap.size .ready none))=W1:=⟨_,rfl⟩;have hold:∀ k,k<W0.heap.size→W1.heap[k]?=W0.heap[k]?:=fun k hk=>by
    rw[← hW1];exact(Below.heap_alloc _ _ k (by simp <;> omega)).trans (Below.heap_alloc _ _ k hk)
  have hb1:Below w.heap.size w W1:=by rw[← hW1];exact(hb0.alloc hb0.size _).alloc (by have:=hb0.size;simp <;> omega) _
  have hs1:W1.heap.size=W0.heap.size+2:=by rw[← hW1];simp
  have hM:bU.ApAt ρ w fn (.func (.func g) #[] lb) w.heap.size (W0.heap.size+1) W0.heap.size [] W1 :=
    ⟨⟨_,(hold w.heap.size (by omega)).trans hv0,⟨rfl,.inl ⟨rfl,rfl⟩⟩,by simp⟩,
     by rw[← hW1];have:=World.alloc_heap_new (W0.alloc (.deferred (some []))) (.loop (bU.apRec ρ fn (.func (.func g) #[] lb) w.heap.size W0.heap.size .ready none));rwa [World.size_alloc] at this,
     by rw[← hW1];exact(Below.heap_alloc _ _ _ (by simp)).trans (World.alloc_heap_new W0 _),hb1⟩
  refine⟨W0.heap.size+1,[{ target:=.collected W0.heap.size,args:=#[] }],W1,{ target:=.fn (.func g) lb,args:=#[.func (.yield (W0.heap.size+1)) #[] #[]] },W1,g,
    #[.func (.yield (W0.heap.size+1)) #[] #[]]++lb,W1,?_,?_,?_,?_,fun _=>h1,?_⟩
  · rw[← hW1];exact run_enterLoop_outer _ _ _ _ _
  · simp[resolve,go_sem]
  · intro f' hf';simp[Target.leads] at hf';subst hf';exact hFg
  · simp[invoke,go_sem,eg]
  · refine(hseq (W0.heap.size+1) (bU.ApAt ρ w fn (.func (.func g) #[] lb) w.heap.size (W0.heap.size+1) W0.heap.size) W1 hb1 (bU.ap_abides ρ _ _ _ _ _ _ _ hb1.size)
      (fun pre x W hJ hl=>bU.apYield { L with } F (n-1-1) w fn hfn _ w.heap.size (W0.heap.size+1) W0.heap.size (by omega) (by omega) (by omega) (Nat.le_refl _) (by omega) N hN hNb pre x W hJ hl) hM).mono ?_
    rintro e W2 ⟨⟨v0,rfl⟩,ss,hS,h2⟩;obtain⟨v,hv,hrow,hnil⟩:=h2.box;have hend:=run_endLoop (P:=P) h2.L (by simp[bU.apRec]);obtain⟨W3,hW3⟩:∃ W3,W2.putObj (W0.heap.size+1) (.loop { bU.apRec ρ fn (.func (.func g) #[] lb) w.heap.size W0.heap.size .ready none with state:=.exhausted })=W3:=⟨_,rfl⟩;rw[hW3] at hend;have hg3:W2.grownBy W3 (some (W0.heap.size+1)):=by rw[← hW3];exact grownBy_putObj_a _ _ _
    have hv3:W3.heap[w.heap.size]?=some (.cells #[v] (ρ.t 24) (0,0)):=by rw[← hW3];exact(World.putObj_heap_other (by omega)).trans hv
    have hK3:W3.heap[W0.heap.size]?=some (.deferred (some [])):=by rw[← hW3];exact(World.putObj_heap_other (by omega)).trans h2.K
    have hrow3:=hrow.kept hg3 (ownsRow_ne_a hrow h2.L (fun cur e=>by first | cases e | exact hne (Obj.cells.inj e).2.1));have hb3:Below w.heap.size w W3:=h2.below.grown hg3 h2.below.size (fun k e=>by cases e;omega);obtain⟨hc3,hf3⟩:=cell_of_box_a hv3;clear hW3;refine⟨none,W3,hend,?_⟩
    gi_wp2
    rw[← hs0];refine⟨by simp,.inl ⟨_,_,rfl,run_takeDeferred hK3,?_⟩⟩;exact⟨_,results_tmp rfl _ _ _,v,ss,rfl,hS,hrow3.kept (grownBy_putObj_a _ _ _) (ownsRow_ne_a hrow3 hK3 (fun cur e=>by first | cases e | exact hne (Obj.cells.inj e).2.1)),hnil,hb3.grown (grownBy_putObj_a _ _ _) hb3.size (fun k e=>by cases e;omega)⟩
theorem bU.collect_in (L:uI.n8 P ρ) (F:Fence) (n:Nat) (h8:F.fn (ρ.f 8)) (h11:F.fn (ρ.f 11)) (hro:F.round=none) (hn:3≤n) (g:Nat) (lb:Array Value) (hFg:F.fn g) (eg:∀ args w,(callFunc g args).run P w=.ok (.enter g args) w)
    (S:List Int→Prop) (N:Nat) (hN:N≤maxLen) (hNb:N*4≤140737488355328) (w:World) (hseq:SeqGives F (n-1-1) P g lb aK S N w) :
    CallsIn F n P (ρ.f 8) #[.func (.func g) #[] lb] w fun e w'=>∃ (v:Value) (ss:List Int),e=.returned v∧S ss∧w'.ownsRow w.heap.size (ρ.t 26) 1 v ss.length (ss.map aK)∧(v=.slice none 0 0↔ss=[])∧Below w.heap.size w w':=by
  have h1:1≤n:=by omega
  have e11:∀ args w,(callFunc (ρ.f 11) args).run P w=.ok (.enter (ρ.f 11) args) w:=L.f11.enters rfl;have mixed:=L.mixed;have t0:=L.t0;have a0:=L.a0;have z0:=L.z0;have v0:=L.v0;have t24:=L.t24;have a24:=L.a24;have z24:=L.z24;have v24:=L.v24;have t26:=L.t26;have a26:=L.a26;have z26:=L.z26;have v26:=L.v26;have t28:=L.t28;have a28:=L.a28;have z28:=L.z28;have v28:=L.v28;have u0:=run_underlying L.t0;have u24:=run_underlying L.t24;have u26:=run_underlying L.t26;have u28:=run_underlying L.t28;obtain⟨_,_,FG⟩:=L.f8;refine callsIn_of_wp FG rfl h8 ?_ hro;simp only[SlBodyZ.n8_ntmps ρ,List.size_toArray,List.length_cons,List.length_nil,Nat.reduceAdd,Nat.reduceSub,Array.replicate_succ,Array.replicate_zero,List.push_toArray,List.append_toArray,List.nil_append,List.cons_append]
  gi_wp2_with (gi_at_fn (ρ.f 11);refine(bU.appendSeq_in { L with } F (n-1) h11 hro (by omega) g lb hFg eg S N hN hNb _ hseq).mono ?_;rintro e w' ⟨v,ss,rfl,hS,hrow,hnil,hb⟩)
  go_ret;exact⟨v,ss,rfl,hS,hrow,hnil,hb⟩
end Go.Proofs.YtiomgckodmecbaaGreat
namespace Go.Proofs.YtiomgckodmecbaaGreat
open Go.RowKit Go.Maps Go.Sort Go.Shelf
variable {P:Program} {ρ:Ren}
section
open Go.ChangeShapes Go.WideShapes
theorem qL {w:World} {g:Nat} {cur:Array Value} {e:TypeId} {ss:List Int} (hb:w.heap[g]?=some (.cells cur e (0,0))) (ht:cur.toList.take ss.length=ss.map aK):Holds aK w g 0 ss.toArray:=by
 intro j hj;have hj':j<ss.length:=by simpa using hj
 refine⟨?_,by simp[World.frozen?,hb]⟩;have h1:(cur.toList.take ss.length)[j]?=(ss.map aK)[j]?:=by rw[ht]
 rw[List.getElem?_take_of_lt hj'] at h1;simp only[World.cell?,hb,Nat.zero_add];simp only[Option.isSome_none,Bool.false_eq_true,if_false];rw[← Array.getElem?_toList,h1];simp[hj']
theorem xk {w:World} {g n:Nat} {os:Array Obj} {cur:Array Value} {e:TypeId} {fr:Nat×Nat} (d:Array Int) (hb:w.heap[g]?=some (.cells cur e fr)) :
  (grow (putRow aK (Sort.ahead w n) g 0 d) os).heap[g]?=some (.cells (putCells aK 0 d cur) e fr):=by
 have hg:g<w.heap.size:=(Array.getElem?_eq_some_iff.1 hb).1;rw[heap_grow_old _ _ (by simpa using hg)];simp[putRow,mapBlock,Sort.ahead,Array.getElem?_modify,hb,onCells]
theorem qM {w:World} {g n:Nat} {os:Array Obj} (d:Array Int):w.grownBy (grow (putRow aK (Sort.ahead w n) g 0 d) os) (some g):=by
 refine⟨rfl,rfl,rfl,by simp,fun k hk hne=>?_⟩;rw[heap_grow_old _ _ (by simpa using hk)]
 have:g≠k:=fun e=>hne (by rw[e])
 simp[putRow,mapBlock,Sort.ahead,Array.getElem?_modify,this]
theorem tq (cur:Array Value) (ts:List Int) (h:ts.length≤cur.size):(putCells aK 0 ts.toArray cur).toList.take ts.length=ts.map aK:=by
 apply List.ext_getElem?;intro j;by_cases hj:j<ts.length
 ·rw[List.getElem?_take_of_lt hj,Array.getElem?_toList];simp[putCells,hj,show j<cur.size by omega]
 ·rw[List.getElem?_take_eq_none (by omega),List.getElem?_eq_none (by simp <;> omega)]
theorem qN {w:World} {base g cap n:Nat} {e:TypeId} {os:Array Obj} {cur:Array Value} {ss ts:List Int} (hl:ts.length=ss.length) (hbase:base≤g) (hb:w.heap[g]?=some (.cells cur e (0,0)))
  (h1:ss.length≤cap) (h2:cap≤maxLen) (h3:cur.size=cap*1) :
  (grow (putRow aK (Sort.ahead w n) g 0 ts.toArray) os).ownsRow base e 1 (.slice (some ⟨g,0,none⟩) ss.length cap) ss.length (ts.map aK) :=
 ⟨by simp[hl],.inr ⟨g,cap,_,rfl,hbase,xk _ hb,h1,h2,by simp[putCells,h3],by rw[Nat.mul_one,← hl];exact tq cur ts (by omega)⟩⟩
end
def bU.SortsIn (P:Program) (ρ:Ren) (F:Fence) (m:Nat):Prop :=
 (∀ (blk off cap:Nat) (ss:List Int) (W:World),Holds aK W blk off ss.toArray→blk<W.heap.size→ss.length<4611686018427387904→
  CallsIn F m P (ρ.f 9) #[.slice (some ⟨blk,off,none⟩) ss.length cap] W fun e w'=>e=.returned (.tuple #[])∧∃ k os,w'=grow (putRow aK (Sort.ahead W k) blk off (ss.mergeSort fun x y=>decide (x≤y)).toArray) os)∧
 (∀ (p:Option Addr) (cap:Nat) (W:World),CallsIn F m P (ρ.f 9) #[.slice p 0 cap] W fun e w'=>e=.returned (.tuple #[])∧w'=W)
theorem bU.sorted_in (L:uI.n6 P ρ) (F:Fence) (n:Nat) (h6:F.fn (ρ.f 6)) (h8:F.fn (ρ.f 8)) (h9:F.fn (ρ.f 9)) (h11:F.fn (ρ.f 11)) (hro:F.round=none) (hn:4≤n) (hsort:bU.SortsIn P ρ F (n-1)) (e9:∀ args w,(callFunc (ρ.f 9) args).run P w=.ok (.enter (ρ.f 9) args) w) (g:Nat) (lb:Array Value) (hFg:F.fn g) (eg:∀ args w,(callFunc g args).run P w=.ok (.enter g args) w)
  (S:List Int→Prop) (N:Nat) (hN:N≤maxLen) (hNb:N*4≤140737488355328) (w:World) (hseq:SeqGives F (n-1-1-1) P g lb aK S N w) :
  CallsIn F n P (ρ.f 6) #[.func (.func g) #[] lb] w fun e w'=>∃ (v:Value) (ss:List Int),e=.returned v∧S ss∧
   w'.ownsRow w.heap.size (ρ.t 26) 1 v ss.length ((ss.mergeSort (fun x y=>decide (x≤y))).map aK)∧(v=.slice none 0 0↔ss=[])∧Below w.heap.size w w':=by
 have h1:1≤n:=by omega
 have e8:∀ args w,(callFunc (ρ.f 8) args).run P w=.ok (.enter (ρ.f 8) args) w:=L.f8.enters rfl;have mixed:=L.mixed;have t0:=L.t0;have a0:=L.a0;have z0:=L.z0;have v0:=L.v0;have t24:=L.t24;have a24:=L.a24;have z24:=L.z24;have v24:=L.v24;have t26:=L.t26;have a26:=L.a26;have z26:=L.z26;have v26:=L.v26;have t28:=L.t28;have a28:=L.a28;have z28:=L.z28;have v28:=L.v28;have u0:=run_underlying L.t0;have u24:=run_underlying L.t24;have u26:=run_underlying L.t26;have u28:=run_underlying L.t28;obtain⟨_,_,FG⟩:=L.f6;refine callsIn_of_wp FG rfl h6 ?_ hro;simp only[SlBodyZ.n6_ntmps ρ,List.size_toArray,List.length_cons,List.length_nil,Nat.reduceAdd,Nat.reduceSub,Array.replicate_succ,Array.replicate_zero,List.push_toArray,List.append_toArray,List.nil_append,List.cons_append]
 gi_wp2_with (gi_at_fn (ρ.f 8);refine(bU.collect_in { L with } F (n-1) h8 h11 hro (by omega) g lb hFg eg _ N hN hNb _ hseq.bounded).mono ?_;rintro e W ⟨v,ss,rfl,⟨hS,hlen⟩,hrow,hnil,hb⟩)
 rcases hrow.2 with⟨rfl,hz⟩ | ⟨gb,cap,cur,rfl,hbase,hgb,r1,r2,r3,r4⟩
 ·
  have hss:ss=[]:=List.eq_nil_of_length_eq_zero hz;subst hss
  gi_wp2_with (gi_at_fn (ρ.f 9);refine(hsort.2 none 0 W).mono ?_;rintro e w' ⟨rfl,rfl⟩)
  go_ret;exact⟨.slice none 0 0,[],rfl,hS,by simpa using hrow,by simp,hb⟩
 ·have hH:Holds aK W gb 0 ss.toArray:=qL hgb (by simpa using r4);have hgl:gb<W.heap.size:=(Array.getElem?_eq_some_iff.1 hgb).1;have hsz:ss.length<4611686018427387904:=by omega
  have cS:=hsort.1 gb 0 cap ss W hH hgl hsz
  gi_wp2_with (gi_at_fn (ρ.f 9);refine cS.mono ?_;rintro e w' ⟨rfl,nn,os,rfl⟩)
  go_ret;exact⟨_,ss,rfl,hS,qN (by simp) hbase hgb r1 r2 r3,hnil,hb.grown (qM _) hb.size (fun j hj=>by cases hj;exact hbase)⟩
end Go.Proofs.YtiomgckodmecbaaGreat
namespace Go.Proofs.YtiomgckodmecbaaGreat
open Go.Shelf
variable {P:Program} {ρ:Ren}
theorem aC.cmp_isNaN_intIn (Ly:bf.n35 P ρ) (D:Nat) (x:Int) (w:World):CallsIn (Fence.list [ρ.f 5,ρ.f 7,ρ.f 8,ρ.f 10,ρ.f 11,ρ.f 12,ρ.f 13,ρ.f 14,ρ.f 15,ρ.f 16,ρ.f 17,ρ.f 18,ρ.f 20,ρ.f 30,ρ.f 31,ρ.f 32,ρ.f 33,ρ.f 34,ρ.f 35,ρ.f 40] (some D)) 0 P (ρ.f 35) #[.int .u32 x] w fun e w'=>e=.returned (.bool false)∧w'=w:=by
 have mixed:=Ly.mixed;have t4:=Ly.t4;have a4:=Ly.a4;have z4:=Ly.z4;have v4:=Ly.v4;have t25:=Ly.t25;have a25:=Ly.a25;have z25:=Ly.z25;have v25:=Ly.v25;obtain⟨_,_,FG⟩:=Ly.f35
 gi_enter FG,SlBodyM.n35_ntmps ρ
 gi_wp2
 go_ret;exact⟨by simp,rfl⟩
theorem aC.cmp_Less_intIn (Ly:bf.n16 P ρ) (D:Nat) (x y:Int) (w:World):CallsIn (Fence.list [ρ.f 5,ρ.f 7,ρ.f 8,ρ.f 10,ρ.f 11,ρ.f 12,ρ.f 13,ρ.f 14,ρ.f 15,ρ.f 16,ρ.f 17,ρ.f 18,ρ.f 20,ρ.f 30,ρ.f 31,ρ.f 32,ρ.f 33,ρ.f 34,ρ.f 35,ρ.f 40] (some D)) 1 P (ρ.f 16) #[.int .u32 x,.int .u32 y] w fun e w'=>e=.returned (.bool (Sort.ltInt x y))∧w'=w:=by
 have mixed:=Ly.mixed;have t4:=Ly.t4;have a4:=Ly.a4;have z4:=Ly.z4;have v4:=Ly.v4;have t25:=Ly.t25;have a25:=Ly.a25;have z25:=Ly.z25;have v25:=Ly.v25;have e215:∀ args w,(callFunc (ρ.f 35) args).run P w=.ok (.enter (ρ.f 35) args) w:=Ly.f35.enters rfl;obtain⟨_,_,FG⟩:=Ly.f16
 gi_enter FG,SlBodyM.n16_ntmps ρ
 gi_wp2_with (gi_at_fn (ρ.f 35);refine(aC.cmp_isNaN_intIn { Ly with } D _ _).mono ?_;rintro e w' ⟨rfl,rfl⟩)
 go_ret;exact⟨rfl,rfl⟩
end Go.Proofs.YtiomgckodmecbaaGreat
namespace Go.Proofs.YtiomgckodmecbaaGreat
open Go.Shelf
variable {P:Program} {ρ:Ren}
open Go.RowKit Go.Sort
section
variable {α:Type} [Inhabited α] (lt:α→α→Bool)
end
section
variable {α:Type} [Inhabited α] (enc:α→Value)
end
theorem aC.insertionSort_intIn (Ly:bf.n10 P ρ) (D:Nat) (blk off cap a b:Nat) (d:Array Int) (w:World) (hH:Holds (Value.int .u32) w blk off d) (hab:a≤b) (hb:b≤d.size) (hsz:d.size<4611686018427387904) :
  CallsIn (Fence.list [ρ.f 5,ρ.f 7,ρ.f 8,ρ.f 10,ρ.f 11,ρ.f 12,ρ.f 13,ρ.f 14,ρ.f 15,ρ.f 16,ρ.f 17,ρ.f 18,ρ.f 20,ρ.f 30,ρ.f 31,ρ.f 32,ρ.f 33,ρ.f 34,ρ.f 35,ρ.f 40] (some D)) 2 P (ρ.f 10) #[.slice (some ⟨blk,off,none⟩) d.size cap,.int .i64 a,.int .i64 b] w fun e w' =>
   e=.returned (.tuple #[])∧∃ n,w'=putRow (Value.int .u32) (Sort.ahead w n) blk off (Sort.insertionSort ltInt d a b):=by
 have mixed:=Ly.mixed;have t0:=Ly.t0;have a0:=Ly.a0;have z0:=Ly.z0;have v0:=Ly.v0;have t3:=Ly.t3;have a3:=Ly.a3;have z3:=Ly.z3;have v3:=Ly.v3;have t4:=Ly.t4;have a4:=Ly.a4;have z4:=Ly.z4;have v4:=Ly.v4;have t22:=Ly.t22;have a22:=Ly.a22;have z22:=Ly.z22;have v22:=Ly.v22;have t25:=Ly.t25;have a25:=Ly.a25;have z25:=Ly.z25;have v25:=Ly.v25;have e216:∀ args w,(callFunc (ρ.f 16) args).run P w=.ok (.enter (ρ.f 16) args) w:=Ly.f16.enters rfl;obtain⟨_,_,FG⟩:=Ly.f10
 gi_enter FG,SlBodyM.n10_ntmps ρ
 gi_wp2
 gi_loopw [6] (fun vi wr=>∃ (i n:Nat) (dk:Array Int),vi=.int .i64 i∧a<i∧i≤b+1∧dk.size=d.size∧wr=putRow (Value.int .u32) (Sort.ahead w n) blk off dk∧
   insOuter ltInt a b i dk=insOuter ltInt a b (a+1) d) (fun vi _=>b+1-(intOf vi).toNat)
 case atStart=>exact⟨a+1,0,d,by go_num,by omega,by omega,rfl,(putRow_self _ _ _ _ _ hH).symm,rfl⟩
 case round =>
  obtain⟨i,n,dk,rfl,hai,hib,hsk,hwr,hO⟩:=hrel;have HO:Hid (insOuter ltInt a b i dk=insOuter ltInt a b (a+1) d):=hO;clear hO
  gi_wp2
  ·
   gi_loopw [7] (fun vj wr2=>∃ (j m:Nat) (dj:Array Int),vj=.int .i64 j∧a≤j∧j≤i∧dj.size=d.size∧wr2=putRow (Value.int .u32) (Sort.ahead w m) blk off dj∧
     insInner ltInt a j dj=insInner ltInt a i dk) (fun vj _=>(intOf vj).toNat)
   case atStart=>exact⟨i,n,dk,rfl,by omega,Nat.le_refl _,hsk,rfl,rfl⟩
   case round =>
    obtain⟨j,m,dj,rfl,haj,hji,hsj,hw2,hI⟩:=hrel;have hlt:i<b:=by assumption
    obtain⟨G,hG⟩:∃ G:Nat→Int,∀ t,G t=dj[t]!:=⟨fun t=>dj[t]!,fun _=>rfl⟩;have hcw:∀ t,t<d.size→wr.cell? ⟨blk,off+t,none⟩=some (.int .u32 (G t)):=fun t ht=>by
     rw[hw2,hG];exact cell?_putRow _ _ _ _ d dj (holds_ahead _ _ _ _ _ _ hH) hsj t (by omega)
    have hfw:∀ t,t<d.size→wr.frozen? ⟨blk,off+t,none⟩=false:=fun t ht=>by
     rw[hw2,frozen?_putRow];exact((holds_ahead _ _ m _ _ _ hH) t ht).2
    have HW:Hid (wr=putRow (Value.int .u32) (Sort.ahead w m) blk off dj):=hw2;have HG:Hid (∀ t,G t=dj[t]!):=hG;have HI:Hid (insInner ltInt a j dj=insInner ltInt a i dk):=hI;clear hw2 hG hI hH;have out:(j≤a∨ltInt dj[j]! dj[j-1]! = false)→∀ q,∃ i' n' dk',Value.int .i64 ((i:Int)+1)=.int .i64 (i':Nat)∧a<i'∧i'≤b+1∧dk'.size=d.size∧
      wr.drewN q=putRow (Value.int .u32) (Sort.ahead w n') blk off dk'∧insOuter ltInt a b i' dk'=insOuter ltInt a b (a+1) d:=fun hs q =>
     ⟨i+1,m+q,dj,by go_num,by omega,by omega,hsj,by rw[HW.out];exact putRow_drewN _ _ _ _ _ _ _,
      by rw[← HO.out,insOuter_go _ _ _ _ _ hlt,← HI.out,insInner_stop _ _ _ _ hs]⟩
    have OUT:Hid _:=out;clear out
    gi_wp2
    by_cases hja:a<j
    ·gi_big_quiet_th_o (first | (gi_at_fn (ρ.f 16);refine CallsIn.quiet_of_same (aC.cmp_Less_intIn { Ly with } D _ _ _)))
     gi_wp2
     ·
      have hl:ltInt (G j) (G (j-1))=true:=by assumption
      gi_region_o
      all_goals gi_wp2
      go_roundw
      case rel =>
       refine⟨j-1,m+(nq+1),swp dj j (j-1),by congr 1;omega,by omega,by omega,by rw[size_swp];exact hsj,?_,?_⟩
       ·rw[HW.out,HG.out,HG.out];exact swap_worldA _ w m (nq+1) blk off dj j (j-1) (by omega) (by omega)
       ·rw[← HI.out,insInner_go ltInt a j dj hja (by rw[← HG.out,← HG.out];exact hl)]
      case measure=>simp[intOf] <;> omega
     ·
      have hl:ltInt (G j) (G (j-1))=false:=by assumption
      go_roundw
      case rel=>exact OUT.out (Or.inr (by rw[← HG.out,← HG.out];exact hl)) nq
      case measure=>simp[intOf] <;> omega
    ·gi_big_quiet_th_o (first | (gi_at_fn (ρ.f 16);refine CallsIn.quiet_of_same (aC.cmp_Less_intIn { Ly with } D _ _ _)))
     gi_wp2
     go_roundw
     case rel=>exact OUT.out (Or.inl (by omega)) nq
     case measure=>simp[intOf] <;> omega
  ·
   have hge:¬ i<b:=by assumption
   go_end0
   exact⟨rfl,n,by unfold Sort.insertionSort;rw[← HO.out,insOuter_stop _ _ _ _ _ hge]⟩
end Go.Proofs.YtiomgckodmecbaaGreat
