/- General texts, put together in one file. No condition. -/
import Derived.WalkKit
import Derived.WalkSpells
import Derived.WalkLawsBesides
import Derived.ProofKit
import Derived.OpenShut
import Derived.ShutString
import Derived.ChangeOld
import Derived.BigQuiet
import Derived.Deep.QuietTactic
import Derived.Deep.Slices
import Derived.Lib.Hide
import Derived.Handy
import Derived.Lib.QuietBelow
import Derived.StillTail
import Derived.Deep.AppendLies
import Derived.Deep.DeepCutAuto
import Derived.Deep.RegionLaw
import Derived.Lib.SlBuf
import Derived.Shelf.SlBodiesZ
import Derived.Shelf.SlGeneric

set_option maxRecDepth 100000
set_option maxHeartbeats 32000000
namespace Go.Tk
open Go.RowKit Go.ChangeShapes Go.WideShapes Go.Deep
inductive Leaf where
 | int (k:IntKind)
 | bool
 | str
 | slice (bytes:Nat) (ks:List Leaf)
mutual
def CellOk (w:World):Leaf→Value→Prop
 | .int k,v=>∃ n,v=.int k n∧(Lit.int k n).wf=true
 | .bool,v=>∃ b,v=.bool b
 | .str,v=>∃ s,v=.string s∧s.size≤maxLen
 | .slice bytes ks,v=>∃ a len cap,v=.slice a len cap∧len≤cap∧cap≤maxLen∧cap * bytes≤reachBytes∧(a=none→len=0∧cap=0) ∧
   ∀ ad,a=some ad→∀ i,i < len→RowOk w ks (fun j=>w.cell? (ad.add (i * ks.length+j)))
def RowOk (w:World):List Leaf→(Nat→Option Value)→Prop
 | [],_=>True
 | k :: ks,f=>(∃ v,f 0=some v∧CellOk w k v)∧RowOk w ks (fun j=>f (j+1))
end
def leavesFs (L:TypeId→Option (List Leaf)) (C:TypeId→Nat):List Field→Nat→Option (List Leaf)
 | [],_=>some []
 | f :: fs,off =>
  if f.offset=off then
   match L f.type with
   | none=>none
   | some ks=>if ks.length=C f.type then (match leavesFs L C fs (off+ks.length) with | none=>none | some r=>some (ks ++ r)) else none
  else none
def leaves (P:Program):Nat→TypeId→Option (List Leaf)
 | 0,_=>none
 | n+1,t =>
  match P.underlying t with
  | some .bool=>some [.bool]
  | some (.int k)=>some [.int k]
  | some .string=>some [.str]
  | some (.slice e)=>match leaves P n e with
   | none=>none
   | some ks=>if ks.length=P.cellsOf e∧0 < ks.length then some [.slice (P.bytesOf e) ks] else none
  | some (.struct fs)=>match leavesFs (leaves P n) P.cellsOf fs.toList 0 with
   | none=>none
   | some ks=>if ks.length=P.cellsOf t then some ks else none
  | _=>none
theorem RowOk.congr {w:World}:∀ {ks:List Leaf} {f g:Nat→Option Value},(∀ j,j < ks.length→f j=g j)→RowOk w ks f→RowOk w ks g
 | [],_,_,_,_=>by simp [RowOk]
 | k :: ks,f,g,h,hf=>by
  simp only [RowOk] at hf ⊢
  refine ⟨?_,RowOk.congr (fun j hj=>h (j+1) (by simp <;> omega)) hf.2⟩
  rw [← h 0 (by simp)]
  exact hf.1
theorem RowOk.append {w:World}:∀ {ks ls:List Leaf} {f:Nat→Option Value},RowOk w ks f→RowOk w ls (fun j=>f (j+ks.length))→RowOk w (ks ++ ls) f
 | [],ls,f,_,h=>by simpa using h
 | k :: ks,ls,f,hk,h=>by
  simp only [RowOk,List.cons_append] at hk ⊢
  exact ⟨hk.1,RowOk.append hk.2 (RowOk.congr (fun j _=>by simp only [List.length_cons];congr 1) h)⟩
section
variable {H:Type} {enc:TypeId × Value→H} {P:Program} {w:World} {base:Nat} {spare:Nat→Bool} {held:Bool}
theorem weights_fields:∀ {fs:List Field} {xs:List (DataW H × List MemPlace)} {i:Nat} {f:Field} {x:DataW H × List MemPlace},fs[i]?=some f→xs[i]?=some x →
  (DataW.weightsEach P (fs.map (·.type)) (xs.map (·.1))).all (· ≤ reachBytes)=true→(x.1.weights P f.type).all (· ≤ reachBytes)=true:=by
 intro fs xs i f x hf hx h
 rw [List.all_eq_true] at h ⊢
 intro n hn
 exact h n (DataW.weights_mem_each (j:=i) (by simp [hf]) (by simp [hx]) n hn)
theorem weights_elems:∀ {e:TypeId} {ds:List (DataW H)} {d:DataW H},d∈ds→(DataW.weightsAll P e ds).all (· ≤ reachBytes)=true→(d.weights P e).all (· ≤ reachBytes)=true
 | e,d0 :: ds,d,hd,h=>by
  simp only [DataW.weightsAll,List.all_append,Bool.and_eq_true] at h
  rcases List.mem_cons.1 hd with rfl | hd
  ·exact h.1
  ·exact weights_elems hd h.2
theorem leavesFs_ok (L:TypeId→Option (List Leaf)) (n:Nat)
  (hL:∀ t ks cs x,L t=some ks→DataW.trod enc P w base spare held n t cs=some x→(x.1.weights P t).all (· ≤ reachBytes)=true→cs.length=ks.length∧RowOk w ks (fun j=>cs[j]?)) :
  ∀ (fs:List Field) (off:Nat) (ks:List Leaf) (cs:List Value),leavesFs L P.cellsOf fs off=some ks →
   (∀ (i:Nat) (f:Field),fs[i]?=some f→∃ x,DataW.trod enc P w base spare held n f.type ((cs.drop f.offset).take (P.cellsOf f.type))=some x∧(x.1.weights P f.type).all (· ≤ reachBytes)=true) →
   RowOk w ks (fun j=>cs[off+j]?)∧(ks=[]∨off+ks.length≤cs.length)
 | [],off,ks,cs,h,_=>by
  simp only [leavesFs,Option.some.injEq] at h
  subst h
  simp [RowOk]
 | f :: fs,off,ks,cs,h,hf=>by
  unfold leavesFs at h
  split at h
  case isFalse=>cases h
  rename_i hoff
  split at h
  ·cases h
  rename_i ks0 h0
  split at h
  case isFalse=>cases h
  rename_i hlen
  split at h
  ·cases h
  rename_i r hr
  simp only [Option.some.injEq] at h
  subst h
  obtain ⟨x,hx,hxw⟩:=hf 0 f rfl
  obtain ⟨hl,hrow⟩:=hL _ _ _ _ h0 hx hxw
  rw [hoff,← hlen] at hl hrow
  have hlen2:ks0=[]∨off+ks0.length≤cs.length:=by
   simp only [List.length_take,List.length_drop] at hl
   rcases Nat.eq_zero_or_pos ks0.length with h | h
   ·exact .inl (List.eq_nil_of_length_eq_zero h)
   ·right;omega
  obtain ⟨hrest,hrl⟩:=leavesFs_ok L n hL fs (off+ks0.length) r cs hr (fun i g hg=>hf (i+1) g (by simpa using hg))
  refine ⟨RowOk.append (RowOk.congr (fun j hj=>?_) hrow) (RowOk.congr (fun j _=>?_) hrest),?_⟩
  ·rw [List.getElem?_take_of_lt hj,List.getElem?_drop]
  ·congr 1;omega
  ·rcases hrl with rfl | h
   ·rcases hlen2 with rfl | h
    ·left;rfl
    ·right;simpa using h
   ·right;simp <;> omega
theorem trod_ok (hsp:∀ b,spare b=true):∀ (n:Nat) (t:TypeId) (ks:List Leaf),leaves P n t=some ks→∀ (fuel:Nat) (cs:List Value) (x:DataW H × List MemPlace),
  DataW.trod enc P w base spare held fuel t cs=some x→(x.1.weights P t).all (· ≤ reachBytes)=true→cs.length=ks.length∧RowOk w ks (fun j=>cs[j]?)
 | 0,_,_,h,_,_,_,_,_=>by simp [leaves] at h
 | n+1,t,ks,h,fuel,cs,x,ht,hw=>by
  unfold leaves at h
  split at h
  ·rename_i hu
   simp only [Option.some.injEq] at h
   subst h
   cases fuel with
   | zero=>simp [DataW.trod] at ht
   | succ fuel =>
    unfold DataW.trod at ht
    rw [hu] at ht
    split at ht <;> simp_all [RowOk,CellOk]
  ·rename_i k hu
   simp only [Option.some.injEq] at h
   subst h
   cases fuel with
   | zero=>simp [DataW.trod] at ht
   | succ fuel =>
    unfold DataW.trod at ht
    rw [hu] at ht
    split at ht <;> simp_all [RowOk,CellOk]
  ·rename_i hu
   simp only [Option.some.injEq] at h
   subst h
   cases fuel with
   | zero=>simp [DataW.trod] at ht
   | succ fuel =>
    unfold DataW.trod at ht
    rw [hu] at ht
    split at ht <;> simp_all [RowOk,CellOk]
  ·rename_i e hu
   split at h
   ·cases h
   rename_i ks0 h0
   split at h
   case isFalse=>cases h
   rename_i hlen
   simp only [Option.some.injEq] at h
   subst h
   rcases open_slice hu ht with ⟨rfl,rfl⟩ | ⟨a,len,cap,m,k,D,Pl,rfl,hb,hl,hm,hmm,rfl,hel⟩
   ·refine ⟨rfl,?_⟩
    simp only [RowOk,CellOk,List.getElem?_cons_zero,Option.some.injEq,exists_eq_left',and_true]
    exact ⟨none,0,0,rfl,Nat.le_refl _,Nat.zero_le _,by simp,fun _=>⟨rfl,rfl⟩,fun ad h=>by cases h⟩
   ·refine ⟨rfl,?_⟩
    simp only [RowOk,CellOk,List.getElem?_cons_zero,Option.some.injEq,exists_eq_left',and_true]
    rw [hsp,if_pos rfl] at hmm
    subst hmm
    simp only [DataW.weights,hu,List.all_cons,List.all_append,Bool.and_eq_true,List.length_map,List.length_range,decide_eq_true_eq] at hw
    refine ⟨_,_,_,rfl,hl,hm,?_,(by intro h;cases h),?_⟩
    ·have:=hw.1
     rw [show len+(m - len)=m from by omega] at this
     exact this
    ·intro ad had i hi
     injection had with had
     subst had
     obtain ⟨cs',hc,htr⟩:=hel i (by omega)
     obtain ⟨_,hcl,hat⟩:=World.cells?_some hc
     have hd:(D i).weights P e |>.all (· ≤ reachBytes):=weights_elems (List.mem_map.2 ⟨i,by simpa using hi,rfl⟩) hw.2.1
     obtain ⟨hl',hrow⟩:=trod_ok hsp n e ks0 h0 k cs' _ htr hd
     refine RowOk.congr (fun j hj=>?_) hrow
     rw [← hat j (by omega),Go.Deep.add_add,hlen.1]
  ·rename_i fs hu
   split at h
   ·cases h
   rename_i ks0 h0
   split at h
   case isFalse=>cases h
   rename_i hlen
   simp only [Option.some.injEq] at h
   subst h
   obtain ⟨xs,k,rfl,rfl,hcl,hxl,hf⟩:=DataW.trod_struct hu ht
   simp only [DataW.weights,hu] at hw
   obtain ⟨h1,h2⟩:=leavesFs_ok (leaves P n) k (fun t ks cs x h ht hw=>trod_ok hsp n t ks h k cs x ht hw) fs.toList 0 ks0 cs h0 (fun i f hi=>by
    have hi':fs[i]?=some f:=by simpa using hi
    have hlt:i < fs.size:=(Array.getElem?_eq_some_iff.1 hi').1
    have hx:xs[i]?=some (xs[i]'(by omega)):=List.getElem?_eq_getElem (by omega)
    exact ⟨_,(hf i f hi').trans hx,weights_fields hi hx hw⟩)
   exact ⟨by rw [hcl,hlen],RowOk.congr (fun j _=>by rw [Nat.zero_add]) h1⟩
  ·cases h
end
def isAgg (P:Program) (t:TypeId):Bool:=match P.underlying t with | some (.struct _)=>true | _=>false
def ArgOk (w:World) (agg:Bool) (ks:List Leaf) (v:Value):Prop :=
 match agg with
 | true=>∃ cs:Array Value,v=.agg cs∧cs.size=ks.length∧RowOk w ks (fun j=>cs[j]?)
 | false=>match ks with | [k]=>CellOk w k v | _=>False
def ArgsOk (w:World):List (Bool × List Leaf)→List Value→Prop
 | [],vs=>vs=[]
 | (b,ks) :: r,vs=>∃ v vs',vs=v :: vs'∧ArgOk w b ks v∧ArgsOk w r vs'
def shapes (P:Program) (n:Nat):List TypeId→Option (List (Bool × List Leaf))
 | []=>some []
 | t :: ts=>match leaves P n t,shapes P n ts with
  | some ks,some r=>some ((isAgg P t,ks) :: r)
  | _,_=>none
section
variable {H:Type} {enc:TypeId × Value→H} {P:Program} {w:World} {base:Nat} {spare:Nat→Bool} {held:Bool}
theorem arg_ok (hsp:∀ b,spare b=true) {n:Nat} {t:TypeId} {ks:List Leaf} {v:Value} {d:DataW H} {ps:List MemPlace} {b0:Nat} (hl:leaves P n t=some ks) (hv:Value.okWide P w .any b0 t v)
  (h:DataW.Trod enc P w base spare held t v d ps) (hw:(d.weights P t).all (· ≤ reachBytes)=true):ArgOk w (isAgg P t) ks v:=by
 obtain ⟨fuel,hf⟩:=h
 obtain ⟨h1,h2⟩:=trod_ok hsp n t ks hl fuel _ _ hf hw
 cases n with
 | zero=>simp [leaves] at hl
 | succ n =>
  unfold leaves at hl
  unfold isAgg
  split at hl
  ·rename_i hu
   obtain ⟨b,rfl⟩:=okWide_bool hu hv
   simp_all [ArgOk,Value.cells]
   subst hl
   simpa [RowOk] using h2
  ·rename_i k hu
   obtain ⟨b,rfl⟩:=okWide_int hu hv
   simp_all [ArgOk,Value.cells]
   subst hl
   simpa [RowOk] using h2
  ·rename_i hu
   obtain ⟨b,rfl⟩:=okWide_string hu hv
   simp_all [ArgOk,Value.cells]
   subst hl
   simpa [RowOk] using h2
  ·rename_i e hu
   obtain ⟨a,l,c,rfl⟩:=okWide_slice hu hv
   split at hl
   ·cases hl
   split at hl
   case isFalse=>cases hl
   simp only [Option.some.injEq] at hl
   subst hl
   simp only [hu,ArgOk]
   simpa [RowOk,Value.cells] using h2
  ·rename_i fs hu
   obtain ⟨cs,rfl,hsz⟩:=okWide_struct hu hv
   simp only [hu,ArgOk]
   exact ⟨cs,rfl,by simpa [Value.cells] using h1,by simpa [Value.cells] using h2⟩
  ·cases hl
theorem args_ok (hsp:∀ b,spare b=true) (n:Nat):∀ (ts:List TypeId) (vs:List Value) (ds:List (DataW H)) (ps:List MemPlace) (sh:List (Bool × List Leaf)) (b0:Nat),shapes P n ts=some sh →
  DataW.TrodAll enc P w base spare held ts vs ds ps→(DataW.weightsEach P ts ds).all (· ≤ reachBytes)=true →
  (∀ (j:Nat) t v,ts[j]?=some t→vs[j]?=some v→Value.okWide P w .any b0 t v)→ArgsOk w sh vs
 | [],vs,ds,ps,sh,b0,h,ht,_,_=>by
  simp only [shapes,Option.some.injEq] at h
  subst h
  cases vs <;> cases ds <;> simp_all [DataW.TrodAll,ArgsOk]
 | t :: ts,vs,ds,ps,sh,b0,h,ht,hw,hv=>by
  obtain ⟨v,vs',d,ds',p,q,rfl,rfl,rfl,h0,hr⟩:=trodAll_cons ht
  unfold shapes at h
  split at h
  case h_2=>cases h
  rename_i ks r hk hsr
  simp only [Option.some.injEq] at h
  subst h
  simp only [DataW.weightsEach,List.all_append,Bool.and_eq_true] at hw
  exact ⟨v,vs',rfl,arg_ok hsp hk (hv 0 t v rfl rfl) h0 hw.1,args_ok hsp n ts vs' ds' q r b0 hsr hr hw.2 (fun j t v ht hv'=>hv (j+1) t v (by simpa using ht) (by simpa using hv'))⟩
theorem trodAll_below (hl:laidOutB P=true) {W W':World} (bel:Below W.heap.size W W'):∀ (ts:List TypeId) (vs:List Value) (ds:List (DataW H)) (ps:List MemPlace),
  ts.all (fun t=>P.readableRec t && decide (t < P.types.size))=true→DataW.TrodAll enc P W 0 (fun _=>true) true ts vs ds ps →
  DataW.TrodAll enc P W' 0 (fun b=>decide (b < W.heap.size)) true ts vs ds ps
 | [],vs,ds,ps,_,h=>by cases vs <;> cases ds <;> simp_all [DataW.TrodAll]
 | t :: ts,vs,ds,ps,hr,h=>by
  obtain ⟨v,vs',d,ds',p,q,rfl,rfl,rfl,h0,hrest⟩:=trodAll_cons h
  simp only [List.all_cons,Bool.and_eq_true,decide_eq_true_eq] at hr
  have lt0:∀ x∈p,x.block < W.heap.size:=by obtain ⟨m,hm⟩:=h0;exact DataW.trod_lt m _ _ _ hm
  exact trodAll_cons_mk (Below.trod hl hr.1.1 hr.1.2 h0 bel lt0) (trodAll_below hl bel ts vs' ds' q hr.2 hrest)
end
theorem lifted {C:Checked} {os:Os} (started:os.Started) {H:Type} (enc:TypeId × Value→H) {f:FuncId} {fn:Func} {s:ChangeSpec} {sh:List (Bool × List Leaf)} {tb:TypeId} {n:Nat}
  (own:ownKnob C.prog.godebug=none) (hlo:laidOutB C.prog=true) (noInit:C.prog.inits.idxOf? f=none) (hfn:C.prog.funcs[f]?=some fn)
  (hr:fn.params.toList.all (fun t=>C.prog.readableRec t && decide (t < C.prog.types.size))=true) (hres:fn.resultTypes=#[tb]) (htb:C.prog.underlying tb=some .bool)
  (hvars:s.vars=[]) (hspec:∀ ds:List (DataW H),ds.length=fn.params.toList.length→s.fn H ds={ results:=[.lit (.bool true)],args:=ds }) (hsh:shapes C.prog n fn.params.toList=some sh)
  (witness:∃ (w:World) (tape:Tape) (i:Input),w.os=os∧(w.forCall tape i).Shaped C.prog∧i.vars=[]∧Input.okWide C.prog (w.forCall tape i) .any w.heap.size f i ∧
   s.pre6 enc C.prog fn [] false (w.forCall tape i).memory i.args∧({}:Assume).holds C.prog (lone (Frame.enter C.prog f i.args .normal) [] (w.forCall tape i)))
  (walk:∀ (W:World) (args:List Value),ArgsOk W sh args→Calls C.prog f args.toArray W fun e W'=>e=.returned (.bool true)∧Below W.heap.size W W') :
  ReturnsInHanded {} C os f .any (s.pre6 enc C.prog fn [] false) (s.post enc C.prog fn false true false false):=by
 refine returnsInHanded_of_change_sized (C:=C) own started noInit hfn witness ?_
 intro W base args ds gs before hval hW _ hwt _
 have hW':=hW
 obtain ⟨p,q,hA,hV,rfl,hfz,hnd⟩:=hW
 rw [hvars] at hV
 obtain ⟨rfl,rfl⟩:=trodVars_none hV
 simp only [List.append_nil] at hW' hwt
 have hwt':(DataW.weightsEach C.prog fn.params.toList ds).all (· ≤ reachBytes)=true:=by
  rw [List.all_eq_true] at hwt ⊢
  intro n hn
  have key:∀ (ts us:List TypeId) (ds:List (DataW H)) (n:Nat),n∈DataW.weightsEach C.prog ts ds→n∈DataW.weightsEach C.prog (ts ++ us) ds:=by
   intro ts
   induction ts with
   | nil=>intro us ds n hn;simp [DataW.weightsEach] at hn
   | cons t ts ih =>
    intro us ds n hn
    cases ds with
    | nil=>simp [DataW.weightsEach] at hn
    | cons d ds =>
     simp only [DataW.weightsEach,List.cons_append,List.mem_append] at hn ⊢
     rcases hn with hn | hn
     ·exact .inl hn
     ·exact .inr (ih us ds n hn)
  exact hwt n (key _ _ _ _ hn)
 have hok:=args_ok (fun _=>rfl) n _ _ _ _ _ base hsh hA hwt' (fun j t v ht hv=>hval j t v (by simpa using ht) (by simpa using hv))
 have hlen:ds.length=fn.params.toList.length:=by
  have key:∀ (ts:List TypeId) (vs:List Value) (ds:List (DataW H)) (ps:List MemPlace),DataW.TrodAll enc C.prog W 0 (fun _=>true) true ts vs ds ps→ds.length=ts.length:=by
   intro ts
   induction ts with
   | nil=>intro vs ds ps h;cases vs <;> cases ds <;> simp_all [DataW.TrodAll]
   | cons t ts ih =>
    intro vs ds ps h
    obtain ⟨v,vs',d,ds',p,q,rfl,rfl,rfl,h0,hrest⟩:=trodAll_cons h
    simp [ih _ _ _ hrest]
  exact key _ _ _ _ hA
 have hw:=walk W args.toList hok
 rw [Array.toArray_toList] at hw
 refine hw.mono fun e W' ⟨he,bel⟩=>⟨_,he,?_⟩
 have hr':s.fn H (ds ++ [])={ results:=[.lit (.bool true)],args:=ds }:=by rw [List.append_nil];exact hspec ds hlen
 refine ⟨ds,[],p ++ [],[],p,[],by simpa using hW',?_,?_,?_,bel.frame _,fun h=>by cases h⟩
 ·rw [hr',hres]
  exact trodAll_mk1 (shut_bool htb _)
 ·rw [hr']
  exact trodAll_below hlo bel _ _ _ _ hr hA
 ·rw [hr',hvars]
  rfl
def CellsOk (w:World):List Leaf→List Value→Prop
 | [],vs=>vs=[]
 | k :: ks,vs=>∃ v vs',vs=v :: vs'∧CellOk w k v∧CellsOk w ks vs'
theorem cells_of_row {w:World}:∀ (ks:List Leaf) (f:Nat→Option Value),RowOk w ks f→∃ l,CellsOk w ks l∧∀ j,j < ks.length→f j=l[j]?
 | [],_,_=>⟨[],rfl,fun j hj=>by simp at hj⟩
 | k :: ks,f,h=>by
  simp only [RowOk] at h
  obtain ⟨⟨v,hv,hk⟩,hr⟩:=h
  obtain ⟨l,hl,hj⟩:=cells_of_row ks _ hr
  refine ⟨v :: l,⟨v,l,rfl,hk,hl⟩,fun j hjl=>?_⟩
  cases j with
  | zero=>simpa using hv
  | succ j=>simpa using hj j (by simpa using hjl)
theorem CellsOk.length {w:World}:∀ {ks:List Leaf} {l:List Value},CellsOk w ks l→l.length=ks.length
 | [],l,h=>by simp only [CellsOk] at h;simp [h]
 | k :: ks,l,h=>by
  obtain ⟨v,vs,rfl,_,h2⟩:=h
  simp [CellsOk.length h2]
theorem lt_get {β:Type} {l:List β} {i:Nat} {x:β} (h:l[i]?=some x):i < l.length:=by
 rcases Nat.lt_or_ge i l.length with h' | h'
 ·exact h'
 ·rw [List.getElem?_eq_none h'] at h;cases h
theorem choose_list {α:Type} (n:Nat) (Q:Nat→α→Prop) (h:∀ i,i < n→∃ x,Q i x):∃ xs:List α,xs.length=n∧∀ i x,xs[i]?=some x→Q i x:=by
 induction n with
 | zero=>exact ⟨[],rfl,fun i x hx=>by simp at hx⟩
 | succ n ih =>
  obtain ⟨xs,hl,hx⟩:=ih (fun i hi=>h i (by omega))
  obtain ⟨y,hy⟩:=h n (by omega)
  refine ⟨xs ++ [y],by simp [hl],fun i x hi=>?_⟩
  have hlt:=lt_get hi
  rw [List.getElem?_append] at hi
  split at hi
  ·exact hx i x hi
  ·rename_i hge
   simp at hlt
   have hin:i=n:=by omega
   subst hin
   simp [hl] at hi
   subst hi
   exact hy
structure Sl (w:World) (m:Nat) {α:Type} (f:α→List Value) (A:Option Addr) (n:Nat) (xs:List α):Prop where
 len:n=xs.length
 get:∀ (i:Nat) (x:α),xs[i]?=some x→∃ b off,A=some ⟨b,off,none⟩∧b < w.heap.size∧∀ j,j < m→w.cell? ⟨b,off+i * m+j,none⟩=(f x)[j]?
theorem slice_ok {w:World} {bytes:Nat} {ks:List Leaf} {v:Value} {α:Type} (f:α→List Value) (hk:0 < ks.length) (hf:∀ l,CellsOk w ks l→∃ x,l=f x) (h:CellOk w (.slice bytes ks) v) :
  ∃ A n c xs,v=.slice A n c∧n≤c∧c≤maxLen∧c * bytes≤reachBytes∧Sl w ks.length f A n xs:=by
 simp only [CellOk] at h
 obtain ⟨a,len,cap,rfl,hl,hm,hb,hnone,hr⟩:=h
 obtain ⟨xs,hxl,hx⟩:=choose_list (α:=α) len (fun i x=>∃ ad,a=some ad∧∀ j,j < ks.length→w.cell? (ad.add (i * ks.length+j))=(f x)[j]? ∧ (f x).length=ks.length) (fun i hi=>by
  cases a with
  | none=>have:=(hnone rfl).1;omega
  | some ad =>
   obtain ⟨l,hl,hj⟩:=cells_of_row _ _ (hr ad rfl i hi)
   obtain ⟨x,rfl⟩:=hf l hl
   exact ⟨x,ad,rfl,fun j hjl=>⟨hj j hjl,hl.length⟩⟩)
 refine ⟨a,len,cap,xs,rfl,hl,hm,hb,hxl.symm,fun i x hi=>?_⟩
 have hlen0:0 < len:=by have:=lt_get hi;omega
 obtain ⟨ad,rfl,hc⟩:=hx i x hi
 have hx0:∃ x0,xs[0]?=some x0:=⟨_,List.getElem?_eq_getElem (by omega)⟩
 obtain ⟨x0,hx0⟩:=hx0
 obtain ⟨ad',hae,hc0⟩:=hx 0 x0 hx0
 injection hae with hae
 subst hae
 have h0:=hc0 0 hk
 simp only [Nat.zero_mul,Nat.add_zero] at h0
 have h01:∃ u,w.cell? ad=some u:=by
  have e:ad.add 0=ad:=by simp [Addr.add]
  rw [e] at h0
  exact ⟨_,h0.1.trans (List.getElem?_eq_getElem (by rw [h0.2];exact hk))⟩
 obtain ⟨u,hu⟩:=h01
 have hblk:=World.block_lt_of_cell? w _ hu
 obtain ⟨b,off,spot⟩:=ad
 cases spot with
 | some s =>
  exfalso
  unfold World.cell? at hu
  split at hu <;> simp at hu
 | none =>
  refine ⟨b,off,rfl,hblk,fun j hj=>?_⟩
  rw [← (hc j hj).1]
  have:(⟨b,off,none⟩:Addr).add (i * ks.length+j)=⟨b,off+i * ks.length+j,none⟩:=by
   unfold Addr.add
   split
   ·rename_i h;rw [show off+i * ks.length+j=off by omega]
   ·simp [Nat.add_assoc]
  rw [this]
theorem Sl.later {w w':World} {m:Nat} {α:Type} {f:α→List Value} {A:Option Addr} {n:Nat} {xs:List α} (h:Sl w m f A n xs) (hb:Below w.heap.size w w'):Sl w' m f A n xs :=
 ⟨h.len,fun i x hi=>by
  obtain ⟨b,off,h1,h2,h3⟩:=h.get i x hi
  exact ⟨b,off,h1,Nat.lt_of_lt_of_le h2 hb.size,fun j hj=>by rw [hb.cell (p:=⟨b,off+i * m+j,none⟩) h2];exact h3 j hj⟩⟩
end Go.Tk
namespace Go.Tk
open Go.RowKit
theorem wp_post {P:Program} {fn:Func} {R:Ending→World→Prop} {x:Exit} {a:Act} {w:World} (h:∀ w1,w1=w→bodyPost P fn R x a w1):bodyPost P fn R x a w:=h w rfl
end Go.Tk
namespace Go.Tk
open Go.RowKit Go.ChangeShapes Go.WideShapes Go.Deep
def Blk (w:World) (g:Nat) (t:TypeId) (cs:Array Value):Prop:=w.heap[g]?=some (.cells cs t (0,0))
structure Frm (S:Nat→Prop) (w w':World):Prop where
 os:w'.os=w.os
 tape:w'.tape=w.tape
 output:w'.output=w.output
 size:w.heap.size≤w'.heap.size
 block:∀ i,i < w.heap.size→¬ S i→w'.heap[i]?=w.heap[i]?
section
variable {w w' w'':World} {S S':Nat→Prop} {g:Nat} {t:TypeId} {cs:Array Value}
theorem size_setCell (w:World) (a:Addr) (v:Value):(w.setCell a v).heap.size=w.heap.size:=by simp [World.setCell]
theorem Blk.lt (h:Blk w g t cs):g < w.heap.size:=by
 rcases Nat.lt_or_ge g w.heap.size with hlt | hge
 ·exact hlt
 ·unfold Blk at h;rw [Array.getElem?_eq_none hge] at h;cases h
theorem Blk.cell (h:Blk w g t cs) (i:Nat):w.cell? ⟨g,i,none⟩=cs[i]?:=by
 unfold Blk at h
 simp [World.cell?,h]
theorem Blk.free (h:Blk w g t cs) (i:Nat):w.frozen? ⟨g,i,none⟩=false:=by
 unfold Blk at h
 simp [World.frozen?,h]
theorem Blk.new (w:World) (t:TypeId) (cs:Array Value):Blk (w.alloc (.cells cs t)) w.heap.size t cs:=heap_alloc_new w _
theorem Blk.drew (h:Blk w g t cs):Blk w.drew g t cs:=h
theorem Blk.alloc (h:Blk w g t cs) (o:Obj):Blk (w.alloc o) g t cs:=(Below.heap_alloc w o g h.lt).trans h
theorem Blk.set (h:Blk w g t cs) (i:Nat) (u:Value):Blk (w.setCell ⟨g,i,none⟩ u) g t (cs.setIfInBounds i u):=by
 unfold Blk at h ⊢
 simp [World.setCell,Array.getElem?_modify,h]
theorem Blk.far (h:Blk w g t cs) {p:Addr} (hp:g≠p.block) (u:Value):Blk (w.setCell p u) g t cs:=(Below.heap_setCell w p u g hp).trans h
theorem Blk.frm (h:Blk w g t cs) (hf:Frm S w w') (hs:¬ S g):Blk w' g t cs:=(hf.block g h.lt hs).trans h
theorem Blk.grown {row:Option Nat} (h:Blk w g t cs) (hb:w.grownBy w' row) (hg:some g≠row):Blk w' g t cs:=(hb.block g h.lt hg).trans h
theorem Blk.inj {cs':Array Value} {t':TypeId} (h:Blk w g t cs) (h':Blk w g t' cs'):t=t'∧cs=cs':=by
 unfold Blk at h h'
 rw [h] at h'
 simp only [Option.some.injEq,Obj.cells.injEq] at h'
 exact ⟨h'.2.1,h'.1⟩
theorem Frm.refl (S:Nat→Prop) (w:World):Frm S w w:=⟨rfl,rfl,rfl,Nat.le_refl _,fun _ _ _=>rfl⟩
theorem Frm.trans (h:Frm S w w') (k:Frm S' w' w'') (hs:∀ i,i < w.heap.size→S' i→S i):Frm S w w'' :=
 ⟨k.os.trans h.os,k.tape.trans h.tape,k.output.trans h.output,Nat.le_trans h.size k.size,fun i hi hn =>
  (k.block i (Nat.lt_of_lt_of_le hi h.size) (fun hc=>hn (hs i hi hc))).trans (h.block i hi hn)⟩
theorem Frm.mono (h:Frm S w w') (hs:∀ i,i < w.heap.size→S i→S' i):Frm S' w w':=⟨h.os,h.tape,h.output,h.size,fun i hi hn=>h.block i hi (fun hc=>hn (hs i hi hc))⟩
theorem Frm.drew (h:Frm S w w'):Frm S w w'.drew:=⟨h.os,h.tape,h.output,h.size,h.block⟩
theorem Frm.alloc (h:Frm S w w') (o:Obj):Frm S w (w'.alloc o) :=
 ⟨h.os,h.tape,h.output,Nat.le_trans h.size (by simp),fun i hi hn=>(Below.heap_alloc w' o i (Nat.lt_of_lt_of_le hi h.size)).trans (h.block i hi hn)⟩
theorem Frm.setCell (h:Frm S w w') {p:Addr} (hp:S p.block∨w.heap.size≤p.block) (u:Value):Frm S w (w'.setCell p u) :=
 ⟨h.os,h.tape,h.output,by rw [size_setCell];exact h.size,fun i hi hn=>(Below.heap_setCell w' p u i (by
  rintro rfl
  rcases hp with hp | hp
  ·exact hn hp
  ·omega)).trans (h.block i hi hn)⟩
theorem Frm.set {S:Nat→Prop} {w w':World} (h:Frm S w w') {g:Nat} (i:Nat) (u:Value) (hg:S g):Frm S w (w'.setCell ⟨g,i,none⟩ u):=h.setCell (p:=⟨g,i,none⟩) (.inl hg) u
theorem Frm.setNew {S:Nat→Prop} {w w':World} (h:Frm S w w') {g:Nat} (i:Nat) (u:Value) (hg:w.heap.size≤g):Frm S w (w'.setCell ⟨g,i,none⟩ u):=h.setCell (p:=⟨g,i,none⟩) (.inr hg) u
theorem Frm.grown {row:Option Nat} (h:Frm S w w') (k:w'.grownBy w'' row) (hr:∀ g,row=some g→S g∨w.heap.size≤g):Frm S w w'' :=
 ⟨k.os.trans h.os,k.tape.trans h.tape,k.output.trans h.output,Nat.le_trans h.size k.size,fun i hi hn =>
  (k.block i (Nat.lt_of_lt_of_le hi h.size) (fun hc=>by rcases hr i hc.symm with h | h;exact hn h;omega)).trans (h.block i hi hn)⟩
theorem Frm.of_below (h:Below w.heap.size w w') (S:Nat→Prop):Frm S w w':=⟨h.os,h.tape,h.output,h.size,fun i hi _=>h.block i hi⟩
theorem Frm.to_below {B:Nat} (h:Frm S w w') (hB:B≤w.heap.size) (hs:∀ i,i < B→¬ S i):Below B w w' :=
 ⟨h.os,h.tape,h.output,h.size,fun i hi=>h.block i (by omega) (hs i hi)⟩
theorem Frm.cell (h:Frm S w w') {p:Addr} (hp:p.block < w.heap.size) (hs:¬ S p.block):w'.cell? p=w.cell? p:=World.cell?_of_block (h.block _ hp hs)
end
abbrev Same (w w':World):Prop:=Frm (fun _=>False) w w'
theorem flat_length {α β:Type} (f:α→List β) (m:Nat) (hf:∀ x,(f x).length=m):∀ (l:List α),(l.flatMap f).length=l.length * m
 | []=>by simp
 | x :: l=>by simp [flat_length f m hf l,hf,Nat.add_mul,Nat.add_comm]
theorem flat_get {α β:Type} (f:α→List β) (m:Nat) (hf:∀ x,(f x).length=m):∀ (l:List α) (i j:Nat),j < m→(l.flatMap f)[i * m+j]?=(l[i]?).bind fun x=>(f x)[j]?
 | [],i,j,_=>by simp
 | x :: l,0,j,hj=>by simp [List.getElem?_append,hf,hj]
 | x :: l,i+1,j,hj=>by
  rw [List.flatMap_cons,List.getElem?_append_right (by rw [hf,Nat.add_mul];omega),hf]
  rw [show (i+1) * m+j - m=i * m+j from by rw [Nat.add_mul];omega]
  simpa using flat_get f m hf l i j hj
def setRow (cs:Array Value) (o:Nat):List Value→Array Value
 | []=>cs
 | v :: vs=>setRow (cs.setIfInBounds o v) (o+1) vs
theorem setRow_get (vs:List Value):∀ (cs:Array Value) (o k:Nat),o+vs.length≤cs.size→(setRow cs o vs)[k]?=if o≤k∧k < o+vs.length then vs[k - o]? else cs[k]?:=by
 induction vs with
 | nil=>intro cs o k _;simp [setRow] <;> omega
 | cons v vs ih =>
  intro cs o k h
  simp only [List.length_cons] at h
  rw [setRow,ih _ _ _ (by simp <;> omega)]
  by_cases h1:o+1≤k∧k < o+1+vs.length
  ·rw [if_pos h1,if_pos (by simp <;> omega),show k - o=(k - (o+1))+1 by omega]
   simp
  ·rw [if_neg h1]
   by_cases h2:k=o
   ·subst h2
    rw [if_pos (by simp)]
    simp [show k < cs.size by omega]
   ·rw [if_neg (by simp <;> omega),Array.getElem?_setIfInBounds_ne (Ne.symm h2)]
theorem flat_set {α β:Type} (f:α→List β) (m:Nat) (hf:∀ x,(f x).length=m) (l:List α) (i:Nat) (x:α) (hi:i < l.length) (hm:0 < m) (ys:List β)
  (h:∀ k,ys[k]?=if k / m=i then (f x)[k % m]? else (l.flatMap f)[k]?):ys=(l.set i x).flatMap f:=by
 apply List.ext_getElem?
 intro k
 rw [h k]
 have hk:k=k / m * m+k % m:=by rw [Nat.mul_comm];exact (Nat.div_add_mod k m).symm
 have hmod:k % m < m:=Nat.mod_lt _ hm
 have e1:=flat_get f m hf (l.set i x) (k / m) (k % m) hmod
 have e2:=flat_get f m hf l (k / m) (k % m) hmod
 rw [← hk] at e1 e2
 rw [e1,e2,List.getElem?_set]
 by_cases hki:k / m=i
 ·subst hki
  simp [hi]
 ·rw [if_neg hki,if_neg (fun h=>hki h.symm)]
theorem flat_store {α:Type} (f:α→List Value) (m:Nat) (hf:∀ x,(f x).length=m) (hm:0 < m) (l:List α) (i:Nat) (x:α) (hi:i < l.length) :
  setRow (l.flatMap f).toArray (i * m) (f x)=((l.set i x).flatMap f).toArray:=by
 have hb:i * m+m≤l.length * m:=by
  have:=Nat.mul_le_mul_right m (show i+1≤l.length by omega)
  rw [Nat.add_mul] at this
  omega
 apply Array.toList_inj.1
 rw [List.toList_toArray]
 refine flat_set f m hf l i x hi hm _ (fun k=>?_)
 rw [Array.getElem?_toList,setRow_get _ _ _ _ (by simp only [List.size_toArray];rw [flat_length f m hf,hf];exact hb),hf]
 have hk:k=m * (k / m)+k % m:=(Nat.div_add_mod k m).symm
 have hmod:k % m < m:=Nat.mod_lt _ hm
 by_cases h:k / m=i
 ·rw [if_pos h,if_pos (by subst h;rw [Nat.mul_comm (k / m) m];omega)]
  subst h
  rw [Nat.mul_comm (k / m) m]
  congr 1
  omega
 ·rw [if_neg h,if_neg]
  ·simp
  ·intro h2
   apply h
   have:k / m=i:=by
    rw [Nat.div_eq_iff hm]
    constructor
    ·omega
    ·omega
   exact this
structure Own (w:World) (e:TypeId) (m:Nat) {α:Type} (f:α→List Value) (A:Option Addr) (N C:Nat) (xs:List α):Prop where
 len:N=xs.length
 own:w.ownsRow 0 e m (.slice A N C) N (xs.flatMap f)
section
variable {w w':World} {e:TypeId} {m:Nat} {α:Type} {f:α→List Value} {A:Option Addr} {N C:Nat} {xs:List α}
theorem Own.nil (w:World) (e:TypeId) (m:Nat) (f:α→List Value):Own w e m f none 0 0 []:=⟨rfl,by simpa using World.ownsRow_nil w 0 e m⟩
theorem lt_of_get {β:Type} {l:List β} {i:Nat} {x:β} (h:l[i]?=some x):i < l.length:=by
 rcases Nat.lt_or_ge i l.length with h' | h'
 ·exact h'
 ·rw [List.getElem?_eq_none h'] at h;cases h
theorem Own.form (h:Own w e m f A N C xs) (hN:0 < N):∃ sb,A=some ⟨sb,0,none⟩∧sb < w.heap.size:=by
 rcases h.own.2 with ⟨_,h'⟩ | ⟨g,cap,cur,h1,_,h2,_⟩
 ·omega
 ·injection h1 with hA _ _
  exact ⟨g,hA,(Array.getElem?_eq_some_iff.1 h2).1⟩
theorem Own.get (hf:∀ x,(f x).length=m) (h:Own w e m f A N C xs) {i:Nat} {x:α} (hi:xs[i]?=some x):∃ sb,A=some ⟨sb,0,none⟩∧sb < w.heap.size∧∀ j,j < m→w.cell? ⟨sb,i * m+j,none⟩=(f x)[j]?:=by
 have hl:=lt_of_get hi
 have hlen:=h.len
 obtain ⟨sb,rfl,hs⟩:=h.form (by omega)
 refine ⟨sb,rfl,hs,fun j hj=>?_⟩
 have hb:i * m+m≤N * m:=by
  have:=Nat.mul_le_mul_right m (show i+1≤N by omega)
  rw [Nat.add_mul] at this
  omega
 rw [h.own.cellAt _ (by omega),flat_get _ m hf _ _ _ hj,hi]
 rfl
theorem Own.block (h:Own w e m f A N C xs):∀ a,A=some a→a.block < w.heap.size:=by
 intro a ha
 subst ha
 exact (h.own.lt a.block rfl).2
theorem Own.frm {S:Nat→Prop} (h:Own w e m f A N C xs) (hs:Frm S w w') (hn:∀ a,A=some a→¬ S a.block):Own w' e m f A N C xs:=by
 refine ⟨h.len,h.own.1,?_⟩
 rcases h.own.2 with hx | ⟨g,cap,cur,h1,h0,h2,h3⟩
 ·exact .inl hx
 ·refine .inr ⟨g,cap,cur,h1,h0,?_,h3⟩
  have hg:g < w.heap.size:=(Array.getElem?_eq_some_iff.1 h2).1
  injection h1 with hA _ _
  rw [hs.block g hg (hn _ hA)]
  exact h2
theorem Own.ne_blk {g:Nat} {t:TypeId} {cs:Array Value} (h:Own w e m f A N C xs) (hb:Blk w g t cs) (hne:e≠t):∀ a,A=some a→a.block≠g:=by
 intro a ha hag
 subst ha
 rcases h.own.2 with ⟨hx,_⟩ | ⟨g',cap,cur,h1,_,h2,_⟩
 ·cases hx
 ·injection h1 with hA _ _
  injection hA with hA
  subst hA
  simp only at hag
  subst hag
  exact hne (Blk.inj (show Blk w g' e cur from h2) hb).1
end
theorem flat_set_one {α β:Type} (f:α→List β) (m:Nat) (hf:∀ x,(f x).length=m) (l:List α) (i j:Nat) (x x':α) (u:β) (hx:l[i]?=some x) (hj:j < m) (hx':f x'=(f x).set j u) :
  (l.flatMap f).set (i * m+j) u=(l.set i x').flatMap f:=by
 have hi:=lt_of_get hx
 refine flat_set f m hf l i x' hi (by omega) _ (fun k=>?_)
 have hmod:k % m < m:=Nat.mod_lt _ (by omega)
 have hk:k=k / m * m+k % m:=by rw [Nat.mul_comm];exact (Nat.div_add_mod k m).symm
 have e2:=flat_get f m hf l (k / m) (k % m) hmod
 rw [← hk] at e2
 have hb:i * m+m≤l.length * m:=by
  have:=Nat.mul_le_mul_right m (show i+1≤l.length by omega)
  rw [Nat.add_mul] at this
  omega
 rw [List.getElem?_set,flat_length f m hf]
 by_cases h1:i * m+j=k
 ·have hd:k / m=i:=by rw [Nat.div_eq_iff (by omega)];omega
  have hr:k % m=j:=by
   have:=hk
   rw [hd] at this
   omega
  rw [if_pos h1,if_pos (by omega),if_pos hd,hr,hx',List.getElem?_set,if_pos rfl,hf,if_pos hj]
 ·rw [if_neg h1]
  by_cases hd:k / m=i
  ·rw [if_pos hd,e2,hd,hx,hx',List.getElem?_set,if_neg (by intro h;apply h1;rw [hd] at hk;omega)]
   rfl
  ·rw [if_neg hd]
section
variable {w w':World} {e:TypeId} {m:Nat} {α:Type} {f:α→List Value} {A:Option Addr} {N C:Nat} {xs:List α}
theorem Own.free {sb:Nat} (h:Own w e m f (some ⟨sb,0,none⟩) N C xs) (j:Nat):w.frozen? ⟨sb,j,none⟩=false:=h.own.frozenAt j
theorem Own.far {p:Addr} (h:Own w e m f A N C xs) (hp:∀ a,A=some a→a.block≠p.block) (u:Value):Own (w.setCell p u) e m f A N C xs :=
 h.frm (S:=fun b=>b=p.block) ((Frm.refl (fun b=>b=p.block) w).setCell (.inl rfl) u) (fun a ha hb=>hp a ha hb)
theorem Own.store {sb:Nat} (hf:∀ x,(f x).length=m) (h:Own w e m f (some ⟨sb,0,none⟩) N C xs) (i j:Nat) (x x':α) (u:Value) (hx:xs[i]?=some x) (hj:j < m) (hx':f x'=(f x).set j u) :
  Own (w.setCell ⟨sb,i * m+j,none⟩ u) e m f (some ⟨sb,0,none⟩) N C (xs.set i x'):=by
 refine ⟨by rw [List.length_set];exact h.len,?_⟩
 rw [← flat_set_one f m hf xs i j x x' u hx hj hx']
 exact (h.own.stored _ u).1
end
def rowOf (A:Option Addr) (b:Nat):Prop:=∃ a,A=some a∧a.block=b
theorem ownBlock_row {A:Option Addr} {N C b:Nat}:(Value.slice A N C).ownBlock=some b↔rowOf A b:=by
 cases A with
 | none=>simp [Value.ownBlock,rowOf]
 | some a=>simp [Value.ownBlock,rowOf]
def put (w:World) (b o:Nat):List Value→World
 | []=>w
 | v :: vs=>put (w.setCell ⟨b,o,none⟩ v) b (o+1) vs
def setL (l:List Value) (o:Nat):List Value→List Value
 | []=>l
 | v :: vs=>setL (l.set o v) (o+1) vs
theorem setL_setRow:∀ (vs:List Value) (l:List Value) (o:Nat),(setRow l.toArray o vs).toList=setL l o vs
 | [],_,_=>by simp [setRow,setL]
 | v :: vs,l,o=>by
  rw [setRow,setL,← setL_setRow vs (l.set o v) (o+1)]
  simp
theorem own_put {e:TypeId} {m sb N C:Nat}:∀ (vs:List Value) {w:World} {ys:List Value} (o:Nat),w.ownsRow 0 e m (.slice (some ⟨sb,0,none⟩) N C) N ys→(put w sb o vs).ownsRow 0 e m (.slice (some ⟨sb,0,none⟩) N C) N (setL ys o vs)
 | [],_,_,_,h=>h
 | v :: vs,_,_,o,h=>own_put vs (o+1) (h.stored o v).1
theorem Own.put {w:World} {e:TypeId} {m:Nat} {α:Type} {f:α→List Value} {N C sb:Nat} {xs:List α} (hf:∀ x,(f x).length=m) (hm:0 < m) (h:Own w e m f (some ⟨sb,0,none⟩) N C xs) {i:Nat} (hi:i < xs.length) (x:α) :
  Own (put w sb (i * m) (f x)) e m f (some ⟨sb,0,none⟩) N C (xs.set i x):=by
 refine ⟨by rw [List.length_set];exact h.len,?_⟩
 have h1:=own_put (f x) (i * m) h.own
 rw [← setL_setRow,flat_store f m hf hm xs i x hi] at h1
 simpa using h1
theorem Frm.put {S:Nat→Prop} {b:Nat} (hb:S b):∀ (vs:List Value) {w w':World} (o:Nat),Frm S w w'→Frm S w (put w' b o vs)
 | [],_,_,_,h=>h
 | v :: vs,_,_,o,h=>Frm.put hb vs (o+1) (h.set o v hb)
theorem Blk.put {g b:Nat} {t:TypeId} {cs:Array Value} (hb:g≠b):∀ (vs:List Value) {w:World} (o:Nat),Blk w g t cs→Blk (put w b o vs) g t cs
 | [],_,_,h=>h
 | v :: vs,_,o,h=>Blk.put hb vs (o+1) (h.far (p:=⟨b,o,none⟩) hb v)
theorem Own.farPut {e:TypeId} {m:Nat} {α:Type} {f:α→List Value} {A:Option Addr} {N C b:Nat} {xs:List α} (hb:¬ rowOf A b):∀ (vs:List Value) {w:World} (o:Nat),Own w e m f A N C xs→Own (Go.Tk.put w b o vs) e m f A N C xs
 | [],_,_,h=>h
 | v :: vs,_,o,h=>Own.farPut hb vs (o+1) (h.far (p:=⟨b,o,none⟩) (fun a ha hab=>hb ⟨a,ha,hab⟩) v)
theorem made_flat {α:Type} (f:α→List Value) (m:Nat) (hf:∀ x,(f x).length=m) (hm:0 < m) (x:α) (n:Nat):madeCells (f x).toArray (n * m)=((List.replicate n x).flatMap f).toArray:=by
 apply Array.toList_inj.1
 rw [List.toList_toArray]
 apply List.ext_getElem?
 intro k
 have hk:k=k / m * m+k % m:=by rw [Nat.mul_comm];exact (Nat.div_add_mod k m).symm
 have hmod:k % m < m:=Nat.mod_lt _ hm
 have e:=flat_get f m hf (List.replicate n x) (k / m) (k % m) hmod
 rw [← hk] at e
 rw [e]
 by_cases h:k < n * m
 ·have hd:k / m < n:=Nat.div_lt_of_lt_mul (by rw [Nat.mul_comm];exact h)
  simp only [madeCells,Array.getElem?_toList,Array.getElem?_map]
  rw [Array.getElem?_range,if_pos h,List.getElem?_replicate,if_pos hd]
  simp only [Option.map_some,Option.bind_some,List.size_toArray,hf]
  rw [getElem!_pos _ _ (by simp [hf,hmod])]
  simp [hf,hmod]
 ·have hd:¬ k / m < n:=by
   intro hd
   apply h
   have:=Nat.mul_le_mul_right m (show k / m+1≤n by omega)
   rw [Nat.add_mul] at this
   omega
  simp only [madeCells,Array.getElem?_toList,Array.getElem?_map]
  rw [Array.getElem?_range,if_neg h,List.getElem?_replicate,if_neg hd]
  rfl
theorem run_make_n {P:Program} {t e:TypeId} {z:Value} {size bytes:Nat} (ht:P.underlying t=some (.slice e)) (hi:(P.info? e).map (fun i=>(i.zero,i.size,i.bytes))=some (some z,size,bytes))
  (kl kc:IntKind) (n:Nat) (hbytes:bytes * n≤281474976710656) (h63:n≤9223372036854775807) (w:World) :
  (Instr.makeSlice t (.int kl (n:Int)) (.int kc (n:Int))).run P w=.ok (.slice (some ⟨w.heap.size,0,none⟩) n n) (w.alloc (.cells (madeCells z.cells (n * size)) e)):=by
 obtain ⟨i,hi,hz,hs,hb⟩:=info_parts hi
 have hb':(i.bytes:Int) * (n:Int)≤281474976710656:=by
  have h:((i.bytes * n:Nat):Int)≤281474976710656:=by rw [hb];omega
  rwa [Int.natCast_mul] at h
 have hr:=run_make (P:=P) w t e i z ht hi hz kl kc n n (by omega) (by omega) hb' (by omega)
 simp only [Int.toNat_natCast,hs] at hr
 exact hr
end Go.Tk
namespace Go.Tk
open Go.RowKit Go.Sort
section
variable {P:Program} {ops:Array Oper} {md:Region.Mode} {C:World→Prop}
def wpAnyLQ (P:Program) (md:Region.Mode) (ops:Array Oper) (C:World→Prop) (n:Nat) (L:Array Bool→Act→Prop):Nat→Array Bool→Act→Prop
 | 0,listed,a=>L listed a
 | f+1,listed,a =>
  Region.ready md ops listed≠[]∧∀ i∈Region.ready md ops listed,i < n∧qOp P ops C i (wpAnyLQ P md ops C n L f (listed.setIfInBounds i true)) a
theorem wpAny_of_headQ {n g:Nat} {L:Array Bool→Act→Prop} {Q':Exit→Act→World→Prop} (hL:∀ listed a w,C w→L listed a→wpAny P md ops Q' g listed a w) :
  ∀ (f:Nat) (listed:Array Bool) (a:Act) (w:World),C w→wpAnyLQ P md ops C n L f listed a→wpAny P md ops Q' (f+g) listed a w
 | 0,listed,a,w,hw,h=>by rw [Nat.zero_add];exact hL _ _ _ hw h
 | f+1,listed,a,w,hw,h=>by
  rw [show f+1+g=(f+g)+1 by omega]
  exact ⟨fun h0=>absurd h0 h.1,fun i hi=>wpOp_of_qOp hw (fun a' w' hw' h'=>wpAny_of_headQ hL f _ a' w' hw' h') (h.2 i hi).2⟩
theorem wpAnyLQ_first {n i:Nat} {oi:Oper} {v:Value} {L:Array Bool→Act→Prop} (hi:ops[i]?=some oi) (hsel:∀ (j:Nat) (o:Oper) cs b,ops[j]?=some o→o.op≠.select cs b)
  (hs:Region.sinkB md ops n=true) (hc:Region.chainB md ops n=true) (hn:n < ops.size) (hin:i < n)
  (hdone:∀ listed a,L listed a→∀ j∈Region.ready md ops listed,n≤j) :
  ∀ (f:Nat) (listed:Array Bool) (a:Act),HeadInv md ops n listed →
   (∀ j oj,ops[j]?=some oj→j≠i→listed.getD j true=false→(∀ e∈oj.after,Region.binds md e=true→e.on≠i)→oi.apart ops oj=true) →
   i∈Region.ready md ops listed→YieldsIn P ops C oi v a →
   wpAnyLQ P md ops C n L f (listed.setIfInBounds i true) (a.put oi.dst v)→wpAnyLQ P md ops C n L (f+1) listed a:=by
 intro f
 induction f with
 | zero =>
  intro listed a inv _ hr hy H
  have hun:=(mem_ready.1 hr).1
  refine ⟨fun h=>(by rw [h] at hr;cases hr),fun j hj=>?_⟩
  have hjn:j < n:=by
   rcases Nat.lt_or_ge j n with h | h
   ·exact h
   ·exact absurd hj (tail_waits hs hc hn inv _ i rfl hin hun j h)
  refine ⟨hjn,?_⟩
  by_cases hji:j=i
  ·subst hji;exact hy.qOp hi H
  ·have:=hdone _ _ H j (ready_mono hj hji)
   omega
 | succ f ih =>
  intro listed a inv hfree hr hy H
  have hun:=(mem_ready.1 hr).1
  refine ⟨fun h=>(by rw [h] at hr;cases hr),fun j hj=>?_⟩
  have hjn:j < n:=by
   rcases Nat.lt_or_ge j n with h | h
   ·exact h
   ·exact absurd hj (tail_waits hs hc hn inv _ i rfl hin hun j h)
  refine ⟨hjn,?_⟩
  by_cases hji:j=i
  ·subst hji;exact hy.qOp hi H
  ·have h1:=(H.2 j (ready_mono hj hji)).2
   obtain ⟨hjun,oj,hoj,hall⟩:=mem_ready.1 hj
   have hnot:∀ e∈oj.after,Region.binds md e=true→e.on≠i:=fun e he hb heq=>by
    have h1:=hall e he hb
    rw [heq,getD_both hun] at h1
    cases h1
   have h2:=qOp_put hoj (hfree j oj hoj hji hjun hnot) (fun cs b=>hsel i oi cs b hi) (fun cs b=>hsel j oj cs b hoj) hy h1
   have hfree':∀ k ok,ops[k]?=some ok→k≠i→(listed.setIfInBounds j true).getD k true=false →
     (∀ e∈ok.after,Region.binds md e=true→e.on≠i)→oi.apart ops ok=true:=fun k ok hk hki hun hno=>by
    refine hfree k ok hk hki ?_ hno
    by_cases hjk:j=k
    ·subst hjk;exact hjun
    ·rw [getD_set_ne true hjk] at hun;exact hun
   refine qOp_mono (fun a' h3=>ih (listed.setIfInBounds j true) a' (inv.set hj hjn) hfree' (ready_mono hr (Ne.symm hji)) h3.1 ?_) h2
   rw [Array.setIfInBounds_comm _ _ hji]
   exact h3.2
theorem wpAnyLQ_lex {n g:Nat} {Lq:Act→Prop} (hsel:Region.noSelect ops=true) (hs:Region.sinkB md ops n=true) (hc:Region.chainB md ops n=true) (hn:n < ops.size) :
  ∀ (l:List Oper) (k:Nat) (listed:Array Bool) (a:Act),(∀ j,j < l.length→l[j]?=ops[k+j]?)→k+l.length=n→HeadInv md ops n listed →
  Region.lexHead md ops g l.length k listed=true→wpQuiet P ops C Lq l a →
  wpAnyLQ P md ops C n (fun listed' a'=>Region.seqB md ops g n listed'=true∧Lq a') l.length listed a
 | [],k,listed,a,_,hk,_,hB,h=>by
  have:k=n:=by simpa using hk
  subst this
  exact ⟨by simpa [Region.lexHead] using hB,h⟩
 | o :: l,k,listed,a,hl,hk,inv,hB,h=>by
  have h0:ops[k]?=some o:=by simpa using (hl 0 (by simp)).symm
  simp only [List.length_cons,Region.lexHead,Bool.and_eq_true] at hB
  obtain ⟨⟨hr,hf⟩,hB'⟩:=hB
  have hkn:k < n:=by simp only [List.length_cons] at hk;omega
  have hr':k∈Region.ready md ops listed:=by simpa using hr
  have hst:qOp P ops C k (wpQuiet P ops C Lq l) a:=by unfold qOp;simp only [h0];exact h
  obtain ⟨v,hy,hK⟩:=yieldsIn_of_qOp h0 hst
  exact wpAnyLQ_first h0 (Region.noSelect_spec hsel) hs hc hn hkn (fun listed' a' hL=>seqB_ready hL.1) l.length listed a inv (Region.free_spec h0 hf) hr' hy
   (wpAnyLQ_lex hsel hs hc hn l (k+1) _ _ (fun j hj=>by have:=hl (j+1) (by simp <;> omega);simpa [Nat.add_assoc,Nat.add_comm 1 j] using this) (by simp only [List.length_cons] at hk;omega) (inv.set hr' hkn) hB' hK)
theorem wp_region_quiet_tail {id:Nat} {Q:Exit→Act→World→Prop} {a:Act} {w:World} {l:List Oper} (n:Nat) (hm:P.follows .mixedOrders=true) (hB:Region.lexTailB .any l.toArray n=true) (hC:C { w with drawn:=w.drawn+1 })
  (h:wpQuiet P l.toArray C (fun a'=>∀ w',C w'→wpList P l.toArray Q (l.drop n) a' w') (l.take n) a):(Code.region id l.toArray true).wp P Q a w:=by
 simp only [Region.lexTailB,Bool.and_eq_true,decide_eq_true_eq] at hB
 obtain ⟨⟨⟨⟨hsel,hn⟩,hs⟩,hc⟩,hlex⟩:=hB
 have hn':n < l.length:=by simpa using hn
 have htl:(l.take n).length=n:=by simp <;> omega
 have hdl:(l.drop n).length=l.toArray.size - n:=by simp
 have inv0:HeadInv .any l.toArray n (Array.replicate l.toArray.size false) :=
  ⟨by simp,fun j oj _ hl=>(by rw [getD_replicate_false] at hl;cases hl),fun t _ ht=>getD_in (by simpa using ht) (getD_replicate_false _ _)⟩
 have H:=wpAnyLQ_lex (C:=C) (md:=.any) (g:=l.toArray.size - n) hsel hs hc hn (l.take n) 0 _ a (fun j hj=>by
  have hj':j < n:=by rw [htl] at hj;exact hj
  simp [hj']) (by simpa using htl) inv0 (by rw [htl];exact hlex) h
 refine wp_region_any hm ?_
 have:=wpAny_of_headQ (Q':=Q) (g:=l.toArray.size - n) (fun listed a' w' hw' hL=>by
  have:=wpAny_of_seq (md:=.any) (Q':=Q) (l.drop n) n listed a' w' (fun j=>by simp [List.getElem?_drop]) (by rw [hdl];exact hL.1) (hL.2 w' hw')
  rwa [hdl] at this) _ _ _ _ hC H
 rw [htl,show n+(l.toArray.size - n)=l.toArray.size by omega] at this
 exact this
end
def more (w:World) (p:Regrown):World:=grow (redrawn w p.d) p.os
theorem more_same (w:World) (p:Regrown):Same w (more w p):=Frm.of_below (below_regrown w p.d p.os) _
theorem more_of_same {w w':World} (h:Same w w'):∃ p,w'=more w p:=regrown_of_below ⟨h.os,h.tape,h.output,h.size,fun i hi=>h.block i hi id⟩
theorem more_cell (w:World) (p:Regrown) (a:Addr) (h:a.block < w.heap.size):(more w p).cell? a=w.cell? a:=(more_same w p).cell h id
theorem more_frozen (w:World) (p:Regrown) (a:Addr) (h:a.block < w.heap.size):(more w p).frozen? a=w.frozen? a:=World.frozen?_of_block ((more_same w p).block _ h id)
theorem more_zero (w:World):∃ p,({ w with drawn:=w.drawn+1 }:World)=more w p:=more_of_same (Frm.drew (Frm.refl _ _))
section
variable {P:Program} {w:World}
theorem wp_quiet {id:Nat} {Q:Exit→Act→World→Prop} {a:Act} {l:List Oper} (hm:P.follows .mixedOrders=true) (hB:Region.lexB .any l.toArray=true)
  (h:wpQuiet P l.toArray (fun w'=>∃ p,w'=more w p) (fun a'=>∀ w',(∃ p,w'=more w p)→Q .normal a' w') l a):(Code.region id l.toArray true).wp P Q a w :=
 wp_region_quiet (C:=fun w'=>∃ p,w'=more w p) hm hB (more_zero w) (by simpa using h)
theorem wp_quiet_tail {id:Nat} {Q:Exit→Act→World→Prop} {a:Act} {l:List Oper} (n:Nat) (hm:P.follows .mixedOrders=true) (hB:Region.lexTailB .any l.toArray n=true)
  (h:wpQuiet P l.toArray (fun w'=>∃ p,w'=more w p) (fun a'=>∀ w',(∃ p,w'=more w p)→wpList P l.toArray Q (l.drop n) a' w') (l.take n) a):(Code.region id l.toArray true).wp P Q a w :=
 wp_region_quiet_tail (C:=fun w'=>∃ p,w'=more w p) n hm hB (more_zero w) h
theorem quiet_call {f:FuncId} {args:Array Value} {p:Regrown} {v:Value} (h:Calls P f args (more w p) fun e w'=>e=.returned v∧Same (more w p) w') :
  Calls P f args (more w p) fun e w''=>e=.returned v∧∃ q,w''=more w q :=
 h.mono fun _ _ ⟨he,hb⟩=>⟨he,more_of_same ((more_same w p).trans hb (fun _ _ h=>h))⟩
end
attribute [go_sem] more_cell more_frozen
theorem ret_bool {a b:Bool} (h:a=b):Ending.returned (.bool a)=.returned (.bool b):=by rw [h]
theorem ret_int {k:IntKind} {a b:Int} (h:a=b):Ending.returned (.int k a)=.returned (.int k b):=by rw [h]
theorem wp_world {P:Program} {c:Code} {Q:Exit→Act→World→Prop} {a:Act} {w:World} (h:∀ w1,w1=w→c.wp P Q a w1):c.wp P Q a w:=h w rfl
theorem call_world {P:Program} {f:FuncId} {args:Array Value} {R:Ending→World→Prop} {w:World} (h:∀ w1,w1=w→Calls P f args w1 R):Calls P f args w R:=h w rfl
theorem list_world {P:Program} {ops:Array Oper} {l:List Oper} {Q:Exit→Act→World→Prop} {a:Act} {w:World} (h:∀ w1,w1=w→wpList P ops Q l a w1):wpList P ops Q l a w:=h w rfl
def isSl:Option TypeDesc→Bool
 | some (.slice _)=>true
 | _=>false
theorem isSl_slice (e:TypeId):isSl (some (.slice e))=true:=rfl
section
variable {P:Program} {t:TypeId} (w:World)
theorem isSl_spec (h:isSl (P.underlying t)=true):∃ e,P.underlying t=some (.slice e):=by
 unfold isSl at h
 split at h
 ·rename_i e he;exact ⟨e,he⟩
 ·cases h
theorem eql_sl_nil (a:Option Addr) (n c:Nat) (h:isSl (P.underlying t)=true):(binOp .eql t (.slice a n c) (.slice none 0 0)).run P w=.ok (.bool a.isNone) w:=by
 obtain ⟨e,he⟩:=isSl_spec h
 exact Lib.run_eql_slice_nil w t e a n c 0 0 he
theorem neq_sl_nil (a:Option Addr) (n c:Nat) (h:isSl (P.underlying t)=true):(binOp .neq t (.slice a n c) (.slice none 0 0)).run P w=.ok (.bool (!a.isNone)) w:=by
 obtain ⟨e,he⟩:=isSl_spec h
 exact Go.run_neq_slice_nil_any w t e a n c 0 0 he
end
attribute [go_sem] isSl_slice eql_sl_nil neq_sl_nil
end Go.Tk
namespace Go.Tk
open Go.RowKit Go.Sort
section
variable {P:Program} {ops:Array Oper} {md:Region.Mode} {C:World→Prop} {Q:Exit→Act→World→Prop}
theorem Oper.wp_imp {o:Oper} {a:Act} {w:World} {K K':Act→World→Prop} {Q Q':Exit→Act→World→Prop} (hK:∀ a w,K a w→K' a w) (hQ:∀ e a w,Q e a w→Q' e a w)
  (h:o.wp P a w K Q):o.wp P a w K' Q':=by
 unfold Oper.wp at h ⊢
 generalize (execOp a.eval o).run P w=r at h ⊢
 cases r with
 | ok n w' =>
  cases n <;> simp only [Oper.upon] at h ⊢ <;> try exact hK _ _ h
  case enter f args =>
   refine h.mono fun e w'' he=>?_
   cases e with
   | returned v=>exact hK _ _ he
   | panicked c=>exact hQ _ _ _ he
   | outgrown=>obtain ⟨a0,w0,h0⟩:=he;exact ⟨a0,w0,hQ _ _ _ h0⟩
  case row row args=>exact h.mono fun v w'' he=>hK _ _ he
 | halt x w' =>
  cases x <;> simp only [Oper.upon] at h ⊢
  exact hQ _ _ _ h
def calm:Op→Bool
 | .move _ | .assign _ | .pick .. | .load .. | .nilCheck _ | .binOp .. | .unOp .. | .convert .. | .fieldAddr .. | .field .. | .indexAddr .. | .index .. | .build .. | .slice .. | .extract ..=>true
 | .call { callee:=.builtin .len,.. } | .call { callee:=.builtin .cap,.. }=>true
 | _=>false
theorem bind_value {α:Type} {s:Sem α} {g:α→Value} {w w':World} {f:FuncId} {args:Array Value}:(do pure (Next.value (g (← s))):Sem Next).run P w≠.ok (.enter f args) w':=by
 rw [Sem.run_bind]
 generalize s.run P w=r
 cases r with
 | ok a w1=>simp
 | halt x w1=>simp [Result.andThen]
theorem panic_enter {α:Type} {s:Sem α} {k:α→Sem Next} {w w':World} {f:FuncId} {args:Array Value} (h:∀ a w1,(k a).run P w1≠.ok (.enter f args) w'):(do let a ← s;k a:Sem Next).run P w≠.ok (.enter f args) w':=by
 rw [Sem.run_bind]
 generalize s.run P w=r
 cases r with
 | ok a w1=>simpa using h a w1
 | halt x w1=>simp [Result.andThen]
theorem nil_enter {w w':World} {f:FuncId} {args:Array Value}:(runtimePanic .nilDeref:Sem Next).run P w≠.ok (.enter f args) w':=by
 unfold runtimePanic
 refine panic_enter fun a w1=>?_
 simp [goPanic]
theorem calm_enter {o:Oper} {ev:Operand→Value} {w w':World} {f:FuncId} {args:Array Value} (h:calm o.op=true):(execOp ev o).run P w≠.ok (.enter f args) w':=by
 unfold execOp
 cases hop:o.op <;> rw [hop] at h <;> simp only [calm] at h <;> first | cases h | skip
 all_goals try exact bind_value
 all_goals try (simp;done)
 all_goals try exact bind_value (g:=fun b:Bool=>if b=true then ev _ else ev _)
 case nilCheck x =>
  dsimp only
  split <;> try exact nil_enter
  ·split
   ·exact nil_enter
   ·refine panic_enter fun a w1=>panic_enter fun b w2=>?_
    split
    ·exact panic_enter fun _ _=>by simp
    ·simp
   ·simp
  ·simp
 case call c =>
  obtain ⟨cal,args,at'⟩:=c
  cases cal with
  | value f=>cases h
  | invoke r m=>cases h
  | builtin b =>
   cases b <;> first | cases h | skip
   all_goals
    simp only [resolve,Sem.run_bind,Sem.run_pure,Result.andThen_ok,invoke,builtin]
    generalize Sem.run P _ w=r
    cases r with
    | ok a w1=>simp
    | halt x w1=>simp [Result.andThen]
def YC (P:Program) (ops:Array Oper) (C:World→Prop) (o:Oper) (v:Value) (a:Act):Prop :=
 (Region.wanted o (yielded ops a.tmps)=true∧∀ w,C w→((execOp a.eval o).run P w=.ok (.value v) w∨((execOp a.eval o).run P w=.ok .skip w∧v=undef))) ∨
 (Region.wanted o (yielded ops a.tmps)=false∧v=undef)
theorem YC.of_same {o:Oper} {v:Value} {a a':Act} (hy:YC P ops C o v a) (he:execOp a'.eval o=execOp a.eval o)
  (hw:Region.wanted o (yielded ops a'.tmps)=Region.wanted o (yielded ops a.tmps)):YC P ops C o v a':=by
 unfold YC at *
 rw [he,hw]
 exact hy
def opC (P:Program) (ops:Array Oper) (C:World→Prop) (Q:Exit→Act→World→Prop) (n i:Nat) (K:Act→World→Prop) (a:Act) (w:World):Prop :=
 if i < n then
  match ops[i]? with
  | none=>K a w
  | some o=>if Region.wanted o (yielded ops a.tmps) then o.wp P a w (fun a' w'=>C w'∧K a' w') (fun _ _ _=>False) else K (a.put o.dst undef) w
 else wpOp P ops Q i K a w
def wpAnyC (P:Program) (md:Region.Mode) (ops:Array Oper) (C:World→Prop) (Q:Exit→Act→World→Prop) (n:Nat):Nat→Array Bool→Act→World→Prop
 | 0,listed,a,w=>Region.ready md ops listed=[]∧Q .normal a w
 | f+1,listed,a,w=>(Region.ready md ops listed=[]→Q .normal a w)∧∀ i∈Region.ready md ops listed,opC P ops C Q n i (wpAnyC P md ops C Q n f (listed.setIfInBounds i true)) a w
theorem opC_mono {n i:Nat} {K K':Act→World→Prop} {a:Act} {w:World} (hK:∀ a w,K a w→K' a w) (h:opC P ops C Q n i K a w):opC P ops C Q n i K' a w:=by
 unfold opC at *
 split at h
 ·rename_i hin
  rw [if_pos hin]
  cases ho:ops[i]? with
  | none=>rw [ho] at h;exact hK _ _ h
  | some o =>
   rw [ho] at h
   dsimp only at h ⊢
   split at h
   ·rename_i hw;rw [if_pos hw];exact Oper.wp_imp (fun a w h=>⟨h.1,hK _ _ h.2⟩) (fun _ _ _ h=>h) h
   ·rename_i hw;rw [if_neg hw];exact hK _ _ h
 ·rename_i hin
  rw [if_neg hin]
  exact wpOp_mono hK h
theorem wpAny_of_C {n:Nat}:∀ (f:Nat) (listed:Array Bool) (a:Act) (w:World),wpAnyC P md ops C Q n f listed a w→wpAny P md ops Q f listed a w
 | 0,_,_,_,h=>h
 | f+1,listed,a,w,h=>⟨h.1,fun i hi=>by
  have h2:=h.2 i hi
  unfold opC at h2
  split at h2
  ·unfold wpOp
   cases ho:ops[i]? with
   | none=>rw [ho] at h2;exact wpAny_of_C f _ _ _ h2
   | some o =>
    rw [ho] at h2
    dsimp only at h2 ⊢
    split at h2
    ·rename_i hw;rw [if_pos hw];exact .inl (Oper.wp_imp (fun a w h=>wpAny_of_C f _ _ _ h.2) (fun _ _ _ h=>h.elim) h2)
    ·rename_i hw;rw [if_neg hw];exact wpAny_of_C f _ _ _ h2
  ·exact wpOp_mono (fun a w h=>wpAny_of_C f _ _ _ h) h2⟩
theorem opC_of_YC {n i:Nat} {oi:Oper} {v:Value} {a:Act} {w:World} {K:Act→World→Prop} (hi:ops[i]?=some oi) (hin:i < n) (hC:C w) (hy:YC P ops C oi v a) (hK:K (a.put oi.dst v) w):opC P ops C Q n i K a w:=by
 unfold opC
 rw [if_pos hin]
 simp only [hi]
 rcases hy with ⟨hw,hv⟩ | ⟨hw,rfl⟩
 ·rw [if_pos hw]
  unfold Oper.wp
  rcases hv w hC with h | ⟨h,rfl⟩
  ·rw [h];exact ⟨hC,hK⟩
  ·rw [h];exact ⟨hC,hK⟩
 ·rw [if_neg (by rw [hw];simp)]
  exact hK
theorem put_defers (a:Act) (d:Option Tmp) (v:Value) (ds:List Deferred):({ (a.put d v) with defers:=ds }:Act)=({ a with defers:=ds }:Act).put d v:=by
 cases d <;> rfl
theorem put_defers' (a:Act) (d:Option Tmp) (v:Value):(a.put d v).defers=a.defers:=by cases d <;> rfl
theorem opC_put {n j:Nat} {oi oj:Oper} {v:Value} {a:Act} {w:World} {K:Act→World→Prop} (hj:ops[j]?=some oj) (hjn:j < n) (hap:oi.apart ops oj=true)
  (hsi:∀ cs b,oi.op≠.select cs b) (hsj:∀ cs b,oj.op≠.select cs b) (hC:C w) (hy:YC P ops C oi v a) (h:opC P ops C Q n j K (a.put oi.dst v) w) :
  opC P ops C Q n j (fun a' w'=>C w'∧YC P ops C oi v a'∧K (a'.put oi.dst v) w') a w:=by
 obtain ⟨h1,h2,h3⟩:=Oper.apart_spec hap
 have keep:∀ (a:Act),YC P ops C oi v a→∀ u,YC P ops C oi v (a.put oj.dst u):=fun a hy u =>
  hy.of_same (execOp_put oi hsi a oj.dst u h3) (wanted_put oi a oj.dst u h3)
 have keepd:∀ (a:Act) (ds:List Deferred),YC P ops C oi v a→YC P ops C oi v { a with defers:=ds }:=fun a ds hy=>hy.of_same rfl rfl
 unfold opC at *
 rw [if_pos hjn] at h ⊢
 simp only [hj] at h ⊢
 rw [wanted_put oj a oi.dst v h1] at h
 split
 ·rename_i hw
  rw [if_pos hw] at h
  unfold Oper.wp at h ⊢
  rw [execOp_put oj hsj a oi.dst v h1] at h
  generalize (execOp a.eval oj).run P w=r at h ⊢
  cases r with
  | ok nx w' =>
   cases nx <;> simp only [Oper.upon] at h ⊢
   case value u=>exact ⟨h.1,h.1,keep a hy u,by rw [← Act.put_comm a v u h2];exact h.2⟩
   case skip=>exact ⟨h.1,h.1,keep a hy _,by rw [← Act.put_comm a v undef h2];exact h.2⟩
   case defer d =>
    refine ⟨h.1,h.1,keep _ (keepd a _ hy) _,?_⟩
    have h4:=h.2
    rw [put_defers',put_defers] at h4
    rw [← Act.put_comm _ v undef h2]
    exact h4
   case enter f args =>
    refine h.mono fun e w'' he=>?_
    cases e with
    | returned u=>exact ⟨he.1,he.1,keep a hy u,by rw [← Act.put_comm a v u h2];exact he.2⟩
    | panicked c=>exact he.elim
    | outgrown=>obtain ⟨_,_,h0⟩:=he;exact h0.elim
   case row row args=>exact h.mono fun u w'' he=>⟨he.1,he.1,keep a hy u,by rw [← Act.put_comm a v u h2];exact he.2⟩
  | halt x w' =>
   cases x <;> simp only [Oper.upon] at h
 ·rename_i hw
  rw [if_neg hw] at h
  exact ⟨hC,keep a hy _,by rw [← Act.put_comm a v undef h2];exact h⟩
theorem wpAnyC_first {n i:Nat} {oi:Oper} {v:Value} (hi:ops[i]?=some oi) (hsel:∀ (j:Nat) (o:Oper) cs b,ops[j]?=some o→o.op≠.select cs b)
  (hs:Region.sinkB md ops n=true) (hc:Region.chainB md ops n=true) (hn:n < ops.size) (_hn1:n+1=ops.size) (hin:i < n) :
  ∀ (f:Nat) (listed:Array Bool) (a:Act) (w:World),HeadInv md ops n listed →
   (∀ j oj,ops[j]?=some oj→j≠i→listed.getD j true=false→(∀ e∈oj.after,Region.binds md e=true→e.on≠i)→oi.apart ops oj=true) →
   i∈Region.ready md ops listed→C w→YC P ops C oi v a →
   wpAnyC P md ops C Q n f (listed.setIfInBounds i true) (a.put oi.dst v) w→wpAnyC P md ops C Q n (f+1) listed a w:=by
 intro f
 induction f with
 | zero =>
  intro listed a w _ _ hr hC hy H
  refine ⟨fun h=>(by rw [h] at hr;cases hr),fun j hj=>?_⟩
  by_cases hji:j=i
  ·subst hji;exact opC_of_YC hi hin hC hy H
  ·have:=ready_mono hj hji
   rw [H.1] at this
   cases this
 | succ f ih =>
  intro listed a w inv hfree hr hC hy H
  have hun:=(mem_ready.1 hr).1
  refine ⟨fun h=>(by rw [h] at hr;cases hr),fun j hj=>?_⟩
  have hjn:j < n:=by
   rcases Nat.lt_or_ge j n with h | h
   ·exact h
   ·exact absurd hj (tail_waits hs hc hn inv _ i rfl hin hun j h)
  by_cases hji:j=i
  ·subst hji;exact opC_of_YC hi hin hC hy H
  ·have h1:=H.2 j (ready_mono hj hji)
   obtain ⟨hjun,oj,hoj,hall⟩:=mem_ready.1 hj
   have hnot:∀ e∈oj.after,Region.binds md e=true→e.on≠i:=fun e he hb heq=>by
    have h1:=hall e he hb
    rw [heq,getD_both hun] at h1
    cases h1
   have h2:=opC_put hoj hjn (hfree j oj hoj hji hjun hnot) (fun cs b=>hsel i oi cs b hi) (fun cs b=>hsel j oj cs b hoj) hC hy h1
   have hfree':∀ k ok,ops[k]?=some ok→k≠i→(listed.setIfInBounds j true).getD k true=false →
     (∀ e∈ok.after,Region.binds md e=true→e.on≠i)→oi.apart ops ok=true:=fun k ok hk hki hun hno=>by
    refine hfree k ok hk hki ?_ hno
    by_cases hjk:j=k
    ·subst hjk;exact hjun
    ·rw [getD_set_ne true hjk] at hun;exact hun
   refine opC_mono (fun a' w' h3=>ih (listed.setIfInBounds j true) a' w' (inv.set hj hjn) hfree' (ready_mono hr (Ne.symm hji)) h3.1 h3.2.1 ?_) h2
   rw [Array.setIfInBounds_comm _ _ hji]
   exact h3.2.2
def wpEff (P:Program) (ops:Array Oper) (C:World→Prop) (Q:Exit→Act→World→Prop):List Oper→Act→World→Prop
 | [],a,w=>Q .normal a w
 | [o],a,w=>wpList P ops Q [o] a w
 | o :: o' :: rest,a,w=>if Region.wanted o (yielded ops a.tmps) then o.wp P a w (fun a' w'=>C w'∧wpEff P ops C Q (o' :: rest) a' w') (fun _ _ _=>False) else wpEff P ops C Q (o' :: rest) (a.put o.dst undef) w
def pick (l:List Oper) (is:List Nat):List Oper:=is.map fun i=>l.getD i default
def effB (md:Region.Mode) (ops:Array Oper) (n:Nat):List Nat→Array Bool→Bool
 | [],_=>false
 | [e],listed=>decide (Region.ready md ops listed=[e]) && decide (e=n) && decide (Region.ready md ops (listed.setIfInBounds e true)=[])
 | e :: e' :: r,listed=>decide (Region.ready md ops listed=[e]) && decide (e < n) && effB md ops n (e' :: r) (listed.setIfInBounds e true)
theorem wpAnyC_eff {n:Nat}:∀ (es:List Nat) (listed:Array Bool) (a:Act) (w:World),effB md ops n es listed=true→(∀ e∈es,e < ops.size) →
  wpEff P ops C Q (pick ops.toList es) a w→wpAnyC P md ops C Q n es.length listed a w
 | [],_,_,_,h,_,_=>by simp [effB] at h
 | [e],listed,a,w,h,hlt,hw=>by
  simp only [effB,Bool.and_eq_true,decide_eq_true_eq] at h
  have hel:e < ops.size:=hlt e (by simp)
  have ho:ops[e]?=some ops[e]:=Array.getElem?_eq_getElem hel
  refine ⟨fun h0=>(by rw [h.1.1] at h0;cases h0),fun i hi=>?_⟩
  rw [h.1.1] at hi
  obtain rfl:i=e:=by simpa using hi
  have hp:pick ops.toList [i]=[ops[i]]:=by simp [pick,ho]
  rw [hp] at hw
  simp only [wpEff,wpList] at hw
  unfold opC
  rw [if_neg (by omega)]
  unfold wpOp
  simp only [ho]
  split at hw
  ·rename_i hwt
   rw [if_pos hwt]
   rcases hw with hw | hw
   ·exact .inl (Oper.wp_imp (fun a' w' hq=>⟨h.2,hq⟩) (fun _ _ _ h=>h) hw)
   ·exact .inr hw
  ·rename_i hwt
   rw [if_neg hwt]
   exact ⟨h.2,hw⟩
 | e :: e' :: r,listed,a,w,h,hlt,hw=>by
  simp only [effB,Bool.and_eq_true,decide_eq_true_eq] at h
  have hel:e < ops.size:=hlt e (by simp)
  have ho:ops[e]?=some ops[e]:=Array.getElem?_eq_getElem hel
  have hel':e' < ops.size:=hlt e' (by simp)
  have ho':ops[e']?=some ops[e']:=Array.getElem?_eq_getElem hel'
  refine ⟨fun h0=>(by rw [h.1.1] at h0;cases h0),fun i hi=>?_⟩
  rw [h.1.1] at hi
  obtain rfl:i=e:=by simpa using hi
  have hp:pick ops.toList (i :: e' :: r)=ops[i] :: ops[e'] :: pick ops.toList r:=by simp [pick,ho,ho']
  have hp':pick ops.toList (e' :: r)=ops[e'] :: pick ops.toList r:=by simp [pick,ho']
  rw [hp] at hw
  simp only [wpEff] at hw
  rw [← hp'] at hw
  have ih:=fun a' w'=>wpAnyC_eff (e' :: r) (listed.setIfInBounds i true) a' w' h.2 (fun e he=>hlt e (List.mem_cons_of_mem _ he))
  unfold opC
  rw [if_pos h.1.2]
  simp only [ho]
  split at hw
  ·rename_i hwt
   rw [if_pos hwt]
   exact Oper.wp_imp (fun a' w' hq=>⟨hq.1,ih a' w' hq.2⟩) (fun _ _ _ h=>h) hw
  ·rename_i hwt
   rw [if_neg hwt]
   exact ih _ _ hw
def mixB (md:Region.Mode) (ops:Array Oper) (n:Nat) (es:List Nat):List Nat→Array Bool→Bool
 | [],listed=>effB md ops n es listed
 | i :: r,listed=>decide (i < n) && (match ops[i]? with | some o=>calm o.op | none=>false) && (Region.ready md ops listed).contains i && Region.free md ops listed i && mixB md ops n es r (listed.setIfInBounds i true)
theorem wpAnyC_mix {n:Nat} {es:List Nat} (hsel:Region.noSelect ops=true) (hs:Region.sinkB md ops n=true) (hc:Region.chainB md ops n=true) (hn1:n+1=ops.size) (hes:∀ e∈es,e < ops.size) {w:World} (hC:C w) :
  ∀ (is:List Nat) (listed:Array Bool) (a:Act),mixB md ops n es is listed=true→HeadInv md ops n listed →
   wpQuiet P ops C (fun a'=>wpEff P ops C Q (pick ops.toList es) a' w) (pick ops.toList is) a→wpAnyC P md ops C Q n (is.length+es.length) listed a w
 | [],listed,a,hB,_,h=>by
  rw [List.length_nil,Nat.zero_add]
  exact wpAnyC_eff es listed a w hB hes h
 | i :: r,listed,a,hB,inv,h=>by
  simp only [mixB,Bool.and_eq_true,decide_eq_true_eq] at hB
  obtain ⟨⟨⟨⟨hin,hcalm⟩,hr⟩,hf⟩,hB'⟩:=hB
  have hel:i < ops.size:=by omega
  have ho:ops[i]?=some ops[i]:=Array.getElem?_eq_getElem hel
  simp only [ho] at hcalm
  have hr':i∈Region.ready md ops listed:=by simpa using hr
  have hp:pick ops.toList (i :: r)=ops[i] :: pick ops.toList r:=by simp [pick,ho]
  rw [hp] at h
  rw [List.length_cons,show r.length+1+es.length=(r.length+es.length)+1 by omega]
  simp only [wpQuiet] at h
  split at h
  ·rename_i hw
   obtain ⟨v,hv,hK⟩:=h
   refine wpAnyC_first ho (Region.noSelect_spec hsel) hs hc (by omega) hn1 hin _ listed a w inv (Region.free_spec ho hf) hr' hC (v:=v) ?_ (wpAnyC_mix hsel hs hc hn1 hes hC r _ _ hB' (inv.set hr' hin) hK)
   refine .inl ⟨hw,fun w hw'=>?_⟩
   have h3:=hv w hw'
   unfold Oper.quietAt at h3
   have hne:=fun w' f args=>calm_enter (P:=P) (ev:=a.eval) (w:=w) (w':=w') (f:=f) (args:=args) hcalm
   generalize (execOp a.eval ops[i]).run P w=res at h3 hne ⊢
   cases res with
   | ok nx w' =>
    cases nx <;> simp only [Oper.quietUpon] at h3
    case value u=>obtain ⟨rfl,rfl⟩:=h3;exact .inl rfl
    case skip=>obtain ⟨rfl,rfl⟩:=h3;exact .inr ⟨rfl,rfl⟩
    case enter f args=>exact absurd rfl (hne w' f args)
   | halt x w'=>simp only [Oper.quietUpon] at h3
  ·rename_i hw
   exact wpAnyC_first ho (Region.noSelect_spec hsel) hs hc (by omega) hn1 hin _ listed a w inv (Region.free_spec ho hf) hr' hC (v:=undef) (.inr ⟨by simpa using hw,rfl⟩) (wpAnyC_mix hsel hs hc hn1 hes hC r _ _ hB' (inv.set hr' hin) h)
theorem wp_mix {id:Nat} {a:Act} {w:World} {l:List Oper} (C:World→Prop) (is es:List Nat) (hm:P.follows .mixedOrders=true)
  (hB:(Region.noSelect l.toArray && Region.sinkB .any l.toArray (l.length - 1) && Region.chainB .any l.toArray (l.length - 1) && decide (0 < l.length) && es.all (fun e=>decide (e < l.length)) && decide (is.length+es.length=l.length) &&
   mixB .any l.toArray (l.length - 1) es is (Array.replicate l.length false))=true)
  (hC:C w.drew) (h:wpQuiet P l.toArray C (fun a'=>wpEff P l.toArray C Q (pick l es) a' w.drew) (pick l is) a):(Code.region id l.toArray true).wp P Q a w:=by
 simp only [Bool.and_eq_true,decide_eq_true_eq] at hB
 obtain ⟨⟨⟨⟨⟨⟨hsel,hs⟩,hc⟩,hl0⟩,hes⟩,hlen⟩,hmix⟩:=hB
 have hes':∀ e∈es,e < l.toArray.size:=fun e he=>by
  have:=List.all_eq_true.1 hes e he
  simpa using this
 have inv0:HeadInv .any l.toArray (l.length - 1) (Array.replicate l.length false) :=
  ⟨by simp,fun j oj _ hl=>(by rw [getD_replicate_false] at hl;cases hl),fun t _ ht=>getD_in (by simpa using ht) (getD_replicate_false _ _)⟩
 have H:=wpAnyC_mix (P:=P) (md:=.any) (ops:=l.toArray) (C:=C) (Q:=Q) hsel hs hc (by simp <;> omega) hes' hC is _ a hmix inv0 (by simpa using h)
 refine wp_region_any hm ?_
 have:=wpAny_of_C _ _ _ _ H
 rw [hlen] at this
 simpa using this
theorem wpEff_plain {o o':Oper} {rest:List Oper} {a:Act} {w:World} (hg:o.guard=none)
  (h:∀ K:Act→World→Prop,(∀ a w,C w→wpEff P ops C Q (o' :: rest) a w→K a w)→o.wp P a w K (fun _ _ _=>False)) :
  wpEff P ops C Q (o :: o' :: rest) a w:=by
 have h1:=h (fun a w=>C w∧wpEff P ops C Q (o' :: rest) a w) (fun a w hc hw=>⟨hc,hw⟩)
 unfold wpEff
 rw [if_pos (by simp [Region.wanted,hg])]
 exact h1
theorem wpEff_last {o:Oper} {a:Act} {w:World} (h:wpList P ops Q [o] a w):wpEff P ops C Q [o] a w:=h
end
structure Lat (S:Nat→Prop) (w0:World) where
 w:World
 frm:Frm S w0 w
instance Lat.inh (S:Nat→Prop) (w0:World):Inhabited (Lat S w0):=⟨⟨w0,Frm.refl S w0⟩⟩
def lat {S:Nat→Prop} {w0:World} (p:Lat S w0):World:=p.w
theorem Lat.cell {S:Nat→Prop} {w0:World} (p:Lat S w0) (a:Addr) (h:a.block < w0.heap.size) (hs:¬ S a.block):(lat p).cell? a=w0.cell? a:=p.frm.cell h hs
theorem Lat.frozen {S:Nat→Prop} {w0:World} (p:Lat S w0) (a:Addr) (h:a.block < w0.heap.size) (hs:¬ S a.block):(lat p).frozen? a=w0.frozen? a:=World.frozen?_of_block (p.frm.block _ h hs)
theorem Lat.mk_ {S:Nat→Prop} {w0 w:World} (h:Frm S w0 w):∃ p:Lat S w0,w=lat p:=⟨⟨w,h⟩,rfl⟩
attribute [go_sem] Lat.cell Lat.frozen
theorem wp_mixS {P:Program} {Q:Exit→Act→World→Prop} {id:Nat} {a:Act} {w:World} {l:List Oper} (S:Nat→Prop) (is es:List Nat) (hm:P.follows .mixedOrders=true)
  (hB:(Region.noSelect l.toArray && Region.sinkB .any l.toArray (l.length - 1) && Region.chainB .any l.toArray (l.length - 1) && decide (0 < l.length) && es.all (fun e=>decide (e < l.length)) && decide (is.length+es.length=l.length) &&
   mixB .any l.toArray (l.length - 1) es is (Array.replicate l.length false))=true)
  (h:wpQuiet P l.toArray (fun w'=>∃ p:Lat S w,w'=lat p) (fun a'=>wpEff P l.toArray (fun w'=>∃ p:Lat S w,w'=lat p) Q (pick l es) a' w.drew) (pick l is) a):(Code.region id l.toArray true).wp P Q a w :=
 wp_mix (fun w'=>∃ p:Lat S w,w'=lat p) is es hm hB (Lat.mk_ (Frm.drew (Frm.refl S w))) h
theorem news_of_blk {w:World} {nb:Nat} {e:TypeId} {l:List Value} (h:Blk w nb e l.toArray):∀ j u,l[j]?=some u→w.cell? ((⟨nb,0,none⟩:Addr).add j)=some u:=by
 intro j u hj
 have hadd:(⟨nb,0,none⟩:Addr).add j=⟨nb,j,none⟩:=by unfold Addr.add;split <;> simp_all
 rw [hadd,h.cell]
 simpa using hj
theorem Own.append {P:Program} {o:Oper} {a:Act} {w:World} {K:Act→World→Prop} {Q:Exit→Act→World→Prop} {e:TypeId} {m:Nat} {α:Type} {f:α→List Value} {A:Option Addr} {N C:Nat} {xs:List α}
  (s x:Operand) (t:TypeId) (ho:o.op=.call { callee:=.builtin .append,args:=#[s,x],argTypes:=#[t,t] }) (ht:P.underlying t=some (.slice e))
  {z:Value} {bytes:Nat} (hinfo:(P.info? e).map (fun i=>(i.zero,i.size,i.bytes))=some (some z,m,bytes)) (hzs:z.cells.size=m) (hm:0 < m)
  (hs:a.eval s=.slice A N C) (h:Own w e m f A N C xs) (hf:∀ x,(f x).length=m) (x0:α) (nb cx:Nat) (hx:a.eval x=.slice (some ⟨nb,0,none⟩) 1 cx) (hnb:Blk w nb e (f x0).toArray)
  (h1:∀ u∈f x0,u.oneCell'=true) (h63:xs.length+1≤maxLen) (hb:(xs.length+1) * bytes≤140737488355328)
  (hK:∀ g cap w',Own w' e m f (some ⟨g,0,none⟩) (N+1) cap (xs ++ [x0])→w.grownBy w' (Value.slice A N C).ownBlock→((Value.slice A N C).ownBlock=some g∨g=w.heap.size)→K (a.put o.dst (.slice (some ⟨g,0,none⟩) (N+1) cap)) w') :
  o.wp P a w K Q:=by
 obtain ⟨i,hi,hz,hsz,hby⟩:=info_parts hinfo
 obtain rfl:=h.len
 refine wp_append_lies w s x t ho 0 e i z m bytes ht hi hz hsz hby hzs hm _ _ _ hs h.own ⟨nb,0,none⟩ 1 cx (f x0) hx (by rw [hf,Nat.one_mul]) (news_of_blk hnb) h1 (by omega) h63 hb (Nat.zero_le _) w.heap.size rfl ?_
 intro g cap w' hown hg hat _
 refine hK g cap w' ⟨by simp,?_⟩ hg hat
 simpa using hown
theorem Own.append_list {P:Program} {ops:Array Oper} {rest:List Oper} {o:Oper} {a:Act} {w:World} {Q:Exit→Act→World→Prop} {e:TypeId} {m:Nat} {α:Type} {f:α→List Value} {A:Option Addr} {N C:Nat} {xs:List α} (hgd:o.guard=none)
  (s x:Operand) (t:TypeId) (ho:o.op=.call { callee:=.builtin .append,args:=#[s,x],argTypes:=#[t,t] }) (ht:P.underlying t=some (.slice e))
  {z:Value} {bytes:Nat} (hinfo:(P.info? e).map (fun i=>(i.zero,i.size,i.bytes))=some (some z,m,bytes)) (hzs:z.cells.size=m) (hm:0 < m)
  (hs:a.eval s=.slice A N C) (h:Own w e m f A N C xs) (hf:∀ x,(f x).length=m) (x0:α) (nb cx:Nat) (hx:a.eval x=.slice (some ⟨nb,0,none⟩) 1 cx) (hnb:Blk w nb e (f x0).toArray)
  (h1:∀ u∈f x0,u.oneCell'=true) (h63:xs.length+1≤maxLen) (hb:(xs.length+1) * bytes≤140737488355328)
  (hK:∀ g cap w',Own w' e m f (some ⟨g,0,none⟩) (N+1) cap (xs ++ [x0])→w.grownBy w' (Value.slice A N C).ownBlock→((Value.slice A N C).ownBlock=some g∨g=w.heap.size)→wpList P ops Q rest (a.put o.dst (.slice (some ⟨g,0,none⟩) (N+1) cap)) w') :
  wpList P ops Q (o :: rest) a w :=
 wpList_plain hgd fun _ hk=>Own.append s x t ho ht hinfo hzs hm hs h hf x0 nb cx hx hnb h1 h63 hb fun g cap w' a b c=>hk _ _ (hK g cap w' a b c)
end Go.Tk
namespace Go.Tk
open Go.RowKit Go.ChangeShapes Go.WideShapes Go.Deep
def icell (x:Int):List Value:=[.int .i64 x]
theorem icell_len (x:Int):(icell x).length=1:=rfl
abbrev IL (w:World) (A:Option Addr) (n:Nat) (xs:List Int):Prop:=Sl w 1 icell A n xs
abbrev Row1 (w:World) (e:TypeId) {α:Type} (c:α→Value) (A:Option Addr) (N C:Nat) (xs:List α):Prop:=Own w e 1 (fun x=>[c x]) A N C xs
abbrev OwnI (w:World) (e:TypeId) (A:Option Addr) (N C:Nat) (xs:List Int):Prop:=Own w e 1 icell A N C xs
section
variable {w w':World} {e:TypeId} {α:Type} {c:α→Value} {A:Option Addr} {N C n:Nat} {xs:List α}
theorem Sl.at1 {xs:List Int} (h:IL w A n xs) {i:Nat} {x:Int} (hi:xs[i]?=some x):∃ b off,A=some ⟨b,off,none⟩∧b < w.heap.size∧w.cell? ⟨b,off+i,none⟩=some (.int .i64 x):=by
 obtain ⟨b,off,h1,h2,h3⟩:=h.get i x hi
 refine ⟨b,off,h1,h2,?_⟩
 have:=h3 0 (by omega)
 simpa [icell] using this
theorem Sl.same {m:Nat} {f:α→List Value} (h:Sl w m f A n xs) (hs:Same w w'):Sl w' m f A n xs:=h.later (hs.to_below (Nat.le_refl _) (fun _ _=>id))
theorem Own.sl {m:Nat} {f:α→List Value} (hf:∀ x,(f x).length=m) (h:Own w e m f A N C xs):Sl w m f A N xs :=
 ⟨h.len,fun i x hi=>by
  obtain ⟨sb,rfl,h1,h2⟩:=h.get hf hi
  exact ⟨sb,0,rfl,h1,fun j hj=>by rw [Nat.zero_add];exact h2 j hj⟩⟩
theorem Own.il {xs:List Int} (h:OwnI w e A N C xs):IL w A N xs:=h.sl icell_len
theorem Own.at1 (h:Row1 w e c A N C xs) {i:Nat} {x:α} (hi:xs[i]?=some x):∃ sb,A=some ⟨sb,0,none⟩∧sb < w.heap.size∧w.cell? ⟨sb,i,none⟩=some (c x):=by
 obtain ⟨sb,h1,h2,h3⟩:=Own.get (m:=1) (f:=fun x=>[c x]) (fun _=>rfl) h hi
 refine ⟨sb,h1,h2,?_⟩
 have:=h3 0 (by omega)
 simpa using this
theorem Own.put1 {sb:Nat} (h:Row1 w e c (some ⟨sb,0,none⟩) N C xs) {i:Nat} (hi:i < xs.length) (x':α):Row1 (w.setCell ⟨sb,i,none⟩ (c x')) e c (some ⟨sb,0,none⟩) N C (xs.set i x'):=by
 have:=Own.store (m:=1) (f:=fun x=>[c x]) (fun _=>rfl) h i 0 (xs[i]) x' (c x') (List.getElem?_eq_getElem hi) (by omega) rfl
 simpa using this
theorem Own.form1 (h:Row1 w e c A N C xs) (hN:0 < xs.length):∃ sb,A=some ⟨sb,0,none⟩∧sb < w.heap.size:=h.form (by have:=h.len;omega)
theorem Own.ofMade (w:World) (e:TypeId) {m:Nat} (f:α→List Value) (hf:∀ x,(f x).length=m) (hm:0 < m) (x:α) (n:Nat) (hmax:n≤maxLen) {cs:Array Value} (hcs:cs=madeCells (f x).toArray (n * m)) :
  Own (w.alloc (.cells cs e)) e m f (some ⟨w.heap.size,0,none⟩) n n (List.replicate n x):=by
 subst hcs
 rw [made_flat f m hf hm]
 refine ⟨by simp,by rw [flat_length f m hf];simp,.inr ⟨w.heap.size,n,_,rfl,Nat.zero_le _,heap_alloc_new w _,Nat.le_refl _,hmax,?_,?_⟩⟩
 ·rw [List.size_toArray,flat_length f m hf,List.length_replicate]
 ·rw [List.toList_toArray]
  apply List.take_of_length_le
  rw [flat_length f m hf,List.length_replicate]
  exact Nat.le_refl _
theorem Own.lit (w:World) (e:TypeId) {m:Nat} (f:α→List Value) (hf:∀ x,(f x).length=m) (xs:List α) (hmax:xs.length≤maxLen) {cs:Array Value} (hcs:cs=(xs.flatMap f).toArray) :
  Own (w.alloc (.cells cs e)) e m f (some ⟨w.heap.size,0,none⟩) xs.length xs.length xs:=by
 subst hcs
 refine ⟨rfl,flat_length f m hf xs,.inr ⟨w.heap.size,xs.length,_,rfl,Nat.zero_le _,heap_alloc_new w _,Nat.le_refl _,hmax,?_,?_⟩⟩
 ·rw [List.size_toArray,flat_length f m hf]
 ·rw [List.toList_toArray]
  apply List.take_of_length_le
  rw [flat_length f m hf]
  exact Nat.le_refl _
def Fresh (B:Nat) (A:Option Addr):Prop:=∀ b,rowOf A b→B≤b
theorem fresh_none (B:Nat):Fresh B none:=by rintro b ⟨a,h,_⟩;cases h
theorem fresh_some {B b off:Nat} (h:B≤b):Fresh B (some ⟨b,off,none⟩):=by rintro b' ⟨a,ha,rfl⟩;injection ha with ha;subst ha;exact h
end
theorem Own.pop {w:World} {e:TypeId} {m:Nat} {α:Type} {f:α→List Value} {A:Option Addr} {N C:Nat} {xs:List α} {x:α} (hf:∀ x,(f x).length=m) (h:Own w e m f A N C (xs ++ [x])):Own w e m f A xs.length C xs:=by
 have hl:=h.len
 simp at hl
 refine ⟨rfl,flat_length f m hf xs,?_⟩
 rcases h.own.2 with ⟨_,h0⟩ | ⟨g,cap,cur,h1,h0,h2,h3,h4,h5,h6⟩
 ·omega
 ·injection h1 with hA _ hC
  subst hA hC
  refine .inr ⟨g,_,cur,rfl,h0,h2,by omega,h4,h5,?_⟩
  have h7:=congrArg (List.take (xs.length * m)) h6
  rw [List.take_take,hl,Nat.min_eq_left (Nat.mul_le_mul_right m (by omega)),List.flatMap_append,List.take_append_of_le_length (by rw [flat_length f m hf];exact Nat.le_refl _)] at h7
  rw [h7]
  exact List.take_of_length_le (by rw [flat_length f m hf];exact Nat.le_refl _)
theorem Own.pop1 {w:World} {e:TypeId} {α:Type} {c:α→Value} {A:Option Addr} {N C:Nat} {xs:List α} {x:α} (h:Row1 w e c A N C (xs ++ [x])):Row1 w e c A xs.length C xs :=
 Own.pop (m:=1) (f:=fun x=>[c x]) (fun _=>rfl) h
theorem Own.ne_own {w:World} {e e':TypeId} {m m':Nat} {α β:Type} {f:α→List Value} {f':β→List Value} {A A':Option Addr} {N C N' C':Nat} {xs:List α} {ys:List β} (h:Own w e m f A N C xs) (h':Own w e' m' f' A' N' C' ys) (hne:e≠e') :
  ∀ b,rowOf A b→¬ rowOf A' b:=by
 rintro b ⟨a,ha,hb⟩ ⟨a',ha',hb'⟩
 subst ha ha'
 rcases h.own.2 with ⟨h0,_⟩ | ⟨g,cap,cur,h1,_,h2,_⟩
 ·cases h0
 ·rcases h'.own.2 with ⟨h0,_⟩ | ⟨g',cap',cur',h1',_,h2',_⟩
  ·cases h0
  ·injection h1 with hA _ _
   injection hA with hA
   injection h1' with hA' _ _
   injection hA' with hA'
   subst hA hA'
   simp only at hb hb'
   subst hb hb'
   exact hne (Blk.inj (show Blk w g' e cur from h2) (show Blk w g' e' cur' from h2')).1
end Go.Tk
namespace Go.Tk
def bsum (F:Nat→Bool):Nat→Nat
 | 0=>0
 | m+1=>bsum F m+(if F m then 2 ^ m else 0)
theorem bsum_lt (F:Nat→Bool):∀ m,bsum F m < 2 ^ m
 | 0=>by simp [bsum]
 | m+1=>by
  have:=bsum_lt F m
  rw [bsum,Nat.pow_succ]
  split <;> omega
theorem bsum_bit (F:Nat→Bool):∀ m j,(bsum F m).testBit j=(decide (j < m) && F j)
 | 0,j=>by simp [bsum]
 | m+1,j=>by
  have ih:=bsum_bit F m j
  have hl:=bsum_lt F m
  have he:(if F m then 2 ^ m else 0)=2 ^ m * (F m).toNat:=by cases F m <;> simp
  rw [bsum,he,Nat.add_comm,Nat.testBit_two_pow_mul_add _ hl,ih]
  rcases Nat.lt_trichotomy j m with h | h | h
  ·rw [if_pos h]
   simp [h,show j < m+1 by omega]
  ·subst h
   rw [if_neg (Nat.lt_irrefl _)]
   cases hF:F j <;> simp
  ·rw [if_neg (by omega)]
   have h1:¬ j < m+1:=by omega
   have h2:(F m).toNat.testBit (j - m)=false:=by
    obtain ⟨d,hd⟩:∃ d,j - m=d+1:=⟨j - m - 1,by omega⟩
    rw [hd]
    cases F m <;> simp [Nat.testBit_succ]
   simp [h1,h2]
theorem bsum_congr {F G:Nat→Bool}:∀ {m},(∀ j,j < m→F j=G j)→bsum F m=bsum G m
 | 0,_=>rfl
 | m+1,h=>by rw [bsum,bsum,bsum_congr (fun j hj=>h j (by omega)),h m (by omega)]
def nw (n:Nat):Nat:=if n≤6 then 1 else 2 ^ (n - 6)
theorem nw_pos (n:Nat):0 < nw n:=by
 unfold nw
 split
 ·omega
 ·exact Nat.pow_pos (by omega)
theorem nw_le {n:Nat} (h:n≤16):nw n≤1024:=by
 have:∀ n,n≤16→nw n≤1024:=by decide
 exact this n h
theorem pow_le16 {n:Nat} (h:n≤16):2 ^ n≤65536:=by
 have:∀ n,n≤16→2 ^ n≤65536:=by decide
 exact this n h
theorem nw_mul {n:Nat} (h:6≤n):nw n * 64=2 ^ n:=by
 unfold nw
 by_cases h6:n=6
 ·subst h6;decide
 ·rw [if_neg (by omega),show (64:Nat)=2 ^ 6 by decide,← Nat.pow_add,show n - 6+6=n by omega]
theorem nw_small {n:Nat} (h:n < 6):nw n=1:=by unfold nw;rw [if_pos (by omega)]
def fullN (n:Nat):Nat:=if 6≤n then 18446744073709551615 else 2 ^ 2 ^ n - 1
theorem fullN_lt (n:Nat):fullN n < 18446744073709551616:=by
 unfold fullN
 split
 ·omega
 ·rename_i h
  have:∀ n,n < 6→2 ^ 2 ^ n - 1 < 18446744073709551616:=by decide
  exact this n (by omega)
theorem fullN_bit {n j:Nat} (hj:j < 64):(fullN n).testBit j=decide (6≤n∨j < 2 ^ n):=by
 unfold fullN
 split
 ·rename_i h
  rw [show (18446744073709551615:Nat)=2 ^ 64 - 1 by decide,Nat.testBit_two_pow_sub_one]
  simp [hj,h]
 ·rename_i h
  rw [Nat.testBit_two_pow_sub_one]
  simp [h]
def word (n:Nat) (F:Nat→Bool) (k:Nat):Nat:=bsum (fun j=>decide (64 * k+j < 2 ^ n) && F (64 * k+j)) 64
theorem word_lt (n:Nat) (F:Nat→Bool) (k:Nat):word n F k < 18446744073709551616:=bsum_lt _ 64
theorem word_bit (n:Nat) (F:Nat→Bool) (k:Nat) {j:Nat} (hj:j < 64):(word n F k).testBit j=(decide (64 * k+j < 2 ^ n) && F (64 * k+j)):=by
 unfold word
 rw [bsum_bit]
 simp [hj]
def tab (n:Nat) (F:Nat→Bool):List Nat:=(List.range (nw n)).map (word n F)
theorem tab_len (n:Nat) (F:Nat→Bool):(tab n F).length=nw n:=by simp [tab]
theorem tab_get {n:Nat} {F:Nat→Bool} {k:Nat} (h:k < nw n):(tab n F)[k]?=some (word n F k):=by simp [tab,h]
theorem tab_lt {n:Nat} {F:Nat→Bool}:∀ x∈tab n F,x < 18446744073709551616:=by
 intro x hx
 obtain ⟨k,_,rfl⟩:=List.mem_map.1 hx
 exact word_lt n F k
theorem word_congr {n:Nat} {F G:Nat→Bool} (h:∀ i,i < 2 ^ n→F i=G i) (k:Nat):word n F k=word n G k:=by
 refine bsum_congr fun j _=>?_
 by_cases hj:64 * k+j < 2 ^ n
 ·rw [h _ hj]
 ·simp [hj]
theorem word_congr' {n:Nat} {F G:Nat→Bool} {k:Nat} (h:∀ j,j < 64→64 * k+j < 2 ^ n→F (64 * k+j)=G (64 * k+j)):word n F k=word n G k:=by
 unfold word
 refine bsum_congr fun j hj=>?_
 by_cases hjn:64 * k+j < 2 ^ n
 ·rw [h j hj hjn]
 ·simp [hjn]
def vb (ws:List Nat) (i:Nat):Bool:=(ws.getD (i / 64) 0).testBit (i % 64)
theorem vb_tab {n:Nat} {F:Nat→Bool} {i:Nat} (h:i < 2 ^ n):vb (tab n F) i=F i:=by
 unfold vb
 have hk:i / 64 < nw n:=by
  by_cases h6:6≤n
  ·have:=nw_mul h6;omega
  ·rw [nw_small (by omega)]
   have:=Nat.pow_le_pow_right (show 0 < 2 by omega) (show n≤5 by omega)
   omega
 rw [List.getD_eq_getElem?_getD,tab_get hk,Option.getD_some,word_bit _ _ _ (Nat.mod_lt _ (by omega)),Nat.div_add_mod]
 simp [h]
structure FormN (n:Nat) (ws:List Nat):Prop where
 n16:n≤16
 len:ws.length=nw n
 top:n < 6→ws.getD 0 0 < 2 ^ 2 ^ n
theorem tab_form {n:Nat} {F:Nat→Bool} (h:n≤16):FormN n (tab n F):=by
 refine ⟨h,tab_len n F,fun h6=>?_⟩
 rw [List.getD_eq_getElem?_getD,tab_get (nw_pos n),Option.getD_some]
 refine Nat.lt_pow_two_of_testBit _ fun j hj=>?_
 by_cases hj64:j < 64
 ·rw [word_bit _ _ _ hj64]
  simp <;> omega
 ·exact Nat.testBit_lt_two_pow (Nat.lt_of_lt_of_le (word_lt _ _ _) (Nat.pow_le_pow_right (show 0 < 2 by omega) (show 64≤j by omega)))
theorem word_laid {n:Nat} {F:Nat→Bool} {k g:Nat} (hk:k < nw n) (hg:∀ j,j < 64→64 * k+j < 2 ^ n→g.testBit j=F (64 * k+j)):g &&& fullN n=word n F k:=by
 apply Nat.eq_of_testBit_eq
 intro j
 rw [Nat.testBit_and]
 by_cases hj:j < 64
 ·rw [word_bit _ _ _ hj,fullN_bit hj]
  by_cases h6:6≤n
  ·have:=nw_mul h6
   have h1:64 * k+j < 2 ^ n:=by omega
   rw [hg j hj h1]
   simp [h1,h6]
  ·have hk0:k=0:=by rw [nw_small (by omega)] at hk;omega
   subst hk0
   by_cases h1:j < 2 ^ n
   ·rw [hg j hj (by omega)]
    simp [h1]
   ·simp [h1,h6]
 ·have h1:(word n F k).testBit j=false:=Nat.testBit_lt_two_pow (Nat.lt_of_lt_of_le (word_lt _ _ _) (Nat.pow_le_pow_right (show 0 < 2 by omega) (show 64≤j by omega)))
  have h2:(fullN n).testBit j=false:=Nat.testBit_lt_two_pow (Nat.lt_of_lt_of_le (fullN_lt n) (Nat.pow_le_pow_right (show 0 < 2 by omega) (show 64≤j by omega)))
  rw [h1,h2,Bool.and_false]
def part (n:Nat) (F:Nat→Bool) (m:Nat):List Nat:=(List.range (nw n)).map fun k=>word n (fun i=>decide (i < m) && F i) k
theorem part_len (n:Nat) (F:Nat→Bool) (m:Nat):(part n F m).length=nw n:=by simp [part]
theorem part_full (n:Nat) (F:Nat→Bool):part n F (2 ^ n)=tab n F:=by
 unfold part tab
 apply List.map_congr_left
 intro k _
 exact word_congr (fun i hi=>by simp [hi]) k
theorem part_zero (n:Nat) (F:Nat→Bool):part n F 0=List.replicate (nw n) 0:=by
 apply List.ext_getElem?
 intro k
 rcases Nat.lt_or_ge k (nw n) with hk | hk
 ·rw [part]
  simp only [List.getElem?_map,List.getElem?_range hk,Option.map_some,List.getElem?_replicate,if_pos hk]
  congr 1
  apply Nat.eq_of_testBit_eq
  intro j
  unfold word
  rw [bsum_bit]
  simp
 ·rw [List.getElem?_eq_none (by rw [part_len];exact hk),List.getElem?_eq_none (by simpa using hk)]
theorem part_get {n:Nat} {F:Nat→Bool} {m k:Nat} (h:k < nw n):(part n F m)[k]?=some (word n (fun i=>decide (i < m) && F i) k):=by simp [part,h]
theorem part_same {n:Nat} {F:Nat→Bool} {m:Nat} (h:F m=false):part n F (m+1)=part n F m:=by
 unfold part
 apply List.map_congr_left
 intro k _
 refine word_congr (fun i _=>?_) k
 by_cases hi:i=m
 ·subst hi;simp [h]
 ·rw [show decide (i < m+1)=decide (i < m) by rw [decide_eq_decide];omega]
theorem word_put {n:Nat} {F:Nat→Bool} {m:Nat} (hm:m < 2 ^ n) (h:F m=true):word n (fun i=>decide (i < m) && F i) (m / 64)+2 ^ (m % 64)=word n (fun i=>decide (i < m+1) && F i) (m / 64):=by
 have hA:∀ j,j < 64→(word n (fun i=>decide (i < m) && F i) (m / 64)).testBit j=(decide (64 * (m / 64)+j < 2 ^ n) && (decide (64 * (m / 64)+j < m) && F (64 * (m / 64)+j))):=fun j hj=>word_bit n _ _ hj
 have hB:∀ j,j < 64→(word n (fun i=>decide (i < m+1) && F i) (m / 64)).testBit j=(decide (64 * (m / 64)+j < 2 ^ n) && (decide (64 * (m / 64)+j < m+1) && F (64 * (m / 64)+j))):=fun j hj=>word_bit n _ _ hj
 have hAl:word n (fun i=>decide (i < m) && F i) (m / 64) < 2 ^ 64:=bsum_lt _ 64
 have hBl:word n (fun i=>decide (i < m+1) && F i) (m / 64) < 2 ^ 64:=bsum_lt _ 64
 have hdm:=Nat.div_add_mod m 64
 have hmm:=Nat.mod_lt m (show 0 < 64 by omega)
 generalize word n (fun i=>decide (i < m) && F i) (m / 64)=a at hA hAl ⊢
 generalize word n (fun i=>decide (i < m+1) && F i) (m / 64)=b at hB hBl ⊢
 generalize m % 64=r at hdm hmm ⊢
 generalize m / 64=q at hA hB hdm
 have hlt:a < 2 ^ r:=by
  refine Nat.lt_pow_two_of_testBit _ fun j hj=>?_
  by_cases hj64:j < 64
  ·rw [hA j hj64]
   have:¬ 64 * q+j < m:=by omega
   simp [this]
  ·exact Nat.testBit_lt_two_pow (Nat.lt_of_lt_of_le hAl (Nat.pow_le_pow_right (show 0 < 2 by omega) (show 64≤j by omega)))
 apply Nat.eq_of_testBit_eq
 intro j
 rw [show a+2 ^ r=2 ^ r * 1+a by omega,Nat.testBit_two_pow_mul_add _ hlt]
 by_cases hj64:j < 64
 ·rw [hA j hj64,hB j hj64]
  rcases Nat.lt_trichotomy j r with h1 | h1 | h1
  ·rw [if_pos h1]
   rw [show decide (64 * q+j < m)=true by simp <;> omega,show decide (64 * q+j < m+1)=true by simp <;> omega]
  ·subst h1
   rw [if_neg (by omega),Nat.sub_self,hdm]
   simp [h,hm]
  ·rw [if_neg (by omega)]
   obtain ⟨d,hd⟩:∃ d,j - r=d+1:=⟨j - r - 1,by omega⟩
   rw [hd,show (1:Nat).testBit (d+1)=false by simp [Nat.testBit_succ]]
   have:¬ 64 * q+j < m+1:=by omega
   simp [this]
 ·have h1:b.testBit j=false:=Nat.testBit_lt_two_pow (Nat.lt_of_lt_of_le hBl (Nat.pow_le_pow_right (show 0 < 2 by omega) (show 64≤j by omega)))
  obtain ⟨d,hd⟩:∃ d,j - r=d+1:=⟨j - r - 1,by omega⟩
  rw [h1,if_neg (by omega),hd]
  simp [Nat.testBit_succ]
theorem part_put {n:Nat} {F:Nat→Bool} {m:Nat} (hm:m < 2 ^ n) (h:F m=true):(part n F m).set (m / 64) (word n (fun i=>decide (i < m) && F i) (m / 64)+2 ^ (m % 64))=part n F (m+1):=by
 apply List.ext_getElem?
 intro k
 rcases Nat.lt_or_ge k (nw n) with hk | hk
 ·rw [List.getElem?_set,part_len,part_get hk,part_get hk]
  split
  ·rename_i he
   subst he
   rw [word_put hm h]
   simp [hk]
  ·rename_i he
   refine congrArg some (word_congr' fun j hj _=>?_)
   have:¬ 64 * k+j=m:=by omega
   rw [show decide (64 * k+j < m+1)=decide (64 * k+j < m) by rw [decide_eq_decide];omega]
 ·rw [List.getElem?_eq_none (by simp [part_len,hk]),List.getElem?_eq_none (by rw [part_len];exact hk)]
theorem div_lt_nw {n m:Nat} (hm:m < 2 ^ n):m / 64 < nw n:=by
 by_cases h6:6≤n
 ·have:=nw_mul h6;omega
 ·rw [nw_small (by omega)]
  have:=Nat.pow_le_pow_right (show 0 < 2 by omega) (show n≤5 by omega)
  omega
end Go.Tk
namespace Go.Tk
open Go.RowKit
theorem run_append_zero {P:Program} {w:World} {t ty e:TypeId} {m:Nat} {α:Type} {f:α→List Value} {A:Option Addr} {N C:Nat} {xs:List α} (ht:P.underlying t=some (.slice e))
  {z:Value} {bytes:Nat} (hinfo:(P.info? e).map (fun i=>(i.zero,i.size,i.bytes))=some (some z,m,bytes)) (h:Own w e m f A N C xs) (ao:Option Addr) (c:Nat) :
  (Builtin.append_ #[t,t] ty #[.slice A N C,.slice ao 0 c]).run P w=.ok (.slice A N C) w:=by
 obtain ⟨i,hi,hz,hsz,hby⟩:=info_parts hinfo
 obtain rfl:=h.len
 rcases h.own.2 with ⟨h1,h2⟩ | ⟨g,cap,cur,h1,_,_,hnc,_⟩
 ·simp only [Value.slice.injEq] at h1
  obtain ⟨rfl,h0,rfl⟩:=h1
  rw [h0]
  cases ao <;> simp [Builtin.append_,run_underlying ht,sizeOf,typeInfo,hi,Builtin.lenOf,Builtin.firstCells,loadCells,loadCellsFrom]
 ·cases h1
  cases ao <;> simp [Builtin.append_,run_underlying ht,sizeOf,typeInfo,hi,Builtin.lenOf,Builtin.firstCells,hnc,storeCells,loadCells,loadCellsFrom]
theorem Own.append_many {P:Program} {o:Oper} {a:Act} {w:World} {K:Act→World→Prop} {Q:Exit→Act→World→Prop} {e:TypeId} {m:Nat} {α:Type} {f:α→List Value} {A:Option Addr} {N C:Nat} {xs:List α}
  (s x:Operand) (t:TypeId) (ho:o.op=.call { callee:=.builtin .append,args:=#[s,x],argTypes:=#[t,t] }) (ht:P.underlying t=some (.slice e))
  {z:Value} {bytes:Nat} (hinfo:(P.info? e).map (fun i=>(i.zero,i.size,i.bytes))=some (some z,m,bytes)) (hzs:z.cells.size=m) (hm:0 < m)
  (hs:a.eval s=.slice A N C) (h:Own w e m f A N C xs) (hf:∀ x,(f x).length=m) (ys:List α) (ao:Option Addr) (cx:Nat) (hx:a.eval x=.slice ao ys.length cx)
  (hne:ys≠[]→∃ ad,ao=some ad∧∀ j u,(ys.flatMap f)[j]?=some u→w.cell? (ad.add j)=some u)
  (h1:∀ y∈ys,∀ u∈f y,u.oneCell'=true) (h63:xs.length+ys.length≤maxLen) (hb:(xs.length+ys.length) * bytes≤140737488355328)
  (hK:∀ A' C' w',Own w' e m f A' (xs ++ ys).length C' (xs ++ ys)→w.grownBy w' (Value.slice A N C).ownBlock→(∀ b,rowOf A' b→rowOf A b∨b=w.heap.size)→K (a.put o.dst (.slice A' (xs ++ ys).length C')) w') :
  o.wp P a w K Q:=by
 obtain ⟨i,hi,hz,hsz,hby⟩:=info_parts hinfo
 obtain rfl:=h.len
 cases ys with
 | nil =>
  have hr:=run_append_zero (P:=P) (ty:=o.type) ht hinfo h ao cx
  have hx':a.eval x=.slice ao 0 cx:=hx
  unfold Oper.wp execOp
  simp only [ho,resolve,invoke,builtin,Sem.run_bind,Sem.run_pure,Result.andThen_ok,List.map_toArray,List.map_cons,List.map_nil,hs,hx',hr]
  have hk:K (a.put o.dst (.slice A xs.length C)) w:=by simpa using hK A C w (by simpa using h) (World.grownBy.refl _ _) (fun b hb=>.inl hb)
  exact hk
 | cons y ys =>
  obtain ⟨ad,rfl,hc⟩:=hne (by simp)
  refine wp_append_lies w s x t ho 0 e i z m bytes ht hi hz hsz hby hzs hm _ _ _ hs h.own ad (y :: ys).length cx ((y :: ys).flatMap f) hx (flat_length f m hf _) hc (fun u hu=>?_) (by simp) h63 hb (Nat.zero_le _) w.heap.size rfl ?_
  ·obtain ⟨y',hy',hu'⟩:=List.mem_flatMap.1 hu
   exact h1 y' hy' u hu'
  ·intro g cap w' hown hg hat _
   rw [← List.length_append] at hown ⊢
   refine hK _ _ w' ⟨rfl,?_⟩ hg ?_
   ·simpa using hown
   ·rintro b ⟨a',ha,rfl⟩
    injection ha with ha
    subst ha
    rcases hat with h | h
    ·exact .inl (ownBlock_row.1 h)
    ·exact .inr h
end Go.Tk
namespace Go.Tk
open Go.RowKit
theorem Own.cap {w:World} {e:TypeId} {m:Nat} {α:Type} {f:α→List Value} {A:Option Addr} {N C:Nat} {xs:List α} (h:Own w e m f A N C xs):N≤C:=by
 rcases h.own.2 with ⟨h1,h2⟩ | ⟨g,cap,cur,h1,_,_,hnc,_⟩
 ·cases h1;omega
 ·cases h1;exact hnc
theorem part_cells {w:World} {sb m:Nat} {α:Type} {f:α→List Value} (hf:∀ x,(f x).length=m) (hm:0 < m) {xs:List α} (hc:∀ (i:Nat) (x:α),xs[i]?=some x→∀ j,j < m→w.cell? ⟨sb,i * m+j,none⟩=(f x)[j]?) (o:Nat) (ys:List α) (hy:∀ i x,ys[i]?=some x→xs[o+i]?=some x) :
  ∀ j u,(ys.flatMap f)[j]?=some u→w.cell? ((⟨sb,o * m,none⟩:Addr).add j)=some u:=by
 intro j u hj
 have hj':=hj
 rw [show j=j / m * m+j % m from by rw [Nat.mul_comm];exact (Nat.div_add_mod j m).symm,flat_get f m hf _ _ _ (Nat.mod_lt _ hm)] at hj'
 cases hx:ys[j / m]? with
 | none=>rw [hx] at hj';cases hj'
 | some x =>
  rw [hx] at hj'
  have h2:=hc (o+j / m) x (hy _ _ hx) (j % m) (Nat.mod_lt _ hm)
  have hadd:(⟨sb,o * m,none⟩:Addr).add j=⟨sb,(o+j / m) * m+j % m,none⟩:=by
   have:(o+j / m) * m+j % m=o * m+j:=by
    have:=Nat.div_add_mod j m
    rw [Nat.add_mul,Nat.mul_comm (j / m)];omega
   rw [this]
   unfold Addr.add;split <;> simp_all
  rw [hadd,h2]
  exact hj'
end Go.Tk
namespace Go.Tk
open Go.RowKit
section
variable {P:Program} {ops:Array Oper} {C:World→Prop} {Q:Exit→Act→World→Prop}
theorem wpList_head:∀ (l rest:List Oper) (a:Act) (w:World),C w→wpQuiet P ops C (fun a'=>∀ w',C w'→wpList P ops Q rest a' w') l a→wpList P ops Q (l ++ rest) a w
 | [],_,_,w,hC,h=>h w hC
 | o :: l,rest,a,w,hC,h=>by
  simp only [wpQuiet] at h
  simp only [List.cons_append,wpList]
  split
  ·rename_i hw
   rw [if_pos hw] at h
   obtain ⟨v,hv,hK⟩:=h
   left
   have h3:=hv w hC
   unfold Oper.quietAt at h3
   unfold Oper.wp
   generalize (execOp a.eval o).run P w=res at h3 ⊢
   cases res with
   | ok nx w' =>
    cases nx <;> simp only [Oper.quietUpon] at h3 <;> simp only [Oper.upon]
    case value u =>
     obtain ⟨rfl,rfl⟩:=h3
     exact wpList_head l rest _ _ hC hK
    case skip =>
     obtain ⟨rfl,rfl⟩:=h3
     exact wpList_head l rest _ _ hC hK
    case enter f args =>
     obtain ⟨rfl,h4⟩:=h3
     refine h4.mono fun e w'' he=>?_
     obtain ⟨rfl,hC'⟩:=he
     exact wpList_head l rest _ _ hC' hK
   | halt x w'=>simp only [Oper.quietUpon] at h3
  ·rename_i hw
   rw [if_neg hw] at h
   exact wpList_head l rest _ _ hC h
end
theorem wpList_read {P:Program} {ops:Array Oper} {Q:Exit→Act→World→Prop} {l:List Oper} {a:Act} {w:World} (n:Nat)
  (h:wpQuiet P ops (fun w'=>w'=w) (fun a'=>wpList P ops Q (l.drop n) a' w) (l.take n) a):wpList P ops Q l a w:=by
 have:=wpList_head (C:=fun w'=>w'=w) (Q:=Q) (P:=P) (ops:=ops) (l.take n) (l.drop n) a w rfl (by
  have mono:∀ (l:List Oper) (a:Act) (K K':Act→Prop),(∀ a,K a→K' a)→wpQuiet P ops (fun w'=>w'=w) K l a→wpQuiet P ops (fun w'=>w'=w) K' l a:=by
   intro l
   induction l with
   | nil=>intro a K K' hk h;exact hk _ h
   | cons o l ih =>
    intro a K K' hk h
    simp only [wpQuiet] at h ⊢
    split
    ·rename_i hw
     rw [if_pos hw] at h
     exact Oper.quiet_mono (fun a h=>ih a K K' hk h) h
    ·rename_i hw
     rw [if_neg hw] at h
     exact ih _ K K' hk h
  exact mono _ _ _ _ (fun a h w' hw'=>hw' ▸ h) h)
 rwa [List.take_append_drop] at this
theorem wp_read {P:Program} {Q:Exit→Act→World→Prop} {id:Nat} {l:List Oper} {a:Act} {w:World} (n:Nat)
  (h:wpQuiet P l.toArray (fun w'=>w'=w) (fun a'=>wpList P l.toArray Q (l.drop n) a' w) (l.take n) a):(Code.region id l.toArray false).wp P Q a w :=
 wp_region_lit (wpList_read n h)
end Go.Tk
namespace Go.Tk
open Go.RowKit Go.Sort
section
variable {P:Program} {ops:Array Oper} {md:Region.Mode} {C:World→Prop} {Q:Exit→Act→World→Prop}
def effStep (P:Program) (ops:Array Oper) (C:World→Prop) (o:Oper) (a:Act) (w:World) (K:Act→World→Prop):Prop :=
 if Region.wanted o (yielded ops a.tmps) then o.wp P a w (fun a' w'=>C w'∧K a' w') (fun _ _ _=>False) else K (a.put o.dst undef) w
def wpPh (P:Program) (ops:Array Oper) (C:World→Prop) (Q:Exit→Act→World→Prop):List (List Nat × Nat)→Act→World→Prop
 | [],a,w=>Q .normal a w
 | [(is,e)],a,w=>wpQuiet P ops C (fun a'=>wpList P ops Q (pick ops.toList [e]) a' w) (pick ops.toList is) a
 | (is,e) :: x :: r,a,w=>wpQuiet P ops C (fun a'=>effStep P ops C (ops.toList.getD e default) a' w (wpPh P ops C Q (x :: r))) (pick ops.toList is) a
def calmAt (ops:Array Oper) (i:Nat):Bool:=match ops[i]? with | some o=>calm o.op | none=>false
def qsB (md:Region.Mode) (ops:Array Oper) (n:Nat) (K:Array Bool→Bool):List Nat→Array Bool→Bool
 | [],listed=>K listed
 | i :: r,listed=>decide (i < n) && calmAt ops i && (Region.ready md ops listed).contains i && Region.free md ops listed i && qsB md ops n K r (listed.setIfInBounds i true)
def phB (md:Region.Mode) (ops:Array Oper) (n:Nat):List (List Nat × Nat)→Array Bool→Bool
 | [],_=>false
 | [(is,e)],listed=>qsB md ops n (fun listed=>decide (Region.ready md ops listed=[e]) && decide (e=n) && decide (Region.ready md ops (listed.setIfInBounds e true)=[])) is listed
 | (is,e) :: x :: r,listed=>qsB md ops n (fun listed=>decide (Region.ready md ops listed=[e]) && decide (e < n) && phB md ops n (x :: r) (listed.setIfInBounds e true)) is listed
def phLen:List (List Nat × Nat)→Nat
 | []=>0
 | (is,_) :: r=>is.length+(1+phLen r)
theorem wpAnyC_qs {n g:Nat} {B:Array Bool→Bool} {w:World} {L:Act→Prop} (hsel:Region.noSelect ops=true) (hs:Region.sinkB md ops n=true) (hc:Region.chainB md ops n=true) (hn1:n+1=ops.size) (hC:C w)
  (hL:∀ listed a,B listed=true→HeadInv md ops n listed→L a→wpAnyC P md ops C Q n g listed a w) :
  ∀ (is:List Nat) (listed:Array Bool) (a:Act),qsB md ops n B is listed=true→HeadInv md ops n listed→wpQuiet P ops C L (pick ops.toList is) a→wpAnyC P md ops C Q n (is.length+g) listed a w
 | [],listed,a,hB,inv,h=>by
  rw [List.length_nil,Nat.zero_add]
  exact hL listed a hB inv h
 | i :: r,listed,a,hB,inv,h=>by
  simp only [qsB,Bool.and_eq_true,decide_eq_true_eq] at hB
  obtain ⟨⟨⟨⟨hin,hcalm⟩,hr⟩,hf⟩,hB'⟩:=hB
  have hel:i < ops.size:=by omega
  have ho:ops[i]?=some ops[i]:=Array.getElem?_eq_getElem hel
  simp only [calmAt,ho] at hcalm
  have hr':i∈Region.ready md ops listed:=by simpa using hr
  have hp:pick ops.toList (i :: r)=ops[i] :: pick ops.toList r:=by simp [pick,ho]
  rw [hp] at h
  rw [List.length_cons,show r.length+1+g=(r.length+g)+1 by omega]
  simp only [wpQuiet] at h
  split at h
  ·rename_i hw
   obtain ⟨v,hv,hK⟩:=h
   refine wpAnyC_first ho (Region.noSelect_spec hsel) hs hc (by omega) hn1 hin _ listed a w inv (Region.free_spec ho hf) hr' hC (v:=v) ?_ (wpAnyC_qs hsel hs hc hn1 hC hL r _ _ hB' (inv.set hr' hin) hK)
   refine .inl ⟨hw,fun w hw'=>?_⟩
   have h3:=hv w hw'
   unfold Oper.quietAt at h3
   have hne:=fun w' f args=>calm_enter (P:=P) (ev:=a.eval) (w:=w) (w':=w') (f:=f) (args:=args) hcalm
   generalize (execOp a.eval ops[i]).run P w=res at h3 hne ⊢
   cases res with
   | ok nx w' =>
    cases nx <;> simp only [Oper.quietUpon] at h3
    case value u=>obtain ⟨rfl,rfl⟩:=h3;exact .inl rfl
    case skip=>obtain ⟨rfl,rfl⟩:=h3;exact .inr ⟨rfl,rfl⟩
    case enter f args=>exact absurd rfl (hne w' f args)
   | halt x w'=>simp only [Oper.quietUpon] at h3
  ·rename_i hw
   exact wpAnyC_first ho (Region.noSelect_spec hsel) hs hc (by omega) hn1 hin _ listed a w inv (Region.free_spec ho hf) hr' hC (v:=undef) (.inr ⟨by simpa using hw,rfl⟩) (wpAnyC_qs hsel hs hc hn1 hC hL r _ _ hB' (inv.set hr' hin) h)
theorem wpAnyC_ph {n:Nat} (hsel:Region.noSelect ops=true) (hs:Region.sinkB md ops n=true) (hc:Region.chainB md ops n=true) (hn1:n+1=ops.size) :
  ∀ (ph:List (List Nat × Nat)) (listed:Array Bool) (a:Act) (w:World),phB md ops n ph listed=true→HeadInv md ops n listed→C w→wpPh P ops C Q ph a w→wpAnyC P md ops C Q n (phLen ph) listed a w
 | [],_,_,_,h,_,_,_=>by simp [phB] at h
 | [(is,e)],listed,a,w,h,inv,hC,hw=>by
  simp only [phB] at h
  simp only [wpPh] at hw
  refine wpAnyC_qs hsel hs hc hn1 hC (g:=1+phLen []) (fun listed a hB inv hw=>?_) is listed a h inv hw
  simp only [Bool.and_eq_true,decide_eq_true_eq] at hB
  have hel:e < ops.size:=by omega
  have ho:ops[e]?=some ops[e]:=Array.getElem?_eq_getElem hel
  refine ⟨fun h0=>(by rw [hB.1.1] at h0;cases h0),fun i hi=>?_⟩
  rw [hB.1.1] at hi
  obtain rfl:i=e:=by simpa using hi
  have hp:pick ops.toList [i]=[ops[i]]:=by simp [pick,ho]
  rw [hp] at hw
  simp only [wpList] at hw
  unfold opC
  rw [if_neg (by omega)]
  unfold wpOp
  simp only [ho]
  split at hw
  ·rename_i hwt
   rw [if_pos hwt]
   rcases hw with hw | hw
   ·exact .inl (Oper.wp_imp (fun a' w' hq=>⟨hB.2,hq⟩) (fun _ _ _ h=>h) hw)
   ·exact .inr hw
  ·rename_i hwt
   rw [if_neg hwt]
   exact ⟨hB.2,hw⟩
 | (is,e) :: x :: r,listed,a,w,h,inv,hC,hw=>by
  simp only [phB] at h
  simp only [wpPh] at hw
  refine wpAnyC_qs hsel hs hc hn1 hC (g:=1+phLen (x :: r)) (fun listed a hB inv hw=>?_) is listed a h inv hw
  simp only [Bool.and_eq_true,decide_eq_true_eq] at hB
  have hel:e < ops.size:=by omega
  have ho:ops[e]?=some ops[e]:=Array.getElem?_eq_getElem hel
  have hre:e∈Region.ready md ops listed:=by rw [hB.1.1];simp
  rw [Nat.add_comm 1]
  refine ⟨fun h0=>(by rw [hB.1.1] at h0;cases h0),fun i hi=>?_⟩
  rw [hB.1.1] at hi
  obtain rfl:i=e:=by simpa using hi
  have hg:ops.toList.getD i default=ops[i]:=by simp [ho]
  rw [hg] at hw
  unfold effStep at hw
  unfold opC
  rw [if_pos hB.1.2]
  simp only [ho]
  split at hw
  ·rename_i hwt
   rw [if_pos hwt]
   exact Oper.wp_imp (fun a' w' hq=>⟨hq.1,wpAnyC_ph hsel hs hc hn1 (x :: r) _ _ _ hB.2 (inv.set hre hB.1.2) hq.1 hq.2⟩) (fun _ _ _ h=>h) hw
  ·rename_i hwt
   rw [if_neg hwt]
   exact wpAnyC_ph hsel hs hc hn1 (x :: r) _ _ _ hB.2 (inv.set hre hB.1.2) hC hw
theorem wp_ph {id:Nat} {a:Act} {w:World} {l:List Oper} (C:World→Prop) (ph:List (List Nat × Nat)) (hm:P.follows .mixedOrders=true)
  (hB:(Region.noSelect l.toArray && Region.sinkB .any l.toArray (l.length - 1) && Region.chainB .any l.toArray (l.length - 1) && decide (0 < l.length) && decide (phLen ph=l.length) &&
   phB .any l.toArray (l.length - 1) ph (Array.replicate l.length false))=true)
  (hC:C w.drew) (h:wpPh P l.toArray C Q ph a w.drew):(Code.region id l.toArray true).wp P Q a w:=by
 simp only [Bool.and_eq_true,decide_eq_true_eq] at hB
 obtain ⟨⟨⟨⟨⟨hsel,hs⟩,hc⟩,hl0⟩,hlen⟩,hph⟩:=hB
 have inv0:HeadInv .any l.toArray (l.length - 1) (Array.replicate l.length false) :=
  ⟨by simp,fun j oj _ hl=>(by rw [getD_replicate_false] at hl;cases hl),fun t _ ht=>getD_in (by simpa using ht) (getD_replicate_false _ _)⟩
 have H:=wpAnyC_ph (P:=P) (md:=.any) (ops:=l.toArray) (C:=C) (Q:=Q) hsel hs hc (by simp <;> omega) ph _ a w.drew hph inv0 hC h
 refine wp_region_any hm ?_
 have:=wpAny_of_C _ _ _ _ H
 rw [hlen] at this
 simpa using this
theorem effStep_plain {o:Oper} {a:Act} {w:World} {K:Act→World→Prop} (hg:o.guard=none)
  (h:∀ K':Act→World→Prop,(∀ a w,C w→K a w→K' a w)→o.wp P a w K' (fun _ _ _=>False)):effStep P ops C o a w K:=by
 have h1:=h (fun a w=>C w∧K a w) (fun a w hc hw=>⟨hc,hw⟩)
 unfold effStep
 rw [if_pos (by simp [Region.wanted,hg])]
 exact h1
end
theorem wp_phS {P:Program} {Q:Exit→Act→World→Prop} {id:Nat} {a:Act} {w:World} {l:List Oper} (S:Nat→Prop) (ph:List (List Nat × Nat)) (hm:P.follows .mixedOrders=true)
  (hB:(Region.noSelect l.toArray && Region.sinkB .any l.toArray (l.length - 1) && Region.chainB .any l.toArray (l.length - 1) && decide (0 < l.length) && decide (phLen ph=l.length) &&
   phB .any l.toArray (l.length - 1) ph (Array.replicate l.length false))=true)
  (h:wpPh P l.toArray (fun w'=>∃ p:Lat S w,w'=lat p) Q ph a w.drew):(Code.region id l.toArray true).wp P Q a w :=
 wp_ph (fun w'=>∃ p:Lat S w,w'=lat p) ph hm hB (Lat.mk_ (Frm.drew (Frm.refl S w))) h
inductive PT where
 | last (e:Nat)
 | q (is:List Nat) (t:PT)
 | step (e:Nat) (t:PT)
 | fork (i:Nat) (t:PT) (j:Nat) (u:PT)
def ptLen:PT→Nat
 | .last _=>1
 | .q is t=>is.length+ptLen t
 | .step _ t=>1+ptLen t
 | .fork _ t _ _=>1+ptLen t
section
variable {P:Program} {ops:Array Oper} {md:Region.Mode} {C:World→Prop} {Q:Exit→Act→World→Prop}
def wpT (P:Program) (ops:Array Oper) (C:World→Prop) (Q:Exit→Act→World→Prop):PT→Act→World→Prop
 | .last e,a,w=>wpList P ops Q (pick ops.toList [e]) a w
 | .q is t,a,w=>wpQuiet P ops C (fun a'=>wpT P ops C Q t a' w) (pick ops.toList is) a
 | .step e t,a,w=>effStep P ops C (ops.toList.getD e default) a w (wpT P ops C Q t)
 | .fork i t j u,a,w=>effStep P ops C (ops.toList.getD i default) a w (wpT P ops C Q t)∧effStep P ops C (ops.toList.getD j default) a w (wpT P ops C Q u)
def ptB (md:Region.Mode) (ops:Array Oper) (n:Nat):PT→Array Bool→Bool
 | .last e,listed=>decide (Region.ready md ops listed=[e]) && decide (e=n) && decide (Region.ready md ops (listed.setIfInBounds e true)=[])
 | .q is t,listed=>qsB md ops n (ptB md ops n t) is listed
 | .step e t,listed=>decide (Region.ready md ops listed=[e]) && decide (e < n) && ptB md ops n t (listed.setIfInBounds e true)
 | .fork i t j u,listed=>decide (Region.ready md ops listed=[i,j]) && decide (i < n) && decide (j < n) && decide (ptLen t=ptLen u) && ptB md ops n t (listed.setIfInBounds i true) && ptB md ops n u (listed.setIfInBounds j true)
theorem opC_eff {n e:Nat} {a:Act} {w:World} {K:Act→World→Prop} {K':Act→World→Prop} (he:e < n) (hel:e < ops.size) (hC:C w) (hw:effStep P ops C (ops.toList.getD e default) a w K)
  (hK:∀ a w,C w→K a w→K' a w):opC P ops C Q n e K' a w:=by
 have ho:ops[e]?=some ops[e]:=Array.getElem?_eq_getElem hel
 have hg:ops.toList.getD e default=ops[e]:=by simp [ho]
 rw [hg] at hw
 unfold effStep at hw
 unfold opC
 rw [if_pos he]
 simp only [ho]
 split at hw
 ·rename_i hwt
  rw [if_pos hwt]
  exact Oper.wp_imp (fun a' w' hq=>⟨hq.1,hK _ _ hq.1 hq.2⟩) (fun _ _ _ h=>h) hw
 ·rename_i hwt
  rw [if_neg hwt]
  exact hK _ _ hC hw
theorem wpAnyC_pt {n:Nat} (hsel:Region.noSelect ops=true) (hs:Region.sinkB md ops n=true) (hc:Region.chainB md ops n=true) (hn1:n+1=ops.size) :
  ∀ (t:PT) (listed:Array Bool) (a:Act) (w:World),ptB md ops n t listed=true→HeadInv md ops n listed→C w→wpT P ops C Q t a w→wpAnyC P md ops C Q n (ptLen t) listed a w
 | .last e,listed,a,w,hB,inv,hC,hw=>by
  simp only [ptB] at hB
  simp only [wpT] at hw
  simp only [Bool.and_eq_true,decide_eq_true_eq] at hB
  have hel:e < ops.size:=by omega
  have ho:ops[e]?=some ops[e]:=Array.getElem?_eq_getElem hel
  refine ⟨fun h0=>(by rw [hB.1.1] at h0;cases h0),fun i hi=>?_⟩
  rw [hB.1.1] at hi
  obtain rfl:i=e:=by simpa using hi
  have hp:pick ops.toList [i]=[ops[i]]:=by simp [pick,ho]
  rw [hp] at hw
  simp only [wpList] at hw
  unfold opC
  rw [if_neg (by omega)]
  unfold wpOp
  simp only [ho]
  split at hw
  ·rename_i hwt
   rw [if_pos hwt]
   rcases hw with hw | hw
   ·exact .inl (Oper.wp_imp (fun a' w' hq=>⟨hB.2,hq⟩) (fun _ _ _ h=>h) hw)
   ·exact .inr hw
  ·rename_i hwt
   rw [if_neg hwt]
   exact ⟨hB.2,hw⟩
 | .q is t,listed,a,w,hB,inv,hC,hw=>by
  simp only [ptB] at hB
  simp only [wpT] at hw
  exact wpAnyC_qs hsel hs hc hn1 hC (g:=ptLen t) (fun listed a hB inv hw=>wpAnyC_pt hsel hs hc hn1 t listed a w hB inv hC hw) is listed a hB inv hw
 | .step e t,listed,a,w,hB,inv,hC,hw=>by
  simp only [ptB,Bool.and_eq_true,decide_eq_true_eq] at hB
  simp only [wpT] at hw
  have hel:e < ops.size:=by omega
  have hre:e∈Region.ready md ops listed:=by rw [hB.1.1];simp
  rw [ptLen,Nat.add_comm 1]
  refine ⟨fun h0=>(by rw [hB.1.1] at h0;cases h0),fun i hi=>?_⟩
  rw [hB.1.1] at hi
  obtain rfl:i=e:=by simpa using hi
  exact opC_eff hB.1.2 hel hC hw (fun a w hC hw=>wpAnyC_pt hsel hs hc hn1 t _ a w hB.2 (inv.set hre hB.1.2) hC hw)
 | .fork i t j u,listed,a,w,hB,inv,hC,hw=>by
  simp only [ptB,Bool.and_eq_true,decide_eq_true_eq] at hB
  simp only [wpT] at hw
  obtain ⟨⟨⟨⟨⟨hr,hi⟩,hj⟩,hl⟩,hBt⟩,hBu⟩:=hB
  rw [ptLen,Nat.add_comm 1]
  refine ⟨fun h0=>(by rw [hr] at h0;cases h0),fun k hk=>?_⟩
  have hk':=hk
  rw [hr] at hk'
  simp only [List.mem_cons,List.not_mem_nil,or_false] at hk'
  rcases hk' with rfl | rfl
  ·exact opC_eff hi (by omega) hC hw.1 (fun a w hC hw=>wpAnyC_pt hsel hs hc hn1 t _ a w hBt (inv.set hk hi) hC hw)
  ·exact opC_eff hj (by omega) hC hw.2 (fun a w hC hw=>by rw [hl];exact wpAnyC_pt hsel hs hc hn1 u _ a w hBu (inv.set hk hj) hC hw)
theorem wp_t {id:Nat} {a:Act} {w:World} {l:List Oper} (C:World→Prop) (t:PT) (hm:P.follows .mixedOrders=true)
  (hB:(Region.noSelect l.toArray && Region.sinkB .any l.toArray (l.length - 1) && Region.chainB .any l.toArray (l.length - 1) && decide (0 < l.length) && decide (ptLen t=l.length) &&
   ptB .any l.toArray (l.length - 1) t (Array.replicate l.length false))=true)
  (hC:C w.drew) (h:wpT P l.toArray C Q t a w.drew):(Code.region id l.toArray true).wp P Q a w:=by
 simp only [Bool.and_eq_true,decide_eq_true_eq] at hB
 obtain ⟨⟨⟨⟨⟨hsel,hs⟩,hc⟩,hl0⟩,hlen⟩,hph⟩:=hB
 have inv0:HeadInv .any l.toArray (l.length - 1) (Array.replicate l.length false) :=
  ⟨by simp,fun j oj _ hl=>(by rw [getD_replicate_false] at hl;cases hl),fun t _ ht=>getD_in (by simpa using ht) (getD_replicate_false _ _)⟩
 have H:=wpAnyC_pt (P:=P) (md:=.any) (ops:=l.toArray) (C:=C) (Q:=Q) hsel hs hc (by simp <;> omega) t _ a w.drew hph inv0 hC h
 refine wp_region_any hm ?_
 have:=wpAny_of_C _ _ _ _ H
 rw [hlen] at this
 simpa using this
end
theorem wp_tS {P:Program} {Q:Exit→Act→World→Prop} {id:Nat} {a:Act} {w:World} {l:List Oper} (S:Nat→Prop) (t:PT) (hm:P.follows .mixedOrders=true)
  (hB:(Region.noSelect l.toArray && Region.sinkB .any l.toArray (l.length - 1) && Region.chainB .any l.toArray (l.length - 1) && decide (0 < l.length) && decide (ptLen t=l.length) &&
   ptB .any l.toArray (l.length - 1) t (Array.replicate l.length false))=true)
  (h:wpT P l.toArray (fun w'=>∃ p:Lat S w,w'=lat p) Q t a w.drew):(Code.region id l.toArray true).wp P Q a w :=
 wp_t (fun w'=>∃ p:Lat S w,w'=lat p) t hm hB (Lat.mk_ (Frm.drew (Frm.refl S w))) h
end Go.Tk
namespace Go.Tk
open Go.RowKit
theorem flat1 {α:Type} (c:α→Value) (xs:List α):xs.flatMap (fun x=>[c x])=xs.map c:=by
 induction xs with
 | nil=>rfl
 | cons x xs ih=>rw [List.flatMap_cons,ih];rfl
end Go.Tk
namespace Go.Tk
open Go.RowKit
section
variable {w w':World} {e:TypeId} {α:Type} {c:α→Value} {sb N C:Nat}
end
end Go.Tk
namespace Go.Tk
theorem bit_parts {i k:Nat}:i.testBit k=decide (i / 2 ^ k % 2=1):=by rw [Nat.testBit_eq_decide_div_mod_eq]
theorem low_mul (c r k j:Nat) (hr:r < 2 ^ k):(2 ^ k * c+r).testBit j=if j < k then r.testBit j else c.testBit (j - k):=Nat.testBit_two_pow_mul_add c hr j
theorem clr_bit {i k:Nat} (h:i.testBit k=true) (j:Nat):(i - 2 ^ k).testBit j=(i.testBit j && decide (j≠k)):=by
 have hp:0 < 2 ^ k:=Nat.pow_pos (by omega)
 have hr:=Nat.mod_lt i hp
 have hi:=Nat.div_add_mod i (2 ^ k)
 rw [bit_parts,decide_eq_true_eq] at h
 obtain ⟨c,hc⟩:∃ c,i / 2 ^ k=2 * c+1:=⟨i / 2 ^ k / 2,by omega⟩
 rw [hc] at hi
 have e1:i=2 ^ k * (2 * c+1)+i % 2 ^ k:=hi.symm
 have e2:i - 2 ^ k=2 ^ k * (2 * c)+i % 2 ^ k:=by
  rw [Nat.mul_add,Nat.mul_one] at hi
  omega
 rw [e2,low_mul _ _ _ _ hr]
 conv=>rhs;rw [e1,low_mul _ _ _ _ hr]
 rcases Nat.lt_trichotomy j k with hj | hj | hj
 ·simp [hj,show j≠k by omega]
 ·subst hj
  simp
 ·obtain ⟨d,hd⟩:∃ d,j - k=d+1:=⟨j - k - 1,by omega⟩
  rw [if_neg (by omega),if_neg (by omega),hd,Nat.testBit_succ,Nat.testBit_succ,show 2 * c / 2=c by omega,show (2 * c+1) / 2=c by omega]
  simp [show j≠k by omega]
theorem put_bit {i k:Nat} (h:i.testBit k=false) (j:Nat):(i+2 ^ k).testBit j=(i.testBit j || decide (j=k)):=by
 have hp:0 < 2 ^ k:=Nat.pow_pos (by omega)
 have hr:=Nat.mod_lt i hp
 have hi:=Nat.div_add_mod i (2 ^ k)
 rw [bit_parts,decide_eq_false_iff_not] at h
 obtain ⟨c,hc⟩:∃ c,i / 2 ^ k=2 * c:=⟨i / 2 ^ k / 2,by omega⟩
 rw [hc] at hi
 have e1:i=2 ^ k * (2 * c)+i % 2 ^ k:=hi.symm
 have e2:i+2 ^ k=2 ^ k * (2 * c+1)+i % 2 ^ k:=by
  rw [Nat.mul_add,Nat.mul_one]
  omega
 rw [e2,low_mul _ _ _ _ hr]
 conv=>rhs;rw [e1,low_mul _ _ _ _ hr]
 rcases Nat.lt_trichotomy j k with hj | hj | hj
 ·simp [hj,show j≠k by omega]
 ·subst hj
  simp
 ·obtain ⟨d,hd⟩:∃ d,j - k=d+1:=⟨j - k - 1,by omega⟩
  rw [if_neg (by omega),if_neg (by omega),hd,Nat.testBit_succ,Nat.testBit_succ,show 2 * c / 2=c by omega,show (2 * c+1) / 2=c by omega]
  simp [show j≠k by omega]
def wth (i v:Nat) (b:Bool):Nat:=(if i.testBit v then i - 2 ^ v else i)+(if b then 2 ^ v else 0)
theorem clr_bit2 (i k j:Nat):(if i.testBit k then i - 2 ^ k else i).testBit j=(i.testBit j && decide (j≠k)):=by
 cases h:i.testBit k with
 | true=>rw [if_pos rfl];exact clr_bit h j
 | false =>
  rw [if_neg (by decide)]
  by_cases hj:j=k
  ·subst hj;simp [h]
  ·simp [hj]
theorem wth_bit (i v:Nat) (b:Bool) (j:Nat):(wth i v b).testBit j=if j=v then b else i.testBit j:=by
 unfold wth
 have h:=clr_bit2 i v
 generalize (if i.testBit v then i - 2 ^ v else i)=c at h
 cases b with
 | false =>
  rw [if_neg (by decide),Nat.add_zero,h j]
  by_cases hj:j=v <;> simp [hj]
 | true =>
  rw [if_pos rfl,put_bit (by rw [h v];simp) j,h j]
  by_cases hj:j=v <;> simp [hj]
theorem wth_lt {i v n:Nat} {b:Bool} (hi:i < 2 ^ n) (hv:v < n):wth i v b < 2 ^ n:=by
 refine Nat.lt_pow_two_of_testBit _ fun j hj=>?_
 rw [wth_bit,if_neg (by omega)]
 exact Nat.testBit_lt_two_pow (Nat.lt_of_lt_of_le hi (Nat.pow_le_pow_right (by omega) hj))
theorem wth_of {i v:Nat} {b:Bool} {x:Nat} (h:∀ j,x.testBit j=if j=v then b else i.testBit j):x=wth i v b:=Nat.eq_of_testBit_eq fun j=>by rw [h,wth_bit]
theorem bit64 (k j v:Nat) (hj:j < 64):(64 * k+j).testBit v=if v < 6 then j.testBit v else k.testBit (v - 6):=low_mul k j 6 v hj
theorem wth_high {k j v:Nat} (b:Bool) (hj:j < 64) (hv:6≤v):wth (64 * k+j) v b=64 * wth k (v - 6) b+j:=by
 symm
 refine wth_of fun t=>?_
 rw [bit64 _ _ _ hj,bit64 _ _ _ hj,wth_bit]
 by_cases ht:t < 6
 ·rw [if_pos ht,if_pos ht,if_neg (by omega)]
 ·rw [if_neg ht,if_neg ht]
  by_cases h2:t=v
  ·subst h2;simp
  ·rw [if_neg h2,if_neg (by omega)]
theorem wth_low {k j v:Nat} (b:Bool) (hj:j < 64) (hv:v < 6):wth (64 * k+j) v b=64 * k+wth j v b:=by
 have hw:wth j v b < 64:=wth_lt (n:=6) hj hv
 symm
 refine wth_of fun t=>?_
 rw [bit64 _ _ _ hw,bit64 _ _ _ hj,wth_bit]
 by_cases ht:t < 6
 ·rw [if_pos ht,if_pos ht]
 ·rw [if_neg ht,if_neg ht,if_neg (by omega)]
theorem half_facts:∀ v,v < 6→∀ j,j < 64→(j.testBit v=true→(j+2 ^ v).testBit v=false∧2 ^ v≤j∧(j - 2 ^ v).testBit v=false)∧(j.testBit v=false→(j+2 ^ v).testBit v=true∧j+2 ^ v < 64∧(2 ^ v≤j→(j - 2 ^ v).testBit v=true)):=by decide +kernel
def halfW (v:Nat) (b:Bool) (x:Nat):Nat :=
 if b then (x &&& bsum (fun j=>j.testBit v) 64) ||| (x &&& bsum (fun j=>j.testBit v) 64) / 2 ^ 2 ^ v
 else (x &&& (18446744073709551615 - bsum (fun j=>j.testBit v) 64)) ||| ((x &&& (18446744073709551615 - bsum (fun j=>j.testBit v) 64)) * 2 ^ 2 ^ v) % 18446744073709551616
theorem not64_bit {x j:Nat} (hx:x < 18446744073709551616) (hj:j < 64):(18446744073709551615 - x).testBit j = !x.testBit j:=by
 have h:=Nat.testBit_two_pow_sub_succ (x:=x) (n:=64) hx j
 rw [show 18446744073709551615 - x=2 ^ 64 - (x+1) by omega,h]
 simp [hj]
theorem halfW_bit {v j x:Nat} (b:Bool) (hv:v < 6) (hj:j < 64):(halfW v b x).testBit j=x.testBit (wth j v b):=by
 obtain ⟨h1,h2⟩:=half_facts v hv j hj
 have hc:=bsum_lt (fun j=>j.testBit v) 64
 have hcb:=bsum_bit (fun j=>j.testBit v) 64
 unfold halfW wth
 generalize bsum (fun j=>j.testBit v) 64=c at hc hcb
 generalize 2 ^ v=s at h1 h2 ⊢
 cases b with
 | true =>
  rw [if_pos rfl,if_pos rfl,Nat.testBit_or,Nat.testBit_div_two_pow,Nat.testBit_and,Nat.testBit_and,hcb,hcb]
  cases hjv:j.testBit v with
  | true =>
   obtain ⟨g1,g2,g3⟩:=h1 hjv
   rw [if_pos rfl]
   simp [hj,g1,show j - s+s=j by omega]
  | false =>
   obtain ⟨g1,g2,g3⟩:=h2 hjv
   rw [if_neg (by decide)]
   simp [g1,g2]
 | false =>
  have hn:∀ t,t < 64→(x &&& (18446744073709551615 - c)).testBit t=(x.testBit t && !t.testBit v):=fun t ht=>by
   rw [Nat.testBit_and,not64_bit hc ht,hcb]
   simp [ht]
  simp only [Bool.false_eq_true,if_false,Nat.add_zero]
  rw [Nat.testBit_or,show (18446744073709551616:Nat)=2 ^ 64 by decide,Nat.testBit_mod_two_pow,Nat.mul_comm,Nat.testBit_two_pow_mul,hn j hj]
  cases hjv:j.testBit v with
  | true =>
   obtain ⟨g1,g2,g3⟩:=h1 hjv
   simp only [if_true]
   rw [hn (j - s) (by omega)]
   simp [hj,g2,g3]
  | false =>
   obtain ⟨g1,g2,g3⟩:=h2 hjv
   simp only [Bool.false_eq_true,if_false]
   by_cases hs:s≤j
   ·rw [hn (j - s) (by omega)]
    simp [g3 hs]
   ·simp [hs]
def halfN (v:Nat) (b:Bool) (ws:List Nat) (i:Nat):Nat:=if 6≤v then ws.getD (wth i (v - 6) b) 0 else halfW v b (ws.getD i 0)
end Go.Tk
namespace Go.Tk
def f1 (b:Nat):Nat:=((b / 2 ^ 1) &&& 85)+(b &&& 85)
def f2 (b:Nat):Nat:=((b / 2 ^ 2) &&& 51)+(b &&& 51)
end Go.Tk
namespace Go.Tk
open Go.RowKit
theorem Own.keptBy {w w':World} {e:TypeId} {m:Nat} {α:Type} {f:α→List Value} {A:Option Addr} {N C:Nat} {xs:List α} {row:Option Nat} (h:Own w e m f A N C xs) (hg:w.grownBy w' row) (hne:∀ b,row=some b→¬ rowOf A b):Own w' e m f A N C xs:=by
 refine ⟨h.len,h.own.kept hg ?_⟩
 cases hr:row with
 | none=>cases hv:(Value.slice A N C).ownBlock with
  | none=>exact .inl rfl
  | some b=>exact .inr (by simp)
 | some b =>
  refine .inr fun he=>?_
  exact hne b hr (ownBlock_row.1 he)
end Go.Tk
namespace Go.Tk
open Go.RowKit Go.Sort
inductive PF where
 | last (e:Nat)
 | q (is:List Nat) (t:PF)
 | br (i:Nat) (t:PF) (m:PF)
 | stop
def pfLen:PF→Nat
 | .last _=>1
 | .q is t=>is.length+pfLen t
 | .br _ t _=>1+pfLen t
 | .stop=>0
def pfHeads:PF→List Nat
 | .br i _ m=>i :: pfHeads m
 | _=>[]
section
variable {P:Program} {ops:Array Oper} {md:Region.Mode} {C:World→Prop} {Q:Exit→Act→World→Prop}
def wpF (P:Program) (ops:Array Oper) (C:World→Prop) (Q:Exit→Act→World→Prop):PF→Act→World→Prop
 | .last e,a,w=>wpList P ops Q (pick ops.toList [e]) a w
 | .q is t,a,w=>wpQuiet P ops C (fun a'=>wpF P ops C Q t a' w) (pick ops.toList is) a
 | .br i t .stop,a,w=>effStep P ops C (ops.toList.getD i default) a w (wpF P ops C Q t)
 | .br i t m,a,w=>effStep P ops C (ops.toList.getD i default) a w (wpF P ops C Q t)∧wpF P ops C Q m a w
 | .stop,_,_=>True
def pfB (md:Region.Mode) (ops:Array Oper) (n:Nat):Bool→PF→Array Bool→Bool
 | b,.last e,listed=>!b && decide (Region.ready md ops listed=[e]) && decide (e=n) && decide (Region.ready md ops (listed.setIfInBounds e true)=[])
 | b,.q is t,listed=>!b && qsB md ops n (pfB md ops n false t) is listed
 | b,.br i t m,listed=>(b || decide (Region.ready md ops listed=i :: pfHeads m)) && decide (i < n) && decide (pfHeads m=[]∨pfLen m=1+pfLen t) && pfB md ops n false t (listed.setIfInBounds i true) && pfB md ops n true m listed
 | b,.stop,_=>b
theorem wpF_br {i:Nat} {t m:PF} {a:Act} {w:World} (h:wpF P ops C Q (.br i t m) a w):effStep P ops C (ops.toList.getD i default) a w (wpF P ops C Q t)∧wpF P ops C Q m a w:=by
 cases m with
 | stop=>exact ⟨by simpa only [wpF] using h,by simp only [wpF]⟩
 | last e=>simpa only [wpF] using h
 | q is t=>simpa only [wpF] using h
 | br j u m=>simpa only [wpF] using h
theorem wpAnyC_pf {n:Nat} (hsel:Region.noSelect ops=true) (hs:Region.sinkB md ops n=true) (hc:Region.chainB md ops n=true) (hn1:n+1=ops.size):∀ (t:PF),
  (∀ (listed:Array Bool) (a:Act) (w:World),pfB md ops n false t listed=true→HeadInv md ops n listed→C w→wpF P ops C Q t a w→wpAnyC P md ops C Q n (pfLen t) listed a w) ∧
  (∀ (g:Nat) (listed:Array Bool) (a:Act) (w:World),pfB md ops n true t listed=true→(pfHeads t=[]∨pfLen t=g+1)→HeadInv md ops n listed→(∀ k∈pfHeads t,k∈Region.ready md ops listed)→C w→wpF P ops C Q t a w →
   ∀ k∈pfHeads t,opC P ops C Q n k (fun a w=>wpAnyC P md ops C Q n g (listed.setIfInBounds k true) a w) a w):=by
 intro t
 induction t with
 | last e =>
  refine ⟨fun listed a w hB inv hC hw=>?_,fun g listed a w hB=>by simp [pfB] at hB⟩
  simp only [pfB,Bool.not_false,Bool.true_and] at hB
  simp only [wpF] at hw
  simp only [Bool.and_eq_true,decide_eq_true_eq] at hB
  have hel:e < ops.size:=by omega
  have ho:ops[e]?=some ops[e]:=Array.getElem?_eq_getElem hel
  refine ⟨fun h0=>(by rw [hB.1.1] at h0;cases h0),fun i hi=>?_⟩
  rw [hB.1.1] at hi
  obtain rfl:i=e:=by simpa using hi
  have hp:pick ops.toList [i]=[ops[i]]:=by simp [pick,ho]
  rw [hp] at hw
  simp only [wpList] at hw
  unfold opC
  rw [if_neg (by omega)]
  unfold wpOp
  simp only [ho]
  split at hw
  ·rename_i hwt
   rw [if_pos hwt]
   rcases hw with hw | hw
   ·exact .inl (Oper.wp_imp (fun a' w' hq=>⟨hB.2,hq⟩) (fun _ _ _ h=>h) hw)
   ·exact .inr hw
  ·rename_i hwt
   rw [if_neg hwt]
   exact ⟨hB.2,hw⟩
 | q is t ih =>
  refine ⟨fun listed a w hB inv hC hw=>?_,fun g listed a w hB=>by simp [pfB] at hB⟩
  simp only [pfB,Bool.not_false,Bool.true_and] at hB
  simp only [wpF] at hw
  exact wpAnyC_qs hsel hs hc hn1 hC (g:=pfLen t) (fun listed a hB inv hw=>ih.1 listed a w hB inv hC hw) is listed a hB inv hw
 | stop=>exact ⟨fun listed a w hB=>by simp [pfB] at hB,fun g listed a w hB hl inv hr hC hw k hk=>by simp [pfHeads] at hk⟩
 | br i t m iht ihm =>
  have key:∀ (g:Nat) (listed:Array Bool) (a:Act) (w:World),i < n→pfLen t=g→(pfHeads m=[]∨pfLen m=g+1)→pfB md ops n false t (listed.setIfInBounds i true)=true→pfB md ops n true m listed=true→HeadInv md ops n listed→i∈Region.ready md ops listed→(∀ k∈pfHeads m,k∈Region.ready md ops listed)→C w→wpF P ops C Q (.br i t m) a w →
    ∀ k∈i :: pfHeads m,opC P ops C Q n k (fun a w=>wpAnyC P md ops C Q n g (listed.setIfInBounds k true) a w) a w:=by
   intro g listed a w hi hg hl hBt hBm inv hri hrm hC hw k hk
   obtain ⟨h1,h2⟩:=wpF_br hw
   rcases List.mem_cons.1 hk with rfl | hk
   ·refine opC_eff hi (by omega) hC h1 (fun a w hC hw=>?_)
    rw [← hg]
    exact iht.1 _ a w hBt (inv.set hri hi) hC hw
   ·exact ihm.2 g listed a w hBm hl inv hrm hC h2 k hk
  refine ⟨fun listed a w hB inv hC hw=>?_,fun g listed a w hB hl inv hr hC hw=>?_⟩
  ·simp only [pfB,Bool.false_or,Bool.and_eq_true,decide_eq_true_eq] at hB
   obtain ⟨⟨⟨⟨hr,hi⟩,hl⟩,hBt⟩,hBm⟩:=hB
   rw [pfLen,Nat.add_comm 1]
   refine ⟨fun h0=>(by rw [hr] at h0;cases h0),fun k hk=>?_⟩
   refine key (pfLen t) listed a w hi rfl (hl.imp id (fun h=>by omega)) hBt hBm inv (by rw [hr];exact List.mem_cons_self) (fun k hk=>by rw [hr];exact List.mem_cons_of_mem _ hk) hC hw k (by rw [← hr];exact hk)
  ·simp only [pfB,Bool.true_or,Bool.true_and,Bool.and_eq_true,decide_eq_true_eq] at hB
   obtain ⟨⟨⟨hi,hl'⟩,hBt⟩,hBm⟩:=hB
   have hg:pfLen t=g:=by
    rcases hl with h | h
    ·simp [pfHeads] at h
    ·simp only [pfLen] at h;omega
   exact key g listed a w hi hg (hl'.imp id (fun h=>by omega)) hBt hBm inv (hr _ (by simp [pfHeads])) (fun k hk=>hr k (by simp [pfHeads,hk])) hC hw
theorem wp_f {id:Nat} {a:Act} {w:World} {l:List Oper} (C:World→Prop) (t:PF) (hm:P.follows .mixedOrders=true)
  (hB:(Region.noSelect l.toArray && Region.sinkB .any l.toArray (l.length - 1) && Region.chainB .any l.toArray (l.length - 1) && decide (0 < l.length) && decide (pfLen t=l.length) &&
   pfB .any l.toArray (l.length - 1) false t (Array.replicate l.length false))=true)
  (hC:C w.drew) (h:wpF P l.toArray C Q t a w.drew):(Code.region id l.toArray true).wp P Q a w:=by
 simp only [Bool.and_eq_true,decide_eq_true_eq] at hB
 obtain ⟨⟨⟨⟨⟨hsel,hs⟩,hc⟩,hl0⟩,hlen⟩,hph⟩:=hB
 have inv0:HeadInv .any l.toArray (l.length - 1) (Array.replicate l.length false) :=
  ⟨by simp,fun j oj _ hl=>(by rw [getD_replicate_false] at hl;cases hl),fun t _ ht=>getD_in (by simpa using ht) (getD_replicate_false _ _)⟩
 have H:=(wpAnyC_pf (P:=P) (md:=.any) (ops:=l.toArray) (C:=C) (Q:=Q) hsel hs hc (by simp <;> omega) t).1 _ a w.drew hph inv0 hC h
 refine wp_region_any hm ?_
 have:=wpAny_of_C _ _ _ _ H
 rw [hlen] at this
 simpa using this
end
theorem wp_fS {P:Program} {Q:Exit→Act→World→Prop} {id:Nat} {a:Act} {w:World} {l:List Oper} (S:Nat→Prop) (t:PF) (hm:P.follows .mixedOrders=true)
  (hB:(Region.noSelect l.toArray && Region.sinkB .any l.toArray (l.length - 1) && Region.chainB .any l.toArray (l.length - 1) && decide (0 < l.length) && decide (pfLen t=l.length) &&
   pfB .any l.toArray (l.length - 1) false t (Array.replicate l.length false))=true)
  (h:wpF P l.toArray (fun w'=>∃ p:Lat S w,w'=lat p) Q t a w.drew):(Code.region id l.toArray true).wp P Q a w :=
 wp_f (fun w'=>∃ p:Lat S w,w'=lat p) t hm hB (Lat.mk_ (Frm.drew (Frm.refl S w))) h
end Go.Tk
namespace Go.Tk
def rng (n:Nat):List Int:=(List.range n).map (fun i:Nat=>(i:Int))
theorem rng_len (n:Nat):(rng n).length=n:=by simp [rng]
theorem mem_rng {n:Nat} {x:Int}:x∈rng n↔0≤x∧x < n:=by
 unfold rng
 simp only [List.mem_map,List.mem_range]
 constructor
 ·rintro ⟨i,hi,rfl⟩;omega
 ·intro h;exact ⟨x.toNat,by omega,by omega⟩
theorem rng_nodup (n:Nat):(rng n).Nodup:=by
 unfold rng List.Nodup
 rw [List.pairwise_map]
 exact (List.nodup_range (n:=n)).imp (fun h h2=>h (by omega))
theorem rng_get {n i:Nat} (h:i < n):(rng n)[i]?=some (i:Int):=by simp [rng,h]
theorem sub_perm {α:Type} [DecidableEq α]:∀ (l p:List α),l.Nodup→(∀ x∈l,x∈p)→p.length≤l.length→p.Perm l
 | [],p,_,_,h=>by
  have:p=[]:=List.eq_nil_of_length_eq_zero (by simpa using h)
  subst this
  exact .refl _
 | v :: l,p,hn,hs,h=>by
  have hv:v∈p:=hs v (by simp)
  have h1:=List.perm_cons_erase hv
  rw [List.nodup_cons] at hn
  refine h1.trans (.cons v (sub_perm l _ hn.2 (fun x hx=>?_) ?_))
  ·exact (List.mem_erase_of_ne (by rintro rfl;exact hn.1 hx)).2 (hs x (by simp [hx]))
  ·rw [List.length_erase_of_mem hv]
   simp at h
   omega
def IsPerm (p:List Int):Prop:=(∀ x,x∈p→0≤x∧x < p.length)∧p.Nodup
instance (p:List Int):Decidable (IsPerm p):=by unfold IsPerm;infer_instance
theorem IsPerm.perm {p:List Int} (h:IsPerm p):p.Perm (rng p.length) :=
 (sub_perm p (rng p.length) h.2 (fun x hx=>mem_rng.2 (h.1 x hx)) (by rw [rng_len];exact Nat.le_refl _)).symm
theorem IsPerm.of_perm {p:List Int} {n:Nat} (h:p.Perm (rng n)):IsPerm p:=by
 have hl:p.length=n:=by rw [h.length_eq,rng_len]
 exact ⟨fun x hx=>by rw [hl];exact mem_rng.1 (h.mem_iff.1 hx),h.nodup_iff.2 (rng_nodup n)⟩
theorem IsPerm.mem {p:List Int} (h:IsPerm p) {v:Nat} (hv:v < p.length):(v:Int)∈p:=h.perm.mem_iff.2 (mem_rng.2 (by omega))
theorem isPerm_of_all {p:List Int} (h:∀ v:Nat,v < p.length→(v:Int)∈p):IsPerm p:=by
 have:=sub_perm (rng p.length) p (rng_nodup _) (fun x hx=>by
  have h2:=mem_rng.1 hx
  have:=h x.toNat (by omega)
  rwa [show ((x.toNat:Nat):Int)=x by omega] at this) (by rw [rng_len];exact Nat.le_refl _)
 exact .of_perm this
def chk (p:List Int):Int:=if IsPerm p then (if 64 < p.length then 13 else 0) else 4
theorem chk_ok {p:List Int}:chk p=0↔IsPerm p∧p.length≤64:=by
 unfold chk
 split
 ·split
  ·simp <;> omega
  ·rename_i h1 h2;simp [h1] <;> omega
 ·rename_i h;simp [h]
def plc (p:List Int) (x:Int):Int:=if p.idxOf x < p.length then (p.idxOf x:Int) else -1
theorem plc_neg {p:List Int} {x:Int}:plc p x < 0↔x ∉ p:=by
 unfold plc
 split
 ·rename_i h;simp [List.idxOf_lt_length_iff.1 h]
 ·rename_i h
  have:x ∉ p:=fun hm=>h (List.idxOf_lt_length_iff.2 hm)
  simp [this]
end Go.Tk
namespace Go.Tk
theorem plc_first {p:List Int} {k:Nat} {x:Int} (h:p[k]?=some x) (hn:x ∉ p.take k):plc p x=k:=by
 have hl:k < p.length:=by
  rcases Nat.lt_or_ge k p.length with h' | h'
  ·exact h'
  ·rw [List.getElem?_eq_none h'] at h;cases h
 have hi:p.idxOf x=k:=by
  have h1:p=p.take k ++ p.drop k:=(List.take_append_drop k p).symm
  have h2:p.drop k=x :: p.drop (k+1):=by
   rw [List.getElem?_eq_getElem hl] at h
   injection h with h
   rw [List.drop_eq_getElem_cons hl,h]
  rw [h1,h2,List.idxOf_append,if_neg hn]
  simp
  omega
 unfold plc
 rw [hi,if_pos hl]
theorem plc_none {p:List Int} {x:Int} (h:x ∉ p):plc p x = -1:=by
 unfold plc
 rw [if_neg]
 exact fun h'=>h (List.idxOf_lt_length_iff.1 h')
def swp (p:List Int) (l:Nat):List Int:=(p.set l (p.getD (l+1) 0)).set (l+1) (p.getD l 0)
theorem swp_len (p:List Int) (l:Nat):(swp p l).length=p.length:=by simp [swp]
end Go.Tk
namespace Go.Tk
open Go.RowKit Go.Sort
section
variable {P:Program} {ops:Array Oper} {md:Region.Mode} {C:World→Prop} {Q:Exit→Act→World→Prop}
theorem wpAnyC_one {n i:Nat} {oi:Oper} {v:Value} (hi:ops[i]?=some oi) (hsel:∀ (j:Nat) (o:Oper) cs b,ops[j]?=some o→o.op≠.select cs b) (hn1:n=ops.size) (hin:i < n) :
  ∀ (f:Nat) (listed:Array Bool) (a:Act) (w:World),
   (∀ j oj,ops[j]?=some oj→j≠i→listed.getD j true=false→(∀ e∈oj.after,Region.binds md e=true→e.on≠i)→oi.apart ops oj=true) →
   i∈Region.ready md ops listed→C w→YC P ops C oi v a →
   wpAnyC P md ops C Q n f (listed.setIfInBounds i true) (a.put oi.dst v) w→wpAnyC P md ops C Q n (f+1) listed a w:=by
 intro f
 induction f with
 | zero =>
  intro listed a w _ hr hC hy H
  refine ⟨fun h=>(by rw [h] at hr;cases hr),fun j hj=>?_⟩
  by_cases hji:j=i
  ·subst hji;exact opC_of_YC hi hin hC hy H
  ·have:=ready_mono hj hji
   rw [H.1] at this
   cases this
 | succ f ih =>
  intro listed a w hfree hr hC hy H
  have hun:=(mem_ready.1 hr).1
  refine ⟨fun h=>(by rw [h] at hr;cases hr),fun j hj=>?_⟩
  by_cases hji:j=i
  ·subst hji;exact opC_of_YC hi hin hC hy H
  ·have h1:=H.2 j (ready_mono hj hji)
   obtain ⟨hjun,oj,hoj,hall⟩:=mem_ready.1 hj
   have hjn:j < n:=by
    rw [hn1]
    exact (Array.getElem?_eq_some_iff.1 hoj).1
   have hnot:∀ e∈oj.after,Region.binds md e=true→e.on≠i:=fun e he hb heq=>by
    have h1:=hall e he hb
    rw [heq,getD_both hun] at h1
    cases h1
   have h2:=opC_put hoj hjn (hfree j oj hoj hji hjun hnot) (fun cs b=>hsel i oi cs b hi) (fun cs b=>hsel j oj cs b hoj) hC hy h1
   have hfree':∀ k ok,ops[k]?=some ok→k≠i→(listed.setIfInBounds j true).getD k true=false →
     (∀ e∈ok.after,Region.binds md e=true→e.on≠i)→oi.apart ops ok=true:=fun k ok hk hki hun hno=>by
    refine hfree k ok hk hki ?_ hno
    by_cases hjk:j=k
    ·subst hjk;exact hjun
    ·rw [getD_set_ne true hjk] at hun;exact hun
   refine opC_mono (fun a' w' h3=>ih (listed.setIfInBounds j true) a' w' hfree' (ready_mono hr (Ne.symm hji)) h3.1 h3.2.1 ?_) h2
   rw [Array.setIfInBounds_comm _ _ hji]
   exact h3.2.2
def wpPe (P:Program) (ops:Array Oper) (C:World→Prop) (Q:Exit→Act→World→Prop) (t:List Nat):List (List Nat × Nat)→Act→World→Prop
 | [],a,w=>wpQuiet P ops C (fun a'=>Q .normal a' w) (pick ops.toList t) a
 | (is,e) :: r,a,w=>wpQuiet P ops C (fun a'=>effStep P ops C (ops.toList.getD e default) a' w (wpPe P ops C Q t r)) (pick ops.toList is) a
def peB (md:Region.Mode) (ops:Array Oper) (n:Nat) (t:List Nat):List (List Nat × Nat)→Array Bool→Bool
 | [],listed=>qsB md ops n (fun listed=>decide (Region.ready md ops listed=[])) t listed
 | (is,e) :: r,listed=>qsB md ops n (fun listed=>decide (Region.ready md ops listed=[e]) && decide (e < n) && peB md ops n t r (listed.setIfInBounds e true)) is listed
def peLen (t:List Nat):List (List Nat × Nat)→Nat
 | []=>t.length+0
 | (is,_) :: r=>is.length+(1+peLen t r)
theorem wpAnyC_qe {n g:Nat} {B:Array Bool→Bool} {w:World} {L:Act→Prop} (hsel:Region.noSelect ops=true) (hn1:n=ops.size) (hC:C w)
  (hL:∀ listed a,B listed=true→L a→wpAnyC P md ops C Q n g listed a w) :
  ∀ (is:List Nat) (listed:Array Bool) (a:Act),qsB md ops n B is listed=true→wpQuiet P ops C L (pick ops.toList is) a→wpAnyC P md ops C Q n (is.length+g) listed a w
 | [],listed,a,hB,h=>by
  rw [List.length_nil,Nat.zero_add]
  exact hL listed a hB h
 | i :: r,listed,a,hB,h=>by
  simp only [qsB,Bool.and_eq_true,decide_eq_true_eq] at hB
  obtain ⟨⟨⟨⟨hin,hcalm⟩,hr⟩,hf⟩,hB'⟩:=hB
  have hel:i < ops.size:=by omega
  have ho:ops[i]?=some ops[i]:=Array.getElem?_eq_getElem hel
  simp only [calmAt,ho] at hcalm
  have hr':i∈Region.ready md ops listed:=by simpa using hr
  have hp:pick ops.toList (i :: r)=ops[i] :: pick ops.toList r:=by simp [pick,ho]
  rw [hp] at h
  rw [List.length_cons,show r.length+1+g=(r.length+g)+1 by omega]
  simp only [wpQuiet] at h
  split at h
  ·rename_i hw
   obtain ⟨v,hv,hK⟩:=h
   refine wpAnyC_one ho (Region.noSelect_spec hsel) hn1 hin _ listed a w (Region.free_spec ho hf) hr' hC (v:=v) ?_ (wpAnyC_qe hsel hn1 hC hL r _ _ hB' hK)
   refine .inl ⟨hw,fun w hw'=>?_⟩
   have h3:=hv w hw'
   unfold Oper.quietAt at h3
   have hne:=fun w' f args=>calm_enter (P:=P) (ev:=a.eval) (w:=w) (w':=w') (f:=f) (args:=args) hcalm
   generalize (execOp a.eval ops[i]).run P w=res at h3 hne ⊢
   cases res with
   | ok nx w' =>
    cases nx <;> simp only [Oper.quietUpon] at h3
    case value u=>obtain ⟨rfl,rfl⟩:=h3;exact .inl rfl
    case skip=>obtain ⟨rfl,rfl⟩:=h3;exact .inr ⟨rfl,rfl⟩
    case enter f args=>exact absurd rfl (hne w' f args)
   | halt x w'=>simp only [Oper.quietUpon] at h3
  ·rename_i hw
   exact wpAnyC_one ho (Region.noSelect_spec hsel) hn1 hin _ listed a w (Region.free_spec ho hf) hr' hC (v:=undef) (.inr ⟨by simpa using hw,rfl⟩) (wpAnyC_qe hsel hn1 hC hL r _ _ hB' h)
theorem wpAnyC_pe {n:Nat} {t:List Nat} (hsel:Region.noSelect ops=true) (hn1:n=ops.size) :
  ∀ (ph:List (List Nat × Nat)) (listed:Array Bool) (a:Act) (w:World),peB md ops n t ph listed=true→C w→wpPe P ops C Q t ph a w→wpAnyC P md ops C Q n (peLen t ph) listed a w
 | [],listed,a,w,h,hC,hw=>by
  simp only [peB] at h
  simp only [wpPe] at hw
  refine wpAnyC_qe hsel hn1 hC (g:=0) (fun listed a hB hw=>?_) t listed a h hw
  exact ⟨of_decide_eq_true hB,hw⟩
 | (is,e) :: r,listed,a,w,h,hC,hw=>by
  simp only [peB] at h
  simp only [wpPe] at hw
  refine wpAnyC_qe hsel hn1 hC (g:=1+peLen t r) (fun listed a hB hw=>?_) is listed a h hw
  simp only [Bool.and_eq_true,decide_eq_true_eq] at hB
  have hel:e < ops.size:=by omega
  have ho:ops[e]?=some ops[e]:=Array.getElem?_eq_getElem hel
  rw [Nat.add_comm 1]
  refine ⟨fun h0=>(by rw [hB.1.1] at h0;cases h0),fun i hi=>?_⟩
  rw [hB.1.1] at hi
  obtain rfl:i=e:=by simpa using hi
  have hg:ops.toList.getD i default=ops[i]:=by simp [ho]
  rw [hg] at hw
  unfold effStep at hw
  unfold opC
  rw [if_pos hB.1.2]
  simp only [ho]
  split at hw
  ·rename_i hwt
   rw [if_pos hwt]
   exact Oper.wp_imp (fun a' w' hq=>⟨hq.1,wpAnyC_pe hsel hn1 r _ _ _ hB.2 hq.1 hq.2⟩) (fun _ _ _ h=>h) hw
  ·rename_i hwt
   rw [if_neg hwt]
   exact wpAnyC_pe hsel hn1 r _ _ _ hB.2 hC hw
theorem wp_pe {id:Nat} {a:Act} {w:World} {l:List Oper} (C:World→Prop) (ph:List (List Nat × Nat)) (t:List Nat) (hm:P.follows .mixedOrders=true)
  (hB:(Region.noSelect l.toArray && decide (peLen t ph=l.length) && peB .any l.toArray l.length t ph (Array.replicate l.length false))=true)
  (hC:C w.drew) (h:wpPe P l.toArray C Q t ph a w.drew):(Code.region id l.toArray true).wp P Q a w:=by
 simp only [Bool.and_eq_true,decide_eq_true_eq] at hB
 obtain ⟨⟨hsel,hlen⟩,hph⟩:=hB
 have H:=wpAnyC_pe (P:=P) (md:=.any) (ops:=l.toArray) (C:=C) (Q:=Q) hsel (by simp) ph _ a w.drew hph hC h
 refine wp_region_any hm ?_
 have:=wpAny_of_C _ _ _ _ H
 rw [hlen] at this
 simpa using this
end
theorem wp_peS {P:Program} {Q:Exit→Act→World→Prop} {id:Nat} {a:Act} {w:World} {l:List Oper} (S:Nat→Prop) (ph:List (List Nat × Nat)) (t:List Nat) (hm:P.follows .mixedOrders=true)
  (hB:(Region.noSelect l.toArray && decide (peLen t ph=l.length) && peB .any l.toArray l.length t ph (Array.replicate l.length false))=true)
  (h:wpPe P l.toArray (fun w'=>∃ p:Lat S w,w'=lat p) Q t ph a w.drew):(Code.region id l.toArray true).wp P Q a w :=
 wp_pe (fun w'=>∃ p:Lat S w,w'=lat p) ph t hm hB (Lat.mk_ (Frm.drew (Frm.refl S w))) h
section
variable {P:Program} {ops:Array Oper} {C:World→Prop} {Q:Exit→Act→World→Prop}
end
end Go.Tk
namespace Go.Proofs.YtiomgckodmecbaaGreat
open Go.Shelf
structure SlZ32.n6 (P:Program) (ρ:Ren):Prop where
 mixed:P.follows .mixedOrders=true
 f6:Bears P (ρ.f 6) (SlBodyZ.n6 ρ)
 f8:Bears P (ρ.f 8) (SlBodyZ.n8 ρ)
 f11:Bears P (ρ.f 11) (SlBodyZ.n11 ρ)
 t0:P.underlying (ρ.t 0)=some (TypeDesc.tuple #[])
 a0:∀ w,(isAgg (ρ.t 0)).run P w=.ok false w
 z0:∀ w,(Go.sizeOf (ρ.t 0)).run P w=.ok 1 w
 v0:∀ w,(zeroValue (ρ.t 0)).run P w=.ok (Value.tuple #[]) w
 t24:P.underlying (ρ.t 24)=some (TypeDesc.slice (ρ.t 26))
 a24:∀ w,(isAgg (ρ.t 24)).run P w=.ok false w
 z24:∀ w,(Go.sizeOf (ρ.t 24)).run P w=.ok 1 w
 v24:∀ w,(zeroValue (ρ.t 24)).run P w=.ok (Value.slice none 0 0) w
 t26:P.underlying (ρ.t 26)=some (TypeDesc.int IntKind.u32)
 a26:∀ w,(isAgg (ρ.t 26)).run P w=.ok false w
 z26:∀ w,(Go.sizeOf (ρ.t 26)).run P w=.ok 1 w
 v26:∀ w,(zeroValue (ρ.t 26)).run P w=.ok (Value.int IntKind.u32 0) w
 t28:P.underlying (ρ.t 28)=some (TypeDesc.func #[ρ.t 33] #[] false)
 a28:∀ w,(isAgg (ρ.t 28)).run P w=.ok false w
 z28:∀ w,(Go.sizeOf (ρ.t 28)).run P w=.ok 1 w
 v28:∀ w,(zeroValue (ρ.t 28)).run P w=.ok (Value.nilFunc) w
 i26:(P.info? (ρ.t 26)).map (fun i=>(i.zero,i.size,i.bytes))=some (some (.int .u32 0),1,4)
structure SlZ32.n8 (P:Program) (ρ:Ren):Prop where
 mixed:P.follows .mixedOrders=true
 f8:Bears P (ρ.f 8) (SlBodyZ.n8 ρ)
 f11:Bears P (ρ.f 11) (SlBodyZ.n11 ρ)
 t0:P.underlying (ρ.t 0)=some (TypeDesc.tuple #[])
 a0:∀ w,(isAgg (ρ.t 0)).run P w=.ok false w
 z0:∀ w,(Go.sizeOf (ρ.t 0)).run P w=.ok 1 w
 v0:∀ w,(zeroValue (ρ.t 0)).run P w=.ok (Value.tuple #[]) w
 t24:P.underlying (ρ.t 24)=some (TypeDesc.slice (ρ.t 26))
 a24:∀ w,(isAgg (ρ.t 24)).run P w=.ok false w
 z24:∀ w,(Go.sizeOf (ρ.t 24)).run P w=.ok 1 w
 v24:∀ w,(zeroValue (ρ.t 24)).run P w=.ok (Value.slice none 0 0) w
 t26:P.underlying (ρ.t 26)=some (TypeDesc.int IntKind.u32)
 a26:∀ w,(isAgg (ρ.t 26)).run P w=.ok false w
 z26:∀ w,(Go.sizeOf (ρ.t 26)).run P w=.ok 1 w
 v26:∀ w,(zeroValue (ρ.t 26)).run P w=.ok (Value.int IntKind.u32 0) w
 t28:P.underlying (ρ.t 28)=some (TypeDesc.func #[ρ.t 33] #[] false)
 a28:∀ w,(isAgg (ρ.t 28)).run P w=.ok false w
 z28:∀ w,(Go.sizeOf (ρ.t 28)).run P w=.ok 1 w
 v28:∀ w,(zeroValue (ρ.t 28)).run P w=.ok (Value.nilFunc) w
 i26:(P.info? (ρ.t 26)).map (fun i=>(i.zero,i.size,i.bytes))=some (some (.int .u32 0),1,4)
structure SlZ32.n11 (P:Program) (ρ:Ren):Prop where
 mixed:P.follows .mixedOrders=true
 f11:Bears P (ρ.f 11) (SlBodyZ.n11 ρ)
 t0:P.underlying (ρ.t 0)=some (TypeDesc.tuple #[])
 a0:∀ w,(isAgg (ρ.t 0)).run P w=.ok false w
 z0:∀ w,(Go.sizeOf (ρ.t 0)).run P w=.ok 1 w
 v0:∀ w,(zeroValue (ρ.t 0)).run P w=.ok (Value.tuple #[]) w
 t24:P.underlying (ρ.t 24)=some (TypeDesc.slice (ρ.t 26))
 a24:∀ w,(isAgg (ρ.t 24)).run P w=.ok false w
 z24:∀ w,(Go.sizeOf (ρ.t 24)).run P w=.ok 1 w
 v24:∀ w,(zeroValue (ρ.t 24)).run P w=.ok (Value.slice none 0 0) w
 t26:P.underlying (ρ.t 26)=some (TypeDesc.int IntKind.u32)
 a26:∀ w,(isAgg (ρ.t 26)).run P w=.ok false w
 z26:∀ w,(Go.sizeOf (ρ.t 26)).run P w=.ok 1 w
 v26:∀ w,(zeroValue (ρ.t 26)).run P w=.ok (Value.int IntKind.u32 0) w
 t28:P.underlying (ρ.t 28)=some (TypeDesc.func #[ρ.t 33] #[] false)
 a28:∀ w,(isAgg (ρ.t 28)).run P w=.ok false w
 z28:∀ w,(Go.sizeOf (ρ.t 28)).run P w=.ok 1 w
 v28:∀ w,(zeroValue (ρ.t 28)).run P w=.ok (Value.nilFunc) w
 i26:(P.info? (ρ.t 26)).map (fun i=>(i.zero,i.size,i.bytes))=some (some (.int .u32 0),1,4)
end Go.Proofs.YtiomgckodmecbaaGreat
